/- FnExactDeskRun answers true for every desk and all deeds: DeskRun answers what the reference answers, leaves its arguments, and shares no memory. Conditions: none. -/
import Derived.Test.YtlpjnnepjlaclaaDoorP1
import Derived.Test.YtlpjnnepjlaclaaDoorCards
import Derived.Test.YtlpjnnepjlaclaaDoorTie
import Derived.WalkKit
import Derived.ProofKit
import Derived.OpenShut
import Derived.ShutString
import Derived.ChangeOld
import Derived.Below
import Derived.SizedLaws
import Derived.LaidMore
import Derived.Lay
import Derived.MakeChecks
import Derived.Stop.Joined
import Derived.SevenTiedAt
namespace Go.Proofs.YtlpjnnepjlaclaaDoor.fnExactDeskRun
open Go.ChangeShapes Go.WideShapes Go.ChangeAt Go.RowKit FN
open Go.ChangeMaps (open_string shut_string)
set_option linter.unusedVariables false
set_option linter.unusedSimpArgs false
theorem own : ownKnob Tryd.prog.godebug = none := by kernel_rfl
theorem laidOut : laidOutB Tryd.prog = true := by kernel_rfl
theorem shapes : sigRS Tryd.prog Tryd.f6.params.toList = some (w_FnExactDeskRun_sig.ps, w_FnExactDeskRun_sig.pc) := by kernel_rfl
theorem readable : Tryd.f6.params.toList.all (fun t => Tryd.prog.readableRec t && decide (t < Tryd.prog.types.size)) = true := by kernel_rfl
theorem gli {W : World} (h : W.ShapedOpen Tryd.prog) : Gl.I W := gl_of_shaped (k := .i64) (t := 3) (zero := #[.int .i64 0]) h (of_decide_eq_true (by kernel_rfl)) (by kernel_rfl) rfl (by kernel_rfl) (by kernel_rfl) (by kernel_rfl)
/-- The door's own heap meets the condition. -/
theorem door_met (os : Os) (args : Array Value) : laidMetH Tryd.prog Rows.fnExactDeskRunRow.laid ((World.laidAll Tryd.prog os Rows.fnExactDeskRunRow.laid).forCall (fun _ _ => 0) ⟨#[], args, []⟩).memory := by
  rw [MakeChecks.laidMetH_plain _ _ _ (by kernel_rfl)]
  exact laidMet_laidAll _ (by kernel_rfl) (by kernel_rfl)
set_option maxRecDepth 100000 in
theorem lifted (os : Os) (started : os.Started) (H : Type) (enc : TypeId × Value → H) :
    ReturnsInHanded {} Tryd.checked os 6 .any (fun w args => (Rows.fnExactDeskRunSpec.pre enc Tryd.prog Tryd.f6 [] false w args ∧ laidMetH Tryd.prog Rows.fnExactDeskRunRow.laid w) ∧ sizedMet enc Tryd.prog Tryd.f6 (OpenSpec.ofChange Rows.fnExactDeskRunSpec) false w args)
      (Rows.fnExactDeskRunSpec.post enc Tryd.prog Tryd.f6 false true false false) := by
  refine FN.change_and_shaped (C := Tryd.checked) (X := fun w _ => laidMetH Tryd.prog Rows.fnExactDeskRunRow.laid w) (fun _ _ _ hh h => h.of_heap hh) own started (by kernel_rfl) Tryd.func6
    (ChangeSpec.witness_shaped (enc := enc) (C := Tryd.checked) (os := os) (X := fun w _ => laidMetH Tryd.prog Rows.fnExactDeskRunRow.laid w) false (World.laidAll Tryd.prog os Rows.fnExactDeskRunRow.laid) #[.agg #[.slice none 0 0, .int .i64 0, .slice none 0 0, .slice none 0 0], .slice none 0 0] 8 (World.laidAll_os _ _ _) (World.shaped_of_ZipB (by kernel_rfl) (by kernel_rfl)) (by kernel_rfl) (by kernel_rfl) (by kernel_rfl) (door_met os _)) ?_
  intro W base args ds gs before hval0 hW _ _ hL hsh
  have hval : ∀ (j : Nat) t v, Tryd.f6.params[j]? = some t → args[j]? = some v → Value.okWide Tryd.prog W .any base t v := hval0
  have hW' := hW
  obtain ⟨p, q, hA0, hV, rfl, hfz, hnd⟩ := hW
  have hA : DataW.TrodAll enc Tryd.prog W 0 (fun _ => true) true Tryd.f6.params.toList args.toList ds p := hA0
  obtain ⟨rfl, rfl⟩ := trodVars_none hV
  have hspec : (Rows.fnExactDeskRunSpec.fn H (ds ++ [])) = { results := [.lit (.bool true)], args := ds } := by
    have hlen : ds.length = 2 := (TrodAll_len hA).trans (by kernel_rfl)
    match ds, hlen with
    | [d0, d1], _ => rfl
  obtain ⟨fl, hfl, x, hx, hwf⟩ := open_args (base := base) hA (fun j t v hj hv => hval j t v (by simpa using hj) (by simpa using hv)) shapes
  refine (FN.law_calls w_FnExactDeskRun_ok (gli hsh) hfl hx (FnExactDeskRun_true x hwf)).mono fun e W' ⟨he, bel⟩ => ?_
  subst he
  obtain ⟨p', hp'⟩ := args_keep laidOut bel (fun t ht => by
    have := List.all_eq_true.1 readable t ht
    simpa using this) hA
  refine ⟨_, rfl, _, _, _, [], p', [], hW', ?_, ?_, ?_, bel.frame _, fun h => by cases h⟩
  · rw [hspec]; exact trodAll_mk1 (shut_bool Tryd.underlying4 _)
  · rw [hspec]; exact hp'
  · rw [hspec]; rfl
theorem over : Rows.fnExactDeskRunRow.holds Tryd.pinned (OpenSpec.ofChange Rows.fnExactDeskRunSpec) :=
  OpenClaim.holds_of_wide 6 Tryd.f6 rfl rfl rfl rfl rfl rfl rfl ⟨rfl, rfl, rfl, rfl, rfl⟩ rfl rfl rfl rfl rfl (by kernel_rfl) Tryd.func6 (by kernel_rfl)
    (of_decide_eq_true (by kernel_rfl)) (by unfold Func.isWrapper; first | (rw [if_pos (by decide +kernel)]; kernel_rfl) | (rw [if_neg (by decide +kernel)]; exact ⟨rfl, rfl⟩))
    (fun os started H enc _ => lifted os started H enc)
theorem standIns : Tryd.f6.params.toList.all (fun t => !Tryd.prog.wantsStandIn t) = true := by kernel_rfl
theorem proved : Rows.FnExactDeskRunCardSaid :=
  Claim7.holds_tied_plain_at .later [] Rows.fnExactDeskRunCard.laidKinds true Rows.fnExactDeskRunCard.stood.harness Rows.fnExactDeskRunCard.stood.looks
    over (fun _ h => by cases h) (by kernel_rfl) (fun _ h => by cases h) fnExactDeskRun_row_tie rfl ⟨rfl, rfl⟩ (by kernel_rfl) rfl
    (fun f fn hf hfn => by
      obtain rfl : f = 6 := Option.some.inj ((show Tryd.prog.funcNamed Rows.fnExactDeskRunRow.func = some 6 by kernel_rfl).symm.trans hf) |>.symm
      obtain rfl : fn = Tryd.f6 := (Option.some.inj (Tryd.func6.symm.trans hfn)).symm
      exact ⟨by kernel_rfl, fun j t ht => by
        have h := List.all_eq_true.1 standIns t (by rw [← Array.getElem?_toList] at ht; exact List.mem_of_getElem? ht)
        exact (show Tryd.prog.wantsStandIn t = false by simpa using h)⟩)
    (by kernel_rfl)
#print axioms proved
end Go.Proofs.YtlpjnnepjlaclaaDoor.fnExactDeskRun
