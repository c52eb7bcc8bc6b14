/- FnDeskSay answers true for every code: lines are answered as by the reference; two parts, one after the other, lead to the same desk and the same answers, of which none is empty; and behind them the answer to place is read as the place of the desk. Conditions: none. -/
import Derived.Test.YtbkndbgonbadaaaGreatDoorA0
import Derived.Test.YtbkndbgonbadaaaGreatDoorA1
import Derived.Test.YtbkndbgonbadaaaGreatDoorS0
import Derived.Test.YtbkndbgonbadaaaGreatDoorJ0
import Derived.Test.YtbkndbgonbadaaaGreatDoorJ1
import Derived.Test.YtbkndbgonbadaaaGreatDoorJ2
import Derived.Test.YtbkndbgonbadaaaGreatDoorJ3
import Derived.Test.YtbkndbgonbadaaaGreatDoorJ4
import Derived.Test.YtbkndbgonbadaaaGreatDoorJ5
import Derived.Test.YtbkndbgonbadaaaGreatDoorJ6
import Derived.Test.YtbkndbgonbadaaaGreatDoorJ7
import Derived.Test.YtbkndbgonbadaaaGreatDoorJ8
import Derived.Test.YtbkndbgonbadaaaGreatDoorJ9
import Derived.Test.YtbkndbgonbadaaaGreatDoorJ10
import Derived.Test.YtbkndbgonbadaaaGreatDoorJ11
import Derived.Test.YtbkndbgonbadaaaGreatDoorJ12
import Derived.Test.YtbkndbgonbadaaaGreatDoorJ13
import Derived.Test.YtbkndbgonbadaaaGreatDoorJ14
import Derived.Test.YtbkndbgonbadaaaGreatDoorJ15
import Derived.Test.YtbkndbgonbadaaaGreatDoorJ16
import Derived.Test.YtbkndbgonbadaaaGreatDoorJ17
import Derived.Test.YtbkndbgonbadaaaGreatDoorJ18
import Derived.Test.YtbkndbgonbadaaaGreatDoorJ19
import Derived.Test.YtbkndbgonbadaaaGreatDoorK0
import Derived.Test.YtbkndbgonbadaaaGreatDoorQ0
import Derived.Test.YtbkndbgonbadaaaGreatDoorQ1
import Derived.Test.YtbkndbgonbadaaaGreatDoorQ2
import Derived.Test.YtbkndbgonbadaaaGreatDoorQ3
import Derived.Test.YtbkndbgonbadaaaGreatDoorQ4
import Derived.Test.YtbkndbgonbadaaaGreatDoorQ5
import Derived.Test.YtbkndbgonbadaaaGreatDoorQ6
import Derived.Test.YtbkndbgonbadaaaGreatDoorQ7
import Derived.Test.YtbkndbgonbadaaaGreatDoorQ8
import Derived.Test.YtbkndbgonbadaaaGreatDoorQ9
import Derived.Test.YtbkndbgonbadaaaGreatDoorQ10
import Derived.Test.YtbkndbgonbadaaaGreatDoorCards
import Derived.Test.YtbkndbgonbadaaaGreatDoorTie
import Derived.WalkKit
import Derived.ProofKit
import Derived.OpenShut
import Derived.ShutString
import Derived.ChangeOld
import Derived.Below
import Derived.SizedLaws
import Derived.LaidMore
import Derived.Lay
import Derived.MakeChecks
import Derived.Stop.Joined
import Derived.SevenTiedAt
namespace Go.Proofs.YtbkndbgonbadaaaGreatDoor.fnDeskSay
open Go.ChangeShapes Go.WideShapes Go.ChangeAt Go.RowKit FN
open Go.ChangeMaps (open_string shut_string)
set_option linter.unusedVariables false
set_option linter.unusedSimpArgs false
theorem own : ownKnob Tryz.prog.godebug = none := by kernel_rfl
theorem laidOut : laidOutB Tryz.prog = true := by kernel_rfl
theorem shapes : sigRS Tryz.prog Tryz.f5.params.toList = some (w_FnDeskSay_sig.ps, w_FnDeskSay_sig.pc) := by kernel_rfl
theorem readable : Tryz.f5.params.toList.all (fun t => Tryz.prog.readableRec t && decide (t < Tryz.prog.types.size)) = true := by kernel_rfl
theorem gli {W : World} (h : W.ShapedOpen Tryz.prog) (hL : laidMetH Tryz.prog Rows.fnDeskSayRow.laid W) : Gl.I W :=
  ⟨gl_of_shaped (k := .i64) (t := 3) (g := 2) (zero := #[.int .i64 0]) h (of_decide_eq_true (by kernel_rfl)) (by kernel_rfl) rfl (by kernel_rfl) (by kernel_rfl) (by kernel_rfl),
   laid_iface hL (by kernel_rfl) (n := "strconv.ErrSyntax") (g := 0) (t := 90) (List.mem_of_getElem? (i := 5) rfl) (by kernel_rfl) (by kernel_rfl) Tryz.underlying90,
   laid_iface hL (by kernel_rfl) (n := "strconv.ErrRange") (g := 1) (t := 90) (List.mem_of_getElem? (i := 4) rfl) (by kernel_rfl) (by kernel_rfl) Tryz.underlying90,
   laid_tab hL (by kernel_rfl) (n := "internal/strconv.uint64pow10") (k := .u64) (zs := Lib.pow10Tab) (g := 3) (t := 183) (e := 159) (N := 20) (List.mem_of_getElem? (i := 2) rfl) (by kernel_rfl) (by kernel_rfl) (by kernel_rfl) Tryz.underlying183 Tryz.underlying159 (by kernel_rfl) (by kernel_rfl)⟩
/-- The door's own heap meets the condition. -/
theorem door_met (os : Os) (args : Array Value) : laidMetH Tryz.prog Rows.fnDeskSayRow.laid ((World.laidAll Tryz.prog os Rows.fnDeskSayRow.laid).forCall (fun _ _ => 0) ⟨#[], args, []⟩).memory := by
  rw [MakeChecks.laidMetH_plain _ _ _ (by kernel_rfl)]
  exact laidMet_laidAll _ (by kernel_rfl) (by kernel_rfl)
set_option maxRecDepth 100000 in
theorem lifted (os : Os) (started : os.Started) (H : Type) (enc : TypeId × Value → H) :
    ReturnsInHanded {} Tryz.checked os 5 .any (fun w args => (Rows.fnDeskSaySpec.pre enc Tryz.prog Tryz.f5 [] false w args ∧ laidMetH Tryz.prog Rows.fnDeskSayRow.laid w) ∧ sizedMet enc Tryz.prog Tryz.f5 (OpenSpec.ofChange Rows.fnDeskSaySpec) false w args)
      (Rows.fnDeskSaySpec.post enc Tryz.prog Tryz.f5 false true false false) := by
  refine FN.change_and_shaped (C := Tryz.checked) (X := fun w _ => laidMetH Tryz.prog Rows.fnDeskSayRow.laid w) (fun _ _ _ hh h => h.of_heap hh) own started (by kernel_rfl) Tryz.func5
    (ChangeSpec.witness_shaped (enc := enc) (C := Tryz.checked) (os := os) (X := fun w _ => laidMetH Tryz.prog Rows.fnDeskSayRow.laid w) false (World.laidAll Tryz.prog os Rows.fnDeskSayRow.laid) #[.slice none 0 0] 8 (World.laidAll_os _ _ _) (World.shaped_of_ZipB (by kernel_rfl) (by kernel_rfl)) (by kernel_rfl) (by kernel_rfl) (by kernel_rfl) (door_met os _)) ?_
  intro W base args ds gs before hval0 hW _ _ hL hsh
  have hval : ∀ (j : Nat) t v, Tryz.f5.params[j]? = some t → args[j]? = some v → Value.okWide Tryz.prog W .any base t v := hval0
  have hW' := hW
  obtain ⟨p, q, hA0, hV, rfl, hfz, hnd⟩ := hW
  have hA : DataW.TrodAll enc Tryz.prog W 0 (fun _ => true) true Tryz.f5.params.toList args.toList ds p := hA0
  obtain ⟨rfl, rfl⟩ := trodVars_none hV
  have hspec : (Rows.fnDeskSaySpec.fn H (ds ++ [])) = { results := [.lit (.bool true)], args := ds } := by
    have hlen : ds.length = 1 := (TrodAll_len hA).trans (by kernel_rfl)
    match ds, hlen with
    | [d0], _ => rfl
  obtain ⟨fl, hfl, x, hx, hwf⟩ := open_args (base := base) hA (fun j t v hj hv => hval j t v (by simpa using hj) (by simpa using hv)) shapes
  refine (FN.law_calls w_FnDeskSay_ok (gli hsh hL) hfl hx (FnDeskSay_true x hwf)).mono fun e W' ⟨he, bel⟩ => ?_
  subst he
  obtain ⟨p', hp'⟩ := args_keep laidOut bel (fun t ht => by
    have := List.all_eq_true.1 readable t ht
    simpa using this) hA
  refine ⟨_, rfl, _, _, _, [], p', [], hW', ?_, ?_, ?_, bel.frame _, fun h => by cases h⟩
  · rw [hspec]; exact trodAll_mk1 (shut_bool Tryz.underlying4 _)
  · rw [hspec]; exact hp'
  · rw [hspec]; rfl
theorem over : Rows.fnDeskSayRow.holds Tryz.pinned (OpenSpec.ofChange Rows.fnDeskSaySpec) :=
  OpenClaim.holds_of_wide 5 Tryz.f5 rfl rfl rfl rfl rfl rfl rfl ⟨rfl, rfl, rfl, rfl, rfl⟩ rfl rfl rfl rfl rfl (by kernel_rfl) Tryz.func5 (by kernel_rfl)
    (of_decide_eq_true (by kernel_rfl)) (by unfold Func.isWrapper; first | (rw [if_pos (by decide +kernel)]; kernel_rfl) | (rw [if_neg (by decide +kernel)]; exact ⟨rfl, rfl⟩))
    (fun os started H enc _ => lifted os started H enc)
theorem standIns : Tryz.f5.params.toList.all (fun t => !Tryz.prog.wantsStandIn t) = true := by kernel_rfl
theorem proved : Rows.FnDeskSayCardSaid :=
  Claim7.holds_tied_plain_at .later [] Rows.fnDeskSayCard.laidKinds true Rows.fnDeskSayCard.stood.harness Rows.fnDeskSayCard.stood.looks
    over (fun _ h => by cases h) (by kernel_rfl) (fun _ h => by cases h) fnDeskSay_row_tie rfl ⟨rfl, rfl⟩ (by kernel_rfl) rfl
    (fun f fn hf hfn => by
      obtain rfl : f = 5 := Option.some.inj ((show Tryz.prog.funcNamed Rows.fnDeskSayRow.func = some 5 by kernel_rfl).symm.trans hf) |>.symm
      obtain rfl : fn = Tryz.f5 := (Option.some.inj (Tryz.func5.symm.trans hfn)).symm
      exact ⟨by kernel_rfl, fun j t ht => by
        have h := List.all_eq_true.1 standIns t (by rw [← Array.getElem?_toList] at ht; exact List.mem_of_getElem? ht)
        exact (show Tryz.prog.wantsStandIn t = false by simpa using h)⟩)
    (by kernel_rfl)
#print axioms proved
end Go.Proofs.YtbkndbgonbadaaaGreatDoor.fnDeskSay
