/- The law FnSquareWindings returns true at every code: the windings round all squares add up to that round the border, and are none just where the state is flat. Conditions: none. -/
import Derived.Test.YthdapnmdllbejaaP0
import Derived.Test.YthdapnmdllbejaaRows
import Derived.WalkKit
import Derived.ProofKit
import Derived.OpenShut
import Derived.ShutString
import Derived.ChangeOld
import Derived.Below
import Derived.SizedLaws
namespace Go.Proofs.Ythdapnmdllbejaa.fnSquareWindings
open Go.ChangeShapes Go.WideShapes Go.ChangeAt Go.RowKit FN
open Go.ChangeMaps (open_string shut_string)
set_option linter.unusedVariables false
set_option linter.unusedSimpArgs false
theorem own : ownKnob Try.prog.godebug = none := by kernel_rfl
theorem laidOut : laidOutB Try.prog = true := by kernel_rfl
theorem shapes : sigRS Try.prog Try.f6.params.toList = some (w_FnSquareWindings_sig.ps, w_FnSquareWindings_sig.pc) := by kernel_rfl
theorem readable : Try.f6.params.toList.all (fun t => Try.prog.readableRec t && decide (t < Try.prog.types.size)) = true := by kernel_rfl
set_option maxRecDepth 100000 in
theorem lifted (os : Os) (started : os.Started) (H : Type) (enc : TypeId × Value → H) :
    ReturnsInHanded {} Try.checked os 6 .any (Rows.fnSquareWindingsSpec.pre6 enc Try.prog Try.f6 Rows.fnSquareWindingsRow.domain false) (Rows.fnSquareWindingsSpec.post enc Try.prog Try.f6 false true false false) := by
  refine returnsInHanded_of_change_sized (C := Try.checked) own started (by kernel_rfl) Try.func6
    (ChangeSpec.witness6 (enc := enc) (C := Try.checked) false ⟨#[], #[.slice none 0 0], []⟩ 6 (by kernel_rfl) (by kernel_rfl) (by kernel_rfl) (by kernel_rfl)) ?_
  intro W base args ds gs before hval0 hW hcnd hsz0 _
  have hval : ∀ (j : Nat) t v, Try.f6.params[j]? = some t → args[j]? = some v → Value.okWide Try.prog W .any base t v := hval0
  have hW' := hW
  obtain ⟨p, q, hA0, hV, rfl, hfz, hnd⟩ := hW
  have hA : DataW.TrodAll enc Try.prog W 0 (fun _ => true) true Try.f6.params.toList args.toList ds p := hA0
  obtain ⟨rfl, rfl⟩ := trodVars_none hV
  have hspec : (Rows.fnSquareWindingsSpec.fn H (ds ++ [])) = { results := [.lit (.bool true)], args := ds } := by
    have hlen : ds.length = 1 := (TrodAll_len hA).trans (by kernel_rfl)
    match ds, hlen with
    | [d0], _ => rfl
  obtain ⟨fl, hfl, x, hx, hwf⟩ := open_args (base := base) hA (fun j t v hj hv => hval j t v (by simpa using hj) (by simpa using hv)) shapes
  refine (FN.law_calls w_FnSquareWindings_ok trivial hfl hx (FnSquareWindings_true x hwf)).mono fun e W' ⟨he, bel⟩ => ?_
  subst he
  obtain ⟨p', hp'⟩ := args_keep laidOut bel (fun t ht => by
    have := List.all_eq_true.1 readable t ht
    simpa using this) hA
  refine ⟨_, rfl, _, _, _, [], p', [], hW', ?_, ?_, ?_, bel.frame _, fun h => by cases h⟩
  · rw [hspec]; exact trodAll_mk1 (shut_bool Try.underlying4 _)
  · rw [hspec]; exact hp'
  · rw [hspec]; rfl
theorem over : Rows.fnSquareWindingsRow.holds Try.pinned (OpenSpec.ofChange Rows.fnSquareWindingsSpec) :=
  OpenClaim.holds_of_wide 6 Try.f6 rfl rfl rfl rfl rfl rfl rfl ⟨rfl, rfl, rfl, rfl, rfl⟩ rfl rfl rfl rfl rfl (by kernel_rfl) Try.func6 (by kernel_rfl)
    (of_decide_eq_true (by kernel_rfl)) (by unfold Func.isWrapper; first | (rw [if_pos (by decide +kernel)]; kernel_rfl) | (rw [if_neg (by decide +kernel)]; exact ⟨rfl, rfl⟩))
    (fun os started H enc _ => lifted os started H enc)
theorem proved : Rows.FnSquareWindingsSaid := over
#print axioms proved
end Go.Proofs.Ythdapnmdllbejaa.fnSquareWindings
