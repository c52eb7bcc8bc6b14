/- Texts of the proof, joined: parts -/
import Derived.Test.YtbkndbgonbadaaaGreatDoorJ0
set_option linter.unusedVariables false
set_option linter.unusedSimpArgs false
set_option linter.unusedSectionVars false
set_option linter.unusedVariables false
namespace FN
open Go Go.Proofs
/-! loop.example/firingnets/impl.NumberOf -/
@[reducible] def i_NumberOf_sig : Sig := { ps := [none, none], pc := [.int .i64, .view .i64], rs := [none], rc := [.int .i64] }
noncomputable def i_NumberOf_E : Env' := { fn := fun f => if f = 119 then some ⟨i_StateOk_sig, i_StateOk_f⟩ else none, ck := ckT, cuts := [(5, [0, 1, 5, 6])], mine := fun i => false }
noncomputable def i_NumberOf_f (x : Ts i_NumberOf_sig.pc) : Option (Ts i_NumberOf_sig.rc) := runFn Tryz.prog (i_NumberOf_E) Tryz.f115 i_NumberOf_sig x
noncomputable def i_NumberOf_l0 (y0 : Int) (y1 : List (Int)) (y2 : Int) (y3 : Int) : Option ((Int)) := from_ Tryz.prog (i_NumberOf_E) Tryz.f115 i_NumberOf_sig [1, 1, 1, 0, 1, 0] ⟨mkT 27 [(0, .int .i64 y0), (1, .row false .i64 y1), (5, .int .i64 y2), (6, .int .i64 y3)], []⟩
theorem i_NumberOf_f_eq (x0 : (Int)) (x1 : (List (Int))) : i_NumberOf_f (x0, x1) = (Option.bind (i_StateOk_f (x0, x1)) fun r1 => (cond ((!r1)) (some (-1)) (i_NumberOf_l0 x0 x1 0 (IntKind.i64.wrap ((List.length x1 : Int) - 1))))) := by
  kernel_rfl
theorem i_NumberOf_l0_eq (y0 : Int) (y1 : List (Int)) (y2 : Int) (y3 : Int) : i_NumberOf_l0 y0 y1 y2 y3 = (cond ((decide (0 ≤ y3))) (if (0 : Int) ≤ y3 ∧ y3 < (List.length y1 : Int) then (i_NumberOf_l0 y0 y1 (IntKind.i64.wrap ((IntKind.i64.wrap (y2 * y0)) + (List.getD y1 (y3 : Int).toNat 0))) (IntKind.i64.wrap (y3 - 1))) else none) (some y2)) := by
  refine (loopK_eq Tryz.prog (i_NumberOf_E) (sub (Tryz.f115.body.getD .skip) [1, 1, 1, 0, 1, 0, 0]) _ _).trans ?_
  kernel_rfl
theorem i_NumberOf_ok : CtrOk Tryz.prog 115 ⟨i_NumberOf_sig, i_NumberOf_f⟩ :=
  ctr_of (fn := Tryz.f115) (by kernel_rfl) (by kernel_rfl) (fun x : Ts i_NumberOf_sig.pc => i_NumberOf_E) (fun x => ⟨(fn_cons ⟨i_StateOk_ok, i_StateOk_ent⟩ fn_none), clo_none, wr_none⟩) (fun h => by cases h) follows_ (fun _ _ => trivial)
end FN

