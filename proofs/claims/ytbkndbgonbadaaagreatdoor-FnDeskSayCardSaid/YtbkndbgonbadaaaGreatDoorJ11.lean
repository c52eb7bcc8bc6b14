/- Texts of the proof, joined: parts -/
import Derived.WalkKit
import Derived.Test.YtbkndbgonbadaaaGreatDoorJ0
import Derived.Test.YtbkndbgonbadaaaGreatDoorJ1
import Derived.Test.YtbkndbgonbadaaaGreatDoorJ4
import Derived.Test.YtbkndbgonbadaaaGreatDoorJ5
set_option linter.unusedVariables false
set_option linter.unusedSimpArgs false
set_option linter.unusedSectionVars false
set_option linter.unusedVariables false
namespace FN
open Go Go.Proofs
/-! loop.example/firingnets/spec.l5Step -/
@[reducible] def s_l5Step_sig : Sig := { ps := [none, none], pc := [.view .i64, .view .i64], rs := [none], rc := [.row 3 .i64] }
noncomputable def s_l5Step_E : Env' := { fn := fun f => none, ck := ckT, cuts := [(3, [0, 1, 5, 6]), (8, [0, 1, 5, 6, 7, 8, 9])], mine := fun i => false }
noncomputable def s_l5Step_f (x : Ts s_l5Step_sig.pc) : Option (Ts s_l5Step_sig.rc) := runFn Tryz.prog (s_l5Step_E) Tryz.f131 s_l5Step_sig x
noncomputable def s_l5Step_l0 (y0 : List (Int)) (y1 : List (Int)) (y2 : Int) (y3 : List (Int)) : Option ((List (Int))) := from_ Tryz.prog (s_l5Step_E) Tryz.f131 s_l5Step_sig [1, 1, 0, 1, 0] ⟨mkT 55 [(0, .row false .i64 y0), (1, .row false .i64 y1), (5, .own 0), (6, .int .i64 y2)], [some (.arr 3 true .i64 y3)]⟩
noncomputable def s_l5Step_l1 (y0 : List (Int)) (y1 : List (Int)) (y2 : Int) (y3 : Int) (y4 : Int) (y5 : Int) (y6 : List (Int)) : Option ((List (Int))) := from_ Tryz.prog (s_l5Step_E) Tryz.f131 s_l5Step_sig [1, 1, 0, 1, 0, 0, 1, 0, 0, 1, 1, 0, 1, 0] ⟨mkT 55 [(0, .row false .i64 y0), (1, .row false .i64 y1), (5, .own 0), (6, .int .i64 y2), (7, .int .i64 y3), (8, .int .i64 y4), (9, .int .i64 y5)], [some (.arr 3 true .i64 y6)]⟩
theorem s_l5Step_f_eq (x0 : (List (Int))) (x1 : (List (Int))) : s_l5Step_f (x0, x1) = (s_l5Step_l0 x0 x1 0 ([] : List (Int))) := by
  kernel_rfl
theorem s_l5Step_l0_eq (y0 : List (Int)) (y1 : List (Int)) (y2 : Int) (y3 : List (Int)) : s_l5Step_l0 y0 y1 y2 y3 = (cond ((decide (y2 < (List.length y1 : Int)))) (if (0 : Int) ≤ y2 ∧ y2 < (List.length y1 : Int) then (if (0 : Int) ≤ y2 ∧ y2 < (List.length y1 : Int) then (s_l5Step_l1 y0 y1 y2 (Int.tmod (IntKind.i64.wrap ((List.getD y1 (y2 : Int).toNat 0) + 1)) 3) (List.getD y1 (y2 : Int).toNat 0) 0 y3) else none) else none) (some y3)) := by
  refine (loopK_eq Tryz.prog (s_l5Step_E) (sub (Tryz.f131.body.getD .skip) [1, 1, 0, 1, 0, 0]) _ _).trans ?_
  kernel_rfl
theorem s_l5Step_l1_eq (y0 : List (Int)) (y1 : List (Int)) (y2 : Int) (y3 : Int) (y4 : Int) (y5 : Int) (y6 : List (Int)) : s_l5Step_l1 y0 y1 y2 y3 y4 y5 y6 = (cond ((decide (y5 < (List.length y1 : Int)))) (if (0 : Int) ≤ y2 ∧ y2 < (List.length y0 : Int) then (if y5 < 0 then none else (cond (((Int.tmod (Int.fdiv (List.getD y0 (y2 : Int).toNat 0) (2 ^ min (y5 : Int).toNat IntKind.i64.bits)) 2) == 1)) (if (0 : Int) ≤ y5 ∧ y5 < (List.length y1 : Int) then (cond (((List.getD y1 (y5 : Int).toNat 0) == y3)) (s_l5Step_l1 y0 y1 y2 y3 y3 (IntKind.i64.wrap (y5 + 1)) y6) (s_l5Step_l1 y0 y1 y2 y3 y4 (IntKind.i64.wrap (y5 + 1)) y6)) else none) (s_l5Step_l1 y0 y1 y2 y3 y4 (IntKind.i64.wrap (y5 + 1)) y6))) else none) (if (List.length y6 + List.length ([y4] : List (Int))) * 8 ≤ 140737488355328 then (s_l5Step_l0 y0 y1 (IntKind.i64.wrap (y2 + 1)) (y6 ++ ([y4] : List (Int)))) else none)) := by
  refine (loopK_eq Tryz.prog (s_l5Step_E) (sub (Tryz.f131.body.getD .skip) [1, 1, 0, 1, 0, 0, 1, 0, 0, 1, 1, 0, 1, 0, 0]) _ _).trans ?_
  kernel_rfl
theorem s_l5Step_ent : Entb Tryz.prog 131 := ⟨Tryz.f131, by kernel_rfl, by kernel_rfl, by kernel_rfl⟩
theorem s_l5Step_ok : CtrOk Tryz.prog 131 ⟨s_l5Step_sig, s_l5Step_f⟩ :=
  ctr_of (fn := Tryz.f131) (by kernel_rfl) (by kernel_rfl) (fun x : Ts s_l5Step_sig.pc => s_l5Step_E) (fun x => ⟨fn_none, clo_none, wr_none⟩) (fun h => by cases h) follows_ (fun _ _ => trivial)
end FN

set_option linter.unusedVariables false
namespace FN
open Go Go.Proofs
/-! loop.example/firingnets/spec.TurnedRow -/
@[reducible] def s_TurnedRow_sig : Sig := { ps := [none, none, none], pc := [.view .i64, .view .i64, .int .i64], rs := [none], rc := [.row 3 .i64] }
noncomputable def s_TurnedRow_E : Env' := { fn := fun f => if f = 100 then some ⟨s_l3Ok_sig, s_l3Ok_f⟩ else if f = 111 then some ⟨s_l1In_sig, s_l1In_f⟩ else if f = 131 then some ⟨s_l5Step_sig, s_l5Step_f⟩ else none, ck := ckT, cuts := [(6, [0, 2, 7, 8, 9]), (10, [0, 2, 7, 8, 9, 10, 11])], mine := fun i => false }
noncomputable def s_TurnedRow_f (x : Ts s_TurnedRow_sig.pc) : Option (Ts s_TurnedRow_sig.rc) := runFn Tryz.prog (s_TurnedRow_E) Tryz.f98 s_TurnedRow_sig x
noncomputable def s_TurnedRow_l0 (y0 : List (Int)) (y1 : Int) (y2 : Int) (y3 : List (Int)) (y4 : List (Int)) : Option ((List (Int))) := from_ Tryz.prog (s_TurnedRow_E) Tryz.f98 s_TurnedRow_sig [1, 1, 1, 1, 0, 1, 0] ⟨mkT 61 [(0, .row false .i64 y0), (2, .int .i64 y1), (7, .own 0), (8, .own 1), (9, .int .i64 y2)], [some (.arr 3 true .i64 y3), some (.arr 3 true .i64 y4)]⟩
noncomputable def s_TurnedRow_l1 (y0 : List (Int)) (y1 : Int) (y2 : Int) (y3 : List (Int)) (y4 : Int) (y5 : List (Int)) (y6 : List (Int)) : Option ((List (Int))) := from_ Tryz.prog (s_TurnedRow_E) Tryz.f98 s_TurnedRow_sig [1, 1, 1, 1, 0, 1, 0, 0, 1, 0, 0, 1, 0, 1, 0] ⟨mkT 61 [(0, .row false .i64 y0), (2, .int .i64 y1), (7, .own 0), (8, .own 1), (9, .int .i64 y2), (10, .row true .i64 y3), (11, .int .i64 y4)], [some (.arr 3 true .i64 y5), some (.arr 3 true .i64 y6)]⟩
noncomputable def s_TurnedRow_l2 (y0 : List (Int)) (y1 : Int) (y2 : List (Int)) (y3 : Int) (y4 : List (Int)) : Option ((List (Int))) := from_ Tryz.prog (s_TurnedRow_E) Tryz.f98 s_TurnedRow_sig [1, 1, 1, 1, 0, 1, 0] ⟨mkT 61 [(0, .row false .i64 y0), (2, .int .i64 y1), (7, .own 0), (8, .row true .i64 y2), (9, .int .i64 y3)], [some (.arr 3 true .i64 y4)]⟩
noncomputable def s_TurnedRow_l3 (y0 : List (Int)) (y1 : Int) (y2 : List (Int)) (y3 : Int) (y4 : List (Int)) (y5 : Int) (y6 : List (Int)) : Option ((List (Int))) := from_ Tryz.prog (s_TurnedRow_E) Tryz.f98 s_TurnedRow_sig [1, 1, 1, 1, 0, 1, 0, 0, 1, 0, 0, 1, 0, 1, 0] ⟨mkT 61 [(0, .row false .i64 y0), (2, .int .i64 y1), (7, .own 0), (8, .row true .i64 y2), (9, .int .i64 y3), (10, .row true .i64 y4), (11, .int .i64 y5)], [some (.arr 3 true .i64 y6)]⟩
theorem s_TurnedRow_f_eq (x0 : (List (Int))) (x1 : (List (Int))) (x2 : (Int)) : s_TurnedRow_f (x0, x1, x2) = (Option.bind (s_l3Ok_f (x0, 3, x1)) fun r1 => (cond ((!r1)) (some ([] : List (Int))) (Option.bind (s_l1In_f (x2, 0, 60)) fun r2 => (cond ((!r2)) (some ([] : List (Int))) (if (0 : Int) ≤ (List.length x0 : Int) ∧ (List.length x0 : Int) * 8 ≤ 140737488355328 ∧ (List.length x0 : Int) ≤ 140737488355328 then (if (List.length ([] : List (Int)) + List.length x1) * 8 ≤ 140737488355328 then (s_TurnedRow_l0 x0 x2 0 (List.replicate ((List.length x0 : Int) : Int).toNat 0 : List (Int)) (([] : List (Int)) ++ x1)) else none) else none))))) := by
  kernel_rfl
theorem s_TurnedRow_l0_eq (y0 : List (Int)) (y1 : Int) (y2 : Int) (y3 : List (Int)) (y4 : List (Int)) : s_TurnedRow_l0 y0 y1 y2 y3 y4 = (cond ((decide (y2 < y1))) (Option.bind (s_l5Step_f (y0, y4)) fun r1 => (s_TurnedRow_l1 y0 y1 y2 r1 0 y3 y4)) (some y3)) := by
  refine (loopK_eq Tryz.prog (s_TurnedRow_E) (sub (Tryz.f98.body.getD .skip) [1, 1, 1, 1, 0, 1, 0, 0]) _ _).trans ?_
  kernel_rfl
theorem s_TurnedRow_l1_eq (y0 : List (Int)) (y1 : Int) (y2 : Int) (y3 : List (Int)) (y4 : Int) (y5 : List (Int)) (y6 : List (Int)) : s_TurnedRow_l1 y0 y1 y2 y3 y4 y5 y6 = (cond ((decide (y4 < (List.length y6 : Int)))) (if (0 : Int) ≤ y4 ∧ y4 < (List.length y3 : Int) then (if (0 : Int) ≤ y4 ∧ y4 < (List.length y6 : Int) then (cond (((List.getD y3 (y4 : Int).toNat 0) != (List.getD y6 (y4 : Int).toNat 0))) (if (0 : Int) ≤ y4 ∧ y4 < (List.length y5 : Int) then (if (0 : Int) ≤ y4 ∧ y4 < (List.length y5 : Int) then (s_TurnedRow_l1 y0 y1 y2 y3 (IntKind.i64.wrap (y4 + 1)) (List.set y5 (y4 : Int).toNat (IntKind.i64.wrap ((List.getD y5 (y4 : Int).toNat 0) + 1))) y6) else none) else none) (s_TurnedRow_l1 y0 y1 y2 y3 (IntKind.i64.wrap (y4 + 1)) y5 y6)) else none) else none) (s_TurnedRow_l2 y0 y1 y3 (IntKind.i64.wrap (y2 + 1)) y5)) := by
  refine (loopK_eq Tryz.prog (s_TurnedRow_E) (sub (Tryz.f98.body.getD .skip) [1, 1, 1, 1, 0, 1, 0, 0, 1, 0, 0, 1, 0, 1, 0, 0]) _ _).trans ?_
  kernel_rfl
theorem s_TurnedRow_l2_eq (y0 : List (Int)) (y1 : Int) (y2 : List (Int)) (y3 : Int) (y4 : List (Int)) : s_TurnedRow_l2 y0 y1 y2 y3 y4 = (cond ((decide (y3 < y1))) (Option.bind (s_l5Step_f (y0, y2)) fun r1 => (s_TurnedRow_l3 y0 y1 y2 y3 r1 0 y4)) (some y4)) := by
  refine (loopK_eq Tryz.prog (s_TurnedRow_E) (sub (Tryz.f98.body.getD .skip) [1, 1, 1, 1, 0, 1, 0, 0]) _ _).trans ?_
  kernel_rfl
theorem s_TurnedRow_l3_eq (y0 : List (Int)) (y1 : Int) (y2 : List (Int)) (y3 : Int) (y4 : List (Int)) (y5 : Int) (y6 : List (Int)) : s_TurnedRow_l3 y0 y1 y2 y3 y4 y5 y6 = (cond ((decide (y5 < (List.length y2 : Int)))) (if (0 : Int) ≤ y5 ∧ y5 < (List.length y4 : Int) then (if (0 : Int) ≤ y5 ∧ y5 < (List.length y2 : Int) then (cond (((List.getD y4 (y5 : Int).toNat 0) != (List.getD y2 (y5 : Int).toNat 0))) (if (0 : Int) ≤ y5 ∧ y5 < (List.length y6 : Int) then (if (0 : Int) ≤ y5 ∧ y5 < (List.length y6 : Int) then (s_TurnedRow_l3 y0 y1 y2 y3 y4 (IntKind.i64.wrap (y5 + 1)) (List.set y6 (y5 : Int).toNat (IntKind.i64.wrap ((List.getD y6 (y5 : Int).toNat 0) + 1)))) else none) else none) (s_TurnedRow_l3 y0 y1 y2 y3 y4 (IntKind.i64.wrap (y5 + 1)) y6)) else none) else none) (s_TurnedRow_l2 y0 y1 y4 (IntKind.i64.wrap (y3 + 1)) y6)) := by
  refine (loopK_eq Tryz.prog (s_TurnedRow_E) (sub (Tryz.f98.body.getD .skip) [1, 1, 1, 1, 0, 1, 0, 0, 1, 0, 0, 1, 0, 1, 0, 0]) _ _).trans ?_
  kernel_rfl
theorem s_TurnedRow_ent : Entb Tryz.prog 98 := ⟨Tryz.f98, by kernel_rfl, by kernel_rfl, by kernel_rfl⟩
theorem s_TurnedRow_ok : CtrOk Tryz.prog 98 ⟨s_TurnedRow_sig, s_TurnedRow_f⟩ :=
  ctr_of (fn := Tryz.f98) (by kernel_rfl) (by kernel_rfl) (fun x : Ts s_TurnedRow_sig.pc => s_TurnedRow_E) (fun x => ⟨(fn_cons ⟨s_l3Ok_ok, s_l3Ok_ent⟩ (fn_cons ⟨s_l1In_ok, s_l1In_ent⟩ (fn_cons ⟨s_l5Step_ok, s_l5Step_ent⟩ fn_none))), clo_none, wr_none⟩) (fun h => by cases h) follows_ (fun _ _ => trivial)
end FN

set_option linter.unusedVariables false
namespace FN
open Go Go.Proofs
/-! loop.example/firingnets/impl.rise -/
@[reducible] def i_rise_sig : Sig := { ps := [none, none, none], pc := [.view .i64, .int .i64, .int .i64], rs := [none], rc := [.int .i64] }
noncomputable def i_rise_E : Env' := { fn := fun f => none, ck := ckT, cuts := [], mine := fun i => false }
noncomputable def i_rise_f (x : Ts i_rise_sig.pc) : Option (Ts i_rise_sig.rc) := runFn Tryz.prog (i_rise_E) Tryz.f120 i_rise_sig x
theorem i_rise_f_eq (x0 : (List (Int))) (x1 : (Int)) (x2 : (Int)) : i_rise_f (x0, x1, x2) = (if (0 : Int) ≤ x2 ∧ x2 < (List.length x0 : Int) then (if (0 : Int) ≤ x1 ∧ x1 < (List.length x0 : Int) then (cond (((Int.tmod (IntKind.i64.wrap ((IntKind.i64.wrap ((List.getD x0 (x2 : Int).toNat 0) - (List.getD x0 (x1 : Int).toNat 0))) + 3)) 3) == 1)) (some 1) (cond (((Int.tmod (IntKind.i64.wrap ((IntKind.i64.wrap ((List.getD x0 (x2 : Int).toNat 0) - (List.getD x0 (x1 : Int).toNat 0))) + 3)) 3) == 2)) (some (-1)) (some 0))) else none) else none) := by
  kernel_rfl
theorem i_rise_ent : Entb Tryz.prog 120 := ⟨Tryz.f120, by kernel_rfl, by kernel_rfl, by kernel_rfl⟩
theorem i_rise_ok : CtrOk Tryz.prog 120 ⟨i_rise_sig, i_rise_f⟩ :=
  ctr_of (fn := Tryz.f120) (by kernel_rfl) (by kernel_rfl) (fun x : Ts i_rise_sig.pc => i_rise_E) (fun x => ⟨fn_none, clo_none, wr_none⟩) (fun h => by cases h) follows_ (fun _ _ => trivial)
end FN

set_option linter.unusedVariables false
namespace FN
open Go Go.Proofs
/-! loop.example/firingnets/impl.HeightRow -/
@[reducible] def i_HeightRow_sig : Sig := { ps := [none, none], pc := [.view .i64, .view .i64], rs := [none, none], rc := [.row 3 .i64, .bool] }
noncomputable def i_HeightRow_E : Env' := { fn := fun f => if f = 101 then some ⟨i_asked_sig, i_asked_f⟩ else if f = 120 then some ⟨i_rise_sig, i_rise_f⟩ else none, ck := ckT, cuts := [(6, [0, 1, 6, 7, 25, 26]), (12, [0, 1, 6, 7, 9, 10, 25, 26]), (16, [0, 1, 6, 7, 9, 10, 11, 25, 26, 49, 50])], mine := fun i => false }
noncomputable def i_HeightRow_f (x : Ts i_HeightRow_sig.pc) : Option (Ts i_HeightRow_sig.rc) := runFn Tryz.prog (i_HeightRow_E) Tryz.f79 i_HeightRow_sig x
noncomputable def i_HeightRow_l0 (y0 : List (Int)) (y1 : List (Int)) (y2 : Int) (y3 : Int) (y4 : List (Int)) (y5 : List (Bool)) : Option ((List (Int)) × (Bool)) := from_ Tryz.prog (i_HeightRow_E) Tryz.f79 i_HeightRow_sig [1, 1, 1, 1, 0, 1, 0] ⟨mkT 101 [(0, .row false .i64 y0), (1, .row false .i64 y1), (6, .own 0), (7, .own 1), (25, .int .i64 y2), (26, .int .i64 y3)], [some (.arr 3 true .i64 y4), some (.arr 4 true .bool y5)]⟩
noncomputable def i_HeightRow_l1 (y0 : List (Int)) (y1 : List (Int)) (y2 : Int) (y3 : Int) (y4 : Int) (y5 : List (Int)) (y6 : List (Bool)) (y7 : List (Int)) : Option ((List (Int)) × (Bool)) := from_ Tryz.prog (i_HeightRow_E) Tryz.f79 i_HeightRow_sig [1, 1, 1, 1, 0, 1, 0, 0, 1, 1, 0, 0, 1, 1, 1, 1, 1, 0] ⟨mkT 101 [(0, .row false .i64 y0), (1, .row false .i64 y1), (6, .own 0), (7, .own 1), (9, .own 2), (10, .int .i64 y2), (25, .int .i64 y3), (26, .int .i64 y4)], [some (.arr 3 true .i64 y5), some (.arr 4 true .bool y6), some (.arr 3 true .i64 y7)]⟩
noncomputable def i_HeightRow_l2 (y0 : List (Int)) (y1 : List (Int)) (y2 : Int) (y3 : Int) (y4 : Int) (y5 : Int) (y6 : Int) (y7 : Int) (y8 : List (Int)) (y9 : List (Bool)) (y10 : List (Int)) : Option ((List (Int)) × (Bool)) := from_ Tryz.prog (i_HeightRow_E) Tryz.f79 i_HeightRow_sig [1, 1, 1, 1, 0, 1, 0, 0, 1, 1, 0, 0, 1, 1, 1, 1, 1, 0, 0, 1, 0, 0, 1, 1, 0] ⟨mkT 101 [(0, .row false .i64 y0), (1, .row false .i64 y1), (6, .own 0), (7, .own 1), (9, .own 2), (10, .int .i64 y2), (11, .int .i64 y3), (25, .int .i64 y4), (26, .int .i64 y5), (49, .int .i64 y6), (50, .int .i64 y7)], [some (.arr 3 true .i64 y8), some (.arr 4 true .bool y9), some (.arr 3 true .i64 y10)]⟩
theorem i_HeightRow_f_eq (x0 : (List (Int))) (x1 : (List (Int))) : i_HeightRow_f (x0, x1) = (Option.bind (i_asked_f (x0, 3, x1)) fun r1 => (cond ((!r1)) (some ([], false)) (if (0 : Int) ≤ (List.length x0 : Int) ∧ (List.length x0 : Int) * 8 ≤ 140737488355328 ∧ (List.length x0 : Int) ≤ 140737488355328 then (if (0 : Int) ≤ (List.length x0 : Int) ∧ (List.length x0 : Int) * 1 ≤ 140737488355328 ∧ (List.length x0 : Int) ≤ 140737488355328 then (i_HeightRow_l0 x0 x1 (List.length x0 : Int) 0 (List.replicate ((List.length x0 : Int) : Int).toNat 0 : List (Int)) (List.replicate ((List.length x0 : Int) : Int).toNat false : List (Bool))) else none) else none))) := by
  kernel_rfl
theorem i_HeightRow_l0_eq (y0 : List (Int)) (y1 : List (Int)) (y2 : Int) (y3 : Int) (y4 : List (Int)) (y5 : List (Bool)) : i_HeightRow_l0 y0 y1 y2 y3 y4 y5 = (cond ((decide (y3 < y2))) (if (0 : Int) ≤ y3 ∧ y3 < (List.length y5 : Int) then (cond ((List.getD y5 (y3 : Int).toNat false)) (i_HeightRow_l0 y0 y1 y2 (IntKind.i64.wrap (y3 + 1)) y4 y5) (if (0 : Int) ≤ y3 ∧ y3 < (List.length y5 : Int) then (i_HeightRow_l1 y0 y1 0 y2 y3 y4 (List.set y5 (y3 : Int).toNat true) ([y3] : List (Int))) else none)) else none) (some (y4, true))) := by
  refine (loopK_eq Tryz.prog (i_HeightRow_E) (sub (Tryz.f79.body.getD .skip) [1, 1, 1, 1, 0, 1, 0, 0]) _ _).trans ?_
  kernel_rfl
theorem i_HeightRow_l1_eq (y0 : List (Int)) (y1 : List (Int)) (y2 : Int) (y3 : Int) (y4 : Int) (y5 : List (Int)) (y6 : List (Bool)) (y7 : List (Int)) : i_HeightRow_l1 y0 y1 y2 y3 y4 y5 y6 y7 = (cond ((decide (y2 < (List.length y7 : Int)))) (if (0 : Int) ≤ y2 ∧ y2 < (List.length y7 : Int) then (i_HeightRow_l2 y0 y1 y2 (List.getD y7 (y2 : Int).toNat 0) y3 y4 (List.length y0 : Int) 0 y5 y6 y7) else none) (i_HeightRow_l0 y0 y1 y3 (IntKind.i64.wrap (y4 + 1)) y5 y6)) := by
  refine (loopK_eq Tryz.prog (i_HeightRow_E) (sub (Tryz.f79.body.getD .skip) [1, 1, 1, 1, 0, 1, 0, 0, 1, 1, 0, 0, 1, 1, 1, 1, 1, 0, 0]) _ _).trans ?_
  kernel_rfl
theorem i_HeightRow_l2_eq (y0 : List (Int)) (y1 : List (Int)) (y2 : Int) (y3 : Int) (y4 : Int) (y5 : Int) (y6 : Int) (y7 : Int) (y8 : List (Int)) (y9 : List (Bool)) (y10 : List (Int)) : i_HeightRow_l2 y0 y1 y2 y3 y4 y5 y6 y7 y8 y9 y10 = (cond ((decide (y7 < y6))) (if (0 : Int) ≤ y3 ∧ y3 < (List.length y0 : Int) then (if y7 < 0 then none else (cond (((Go.bits .and IntKind.i64 (Int.fdiv (List.getD y0 (y3 : Int).toNat 0) (2 ^ min (y7 : Int).toNat IntKind.i64.bits)) 1) == 0)) (i_HeightRow_l2 y0 y1 y2 y3 y4 y5 y6 (IntKind.i64.wrap (y7 + 1)) y8 y9 y10) (if (0 : Int) ≤ y3 ∧ y3 < (List.length y8 : Int) then (Option.bind (i_rise_f (y1, y3, y7)) fun r1 => (if (0 : Int) ≤ y7 ∧ y7 < (List.length y9 : Int) then (cond ((List.getD y9 (y7 : Int).toNat false)) (if (0 : Int) ≤ y7 ∧ y7 < (List.length y8 : Int) then (cond (((List.getD y8 (y7 : Int).toNat 0) != (IntKind.i64.wrap ((List.getD y8 (y3 : Int).toNat 0) + r1)))) (some ([], false)) (if (0 : Int) ≤ y7 ∧ y7 < (List.length y9 : Int) then (cond ((!(List.getD y9 (y7 : Int).toNat false))) (if (0 : Int) ≤ y7 ∧ y7 < (List.length y9 : Int) then (if (0 : Int) ≤ y7 ∧ y7 < (List.length y8 : Int) then (if (List.length y10 + List.length ([y7] : List (Int))) * 8 ≤ 140737488355328 then (i_HeightRow_l2 y0 y1 y2 y3 y4 y5 y6 (IntKind.i64.wrap (y7 + 1)) (List.set y8 (y7 : Int).toNat (IntKind.i64.wrap ((List.getD y8 (y3 : Int).toNat 0) + r1))) (List.set y9 (y7 : Int).toNat true) (y10 ++ ([y7] : List (Int)))) else none) else none) else none) (i_HeightRow_l2 y0 y1 y2 y3 y4 y5 y6 (IntKind.i64.wrap (y7 + 1)) y8 y9 y10)) else none)) else none) (if (0 : Int) ≤ y7 ∧ y7 < (List.length y9 : Int) then (cond ((!(List.getD y9 (y7 : Int).toNat false))) (if (0 : Int) ≤ y7 ∧ y7 < (List.length y9 : Int) then (if (0 : Int) ≤ y7 ∧ y7 < (List.length y8 : Int) then (if (List.length y10 + List.length ([y7] : List (Int))) * 8 ≤ 140737488355328 then (i_HeightRow_l2 y0 y1 y2 y3 y4 y5 y6 (IntKind.i64.wrap (y7 + 1)) (List.set y8 (y7 : Int).toNat (IntKind.i64.wrap ((List.getD y8 (y3 : Int).toNat 0) + r1))) (List.set y9 (y7 : Int).toNat true) (y10 ++ ([y7] : List (Int)))) else none) else none) else none) (i_HeightRow_l2 y0 y1 y2 y3 y4 y5 y6 (IntKind.i64.wrap (y7 + 1)) y8 y9 y10)) else none)) else none)) else none))) else none) (i_HeightRow_l1 y0 y1 (IntKind.i64.wrap (y2 + 1)) y4 y5 y8 y9 y10)) := by
  refine (loopK_eq Tryz.prog (i_HeightRow_E) (sub (Tryz.f79.body.getD .skip) [1, 1, 1, 1, 0, 1, 0, 0, 1, 1, 0, 0, 1, 1, 1, 1, 1, 0, 0, 1, 0, 0, 1, 1, 0, 0]) _ _).trans ?_
  kernel_rfl
theorem i_HeightRow_ent : Entb Tryz.prog 79 := ⟨Tryz.f79, by kernel_rfl, by kernel_rfl, by kernel_rfl⟩
theorem i_HeightRow_ok : CtrOk Tryz.prog 79 ⟨i_HeightRow_sig, i_HeightRow_f⟩ :=
  ctr_of (fn := Tryz.f79) (by kernel_rfl) (by kernel_rfl) (fun x : Ts i_HeightRow_sig.pc => i_HeightRow_E) (fun x => ⟨(fn_cons ⟨i_asked_ok, i_asked_ent⟩ (fn_cons ⟨i_rise_ok, i_rise_ent⟩ fn_none)), clo_none, wr_none⟩) (fun h => by cases h) follows_ (fun _ _ => trivial)
end FN

set_option linter.unusedVariables false
namespace FN
open Go Go.Proofs
/-! loop.example/firingnets/spec.l6Rise -/
@[reducible] def s_l6Rise_sig : Sig := { ps := [none, none], pc := [.int .i64, .int .i64], rs := [none], rc := [.int .i64] }
noncomputable def s_l6Rise_E : Env' := { fn := fun f => none, ck := ckT, cuts := [], mine := fun i => false }
noncomputable def s_l6Rise_f (x : Ts s_l6Rise_sig.pc) : Option (Ts s_l6Rise_sig.rc) := runFn Tryz.prog (s_l6Rise_E) Tryz.f150 s_l6Rise_sig x
theorem s_l6Rise_f_eq (x0 : (Int)) (x1 : (Int)) : s_l6Rise_f (x0, x1) = (some (IntKind.i64.wrap ((Int.tmod (IntKind.i64.wrap ((IntKind.i64.wrap ((IntKind.i64.wrap (x1 - x0)) + 3)) + 1)) 3) - 1))) := by
  kernel_rfl
theorem s_l6Rise_ent : Entb Tryz.prog 150 := ⟨Tryz.f150, by kernel_rfl, by kernel_rfl, by kernel_rfl⟩
theorem s_l6Rise_ok : CtrOk Tryz.prog 150 ⟨s_l6Rise_sig, s_l6Rise_f⟩ :=
  ctr_of (fn := Tryz.f150) (by kernel_rfl) (by kernel_rfl) (fun x : Ts s_l6Rise_sig.pc => s_l6Rise_E) (fun x => ⟨fn_none, clo_none, wr_none⟩) (fun h => by cases h) follows_ (fun _ _ => trivial)
end FN

set_option linter.unusedVariables false
namespace FN
open Go Go.Proofs
/-! loop.example/firingnets/spec.l7Heights -/
@[reducible] def s_l7Heights_sig : Sig := { ps := [none, none], pc := [.view .i64, .view .i64], rs := [none, none], rc := [.row 3 .i64, .bool] }
noncomputable def s_l7Heights_E : Env' := { fn := fun f => if f = 150 then some ⟨s_l6Rise_sig, s_l6Rise_f⟩ else none, ck := ckT, cuts := [(4, [0, 1, 6, 7, 8]), (9, [0, 1, 6, 7, 8, 9]), (12, [0, 1, 6, 7, 8, 9, 10]), (15, [0, 1, 6, 7, 8, 9, 10, 11]), (21, [0, 1, 6]), (22, [0, 1, 6, 12]), (25, [0, 1, 6, 12, 13])], mine := fun i => false }
noncomputable def s_l7Heights_f (x : Ts s_l7Heights_sig.pc) : Option (Ts s_l7Heights_sig.rc) := runFn Tryz.prog (s_l7Heights_E) Tryz.f130 s_l7Heights_sig x
noncomputable def s_l7Heights_l0 (y0 : List (Int)) (y1 : List (Int)) (y2 : Int) (y3 : Int) (y4 : List (Int)) : Option ((List (Int)) × (Bool)) := from_ Tryz.prog (s_l7Heights_E) Tryz.f130 s_l7Heights_sig [1, 1, 1, 0, 1, 0] ⟨mkT 131 [(0, .row false .i64 y0), (1, .row false .i64 y1), (6, .own 0), (7, .int .i64 y2), (8, .int .i64 y3)], [some (.arr 3 true .i64 y4)]⟩
noncomputable def s_l7Heights_l1 (y0 : List (Int)) (y1 : List (Int)) (y2 : Int) (y3 : Int) (y4 : Bool) (y5 : List (Int)) : Option ((List (Int)) × (Bool)) := from_ Tryz.prog (s_l7Heights_E) Tryz.f130 s_l7Heights_sig [1, 1, 1, 0, 1, 0, 0, 1, 0, 0, 1, 1, 1, 0] ⟨mkT 131 [(0, .row false .i64 y0), (1, .row false .i64 y1), (6, .own 0), (7, .int .i64 y2), (8, .int .i64 y3), (9, .bool y4)], [some (.arr 3 true .i64 y5)]⟩
noncomputable def s_l7Heights_j2 (y0 : List (Int)) (y1 : List (Int)) (y2 : List (Int)) : Option ((List (Int)) × (Bool)) := from_ Tryz.prog (s_l7Heights_E) Tryz.f130 s_l7Heights_sig [1, 1, 1, 1] ⟨mkT 131 [(0, .row false .i64 y0), (1, .row false .i64 y1), (6, .own 0)], [some (.arr 3 true .i64 y2)]⟩
noncomputable def s_l7Heights_l3 (y0 : List (Int)) (y1 : List (Int)) (y2 : Int) (y3 : Int) (y4 : Bool) (y5 : Int) (y6 : List (Int)) : Option ((List (Int)) × (Bool)) := from_ Tryz.prog (s_l7Heights_E) Tryz.f130 s_l7Heights_sig [1, 1, 1, 0, 1, 0, 0, 1, 0, 0, 1, 1, 1, 0, 0, 1, 0, 1, 1, 0] ⟨mkT 131 [(0, .row false .i64 y0), (1, .row false .i64 y1), (6, .own 0), (7, .int .i64 y2), (8, .int .i64 y3), (9, .bool y4), (10, .int .i64 y5)], [some (.arr 3 true .i64 y6)]⟩
noncomputable def s_l7Heights_l4 (y0 : List (Int)) (y1 : List (Int)) (y2 : Int) (y3 : List (Int)) : Option ((List (Int)) × (Bool)) := from_ Tryz.prog (s_l7Heights_E) Tryz.f130 s_l7Heights_sig [1, 1, 1, 1, 0, 1, 0] ⟨mkT 131 [(0, .row false .i64 y0), (1, .row false .i64 y1), (6, .own 0), (12, .int .i64 y2)], [some (.arr 3 true .i64 y3)]⟩
noncomputable def s_l7Heights_l5 (y0 : List (Int)) (y1 : List (Int)) (y2 : Int) (y3 : Int) (y4 : Bool) (y5 : Int) (y6 : Int) (y7 : List (Int)) : Option ((List (Int)) × (Bool)) := from_ Tryz.prog (s_l7Heights_E) Tryz.f130 s_l7Heights_sig [1, 1, 1, 0, 1, 0, 0, 1, 0, 0, 1, 1, 1, 0, 0, 1, 0, 1, 1, 0, 0, 1, 0, 0, 1, 0] ⟨mkT 131 [(0, .row false .i64 y0), (1, .row false .i64 y1), (6, .own 0), (7, .int .i64 y2), (8, .int .i64 y3), (9, .bool y4), (10, .int .i64 y5), (11, .int .i64 y6)], [some (.arr 3 true .i64 y7)]⟩
noncomputable def s_l7Heights_l6 (y0 : List (Int)) (y1 : List (Int)) (y2 : Int) (y3 : Int) (y4 : List (Int)) : Option ((List (Int)) × (Bool)) := from_ Tryz.prog (s_l7Heights_E) Tryz.f130 s_l7Heights_sig [1, 1, 1, 1, 0, 1, 0, 0, 1, 0, 0, 1, 0] ⟨mkT 131 [(0, .row false .i64 y0), (1, .row false .i64 y1), (6, .own 0), (12, .int .i64 y2), (13, .int .i64 y3)], [some (.arr 3 true .i64 y4)]⟩
theorem s_l7Heights_f_eq (x0 : (List (Int))) (x1 : (List (Int))) : s_l7Heights_f (x0, x1) = (if (0 : Int) ≤ (List.length x0 : Int) ∧ (List.length x0 : Int) * 8 ≤ 140737488355328 ∧ (List.length x0 : Int) ≤ 140737488355328 then (s_l7Heights_l0 x0 x1 0 0 (List.replicate ((List.length x0 : Int) : Int).toNat 0 : List (Int))) else none) := by
  kernel_rfl
theorem s_l7Heights_l0_eq (y0 : List (Int)) (y1 : List (Int)) (y2 : Int) (y3 : Int) (y4 : List (Int)) : s_l7Heights_l0 y0 y1 y2 y3 y4 = (cond ((decide (y3 < (List.length y0 : Int)))) (if y3 < 0 then none else (cond (((Int.tmod (Int.fdiv y2 (2 ^ min (y3 : Int).toNat IntKind.i64.bits)) 2) == 1)) (s_l7Heights_l0 y0 y1 y2 (IntKind.i64.wrap (y3 + 1)) y4) (if y3 < 0 then none else (s_l7Heights_l1 y0 y1 (Go.bits .or IntKind.i64 y2 (IntKind.i64.wrap (1 * 2 ^ min (y3 : Int).toNat IntKind.i64.bits))) y3 true y4)))) (s_l7Heights_j2 y0 y1 y4)) := by
  refine (loopK_eq Tryz.prog (s_l7Heights_E) (sub (Tryz.f130.body.getD .skip) [1, 1, 1, 0, 1, 0, 0]) _ _).trans ?_
  kernel_rfl
theorem s_l7Heights_l1_eq (y0 : List (Int)) (y1 : List (Int)) (y2 : Int) (y3 : Int) (y4 : Bool) (y5 : List (Int)) : s_l7Heights_l1 y0 y1 y2 y3 y4 y5 = (cond (y4) (s_l7Heights_l3 y0 y1 y2 y3 false 0 y5) (s_l7Heights_l0 y0 y1 y2 (IntKind.i64.wrap (y3 + 1)) y5)) := by
  refine (loopK_eq Tryz.prog (s_l7Heights_E) (sub (Tryz.f130.body.getD .skip) [1, 1, 1, 0, 1, 0, 0, 1, 0, 0, 1, 1, 1, 0, 0]) _ _).trans ?_
  kernel_rfl
theorem s_l7Heights_j2_eq (y0 : List (Int)) (y1 : List (Int)) (y2 : List (Int)) : s_l7Heights_j2 y0 y1 y2 = (s_l7Heights_l4 y0 y1 0 y2) := by
  kernel_rfl
theorem s_l7Heights_l3_eq (y0 : List (Int)) (y1 : List (Int)) (y2 : Int) (y3 : Int) (y4 : Bool) (y5 : Int) (y6 : List (Int)) : s_l7Heights_l3 y0 y1 y2 y3 y4 y5 y6 = (cond ((decide (y5 < (List.length y0 : Int)))) (s_l7Heights_l5 y0 y1 y2 y3 y4 y5 0 y6) (s_l7Heights_l1 y0 y1 y2 y3 y4 y6)) := by
  refine (loopK_eq Tryz.prog (s_l7Heights_E) (sub (Tryz.f130.body.getD .skip) [1, 1, 1, 0, 1, 0, 0, 1, 0, 0, 1, 1, 1, 0, 0, 1, 0, 1, 1, 0, 0]) _ _).trans ?_
  kernel_rfl
theorem s_l7Heights_l4_eq (y0 : List (Int)) (y1 : List (Int)) (y2 : Int) (y3 : List (Int)) : s_l7Heights_l4 y0 y1 y2 y3 = (cond ((decide (y2 < (List.length y0 : Int)))) (s_l7Heights_l6 y0 y1 y2 0 y3) (some (y3, true))) := by
  refine (loopK_eq Tryz.prog (s_l7Heights_E) (sub (Tryz.f130.body.getD .skip) [1, 1, 1, 1, 0, 1, 0, 0]) _ _).trans ?_
  kernel_rfl
theorem s_l7Heights_l5_eq (y0 : List (Int)) (y1 : List (Int)) (y2 : Int) (y3 : Int) (y4 : Bool) (y5 : Int) (y6 : Int) (y7 : List (Int)) : s_l7Heights_l5 y0 y1 y2 y3 y4 y5 y6 y7 = (cond ((decide (y6 < (List.length y0 : Int)))) (if y5 < 0 then none else (cond (((Int.tmod (Int.fdiv y2 (2 ^ min (y5 : Int).toNat IntKind.i64.bits)) 2) == 1)) (if (0 : Int) ≤ y5 ∧ y5 < (List.length y0 : Int) then (if y6 < 0 then none else (cond (((Int.tmod (Int.fdiv (List.getD y0 (y5 : Int).toNat 0) (2 ^ min (y6 : Int).toNat IntKind.i64.bits)) 2) == 1)) (if y6 < 0 then none else (cond (((Int.tmod (Int.fdiv y2 (2 ^ min (y6 : Int).toNat IntKind.i64.bits)) 2) == 0)) (if (0 : Int) ≤ y5 ∧ y5 < (List.length y7 : Int) then (if (0 : Int) ≤ y5 ∧ y5 < (List.length y1 : Int) then (if (0 : Int) ≤ y6 ∧ y6 < (List.length y1 : Int) then (Option.bind (s_l6Rise_f ((List.getD y1 (y5 : Int).toNat 0), (List.getD y1 (y6 : Int).toNat 0))) fun r1 => (if (0 : Int) ≤ y6 ∧ y6 < (List.length y7 : Int) then (if y6 < 0 then none else (s_l7Heights_l5 y0 y1 (Go.bits .or IntKind.i64 y2 (IntKind.i64.wrap (1 * 2 ^ min (y6 : Int).toNat IntKind.i64.bits))) y3 true y5 (IntKind.i64.wrap (y6 + 1)) (List.set y7 (y6 : Int).toNat (IntKind.i64.wrap ((List.getD y7 (y5 : Int).toNat 0) + r1))))) else none)) else none) else none) else none) (s_l7Heights_l5 y0 y1 y2 y3 y4 y5 (IntKind.i64.wrap (y6 + 1)) y7))) (s_l7Heights_l5 y0 y1 y2 y3 y4 y5 (IntKind.i64.wrap (y6 + 1)) y7))) else none) (s_l7Heights_l3 y0 y1 y2 y3 y4 (IntKind.i64.wrap (y5 + 1)) y7))) (s_l7Heights_l3 y0 y1 y2 y3 y4 (IntKind.i64.wrap (y5 + 1)) y7)) := by
  refine (loopK_eq Tryz.prog (s_l7Heights_E) (sub (Tryz.f130.body.getD .skip) [1, 1, 1, 0, 1, 0, 0, 1, 0, 0, 1, 1, 1, 0, 0, 1, 0, 1, 1, 0, 0, 1, 0, 0, 1, 0, 0]) _ _).trans ?_
  kernel_rfl
theorem s_l7Heights_l6_eq (y0 : List (Int)) (y1 : List (Int)) (y2 : Int) (y3 : Int) (y4 : List (Int)) : s_l7Heights_l6 y0 y1 y2 y3 y4 = (cond ((decide (y3 < (List.length y0 : Int)))) (if (0 : Int) ≤ y2 ∧ y2 < (List.length y0 : Int) then (if y3 < 0 then none else (cond (((Int.tmod (Int.fdiv (List.getD y0 (y2 : Int).toNat 0) (2 ^ min (y3 : Int).toNat IntKind.i64.bits)) 2) == 1)) (if (0 : Int) ≤ y3 ∧ y3 < (List.length y4 : Int) then (if (0 : Int) ≤ y2 ∧ y2 < (List.length y4 : Int) then (if (0 : Int) ≤ y2 ∧ y2 < (List.length y1 : Int) then (if (0 : Int) ≤ y3 ∧ y3 < (List.length y1 : Int) then (Option.bind (s_l6Rise_f ((List.getD y1 (y2 : Int).toNat 0), (List.getD y1 (y3 : Int).toNat 0))) fun r1 => (cond (((IntKind.i64.wrap ((List.getD y4 (y3 : Int).toNat 0) - (List.getD y4 (y2 : Int).toNat 0))) != r1)) (some (([] : List (Int)), false)) (s_l7Heights_l6 y0 y1 y2 (IntKind.i64.wrap (y3 + 1)) y4))) else none) else none) else none) else none) (s_l7Heights_l6 y0 y1 y2 (IntKind.i64.wrap (y3 + 1)) y4))) else none) (s_l7Heights_l4 y0 y1 (IntKind.i64.wrap (y2 + 1)) y4)) := by
  refine (loopK_eq Tryz.prog (s_l7Heights_E) (sub (Tryz.f130.body.getD .skip) [1, 1, 1, 1, 0, 1, 0, 0, 1, 0, 0, 1, 0, 0]) _ _).trans ?_
  kernel_rfl
theorem s_l7Heights_ent : Entb Tryz.prog 130 := ⟨Tryz.f130, by kernel_rfl, by kernel_rfl, by kernel_rfl⟩
theorem s_l7Heights_ok : CtrOk Tryz.prog 130 ⟨s_l7Heights_sig, s_l7Heights_f⟩ :=
  ctr_of (fn := Tryz.f130) (by kernel_rfl) (by kernel_rfl) (fun x : Ts s_l7Heights_sig.pc => s_l7Heights_E) (fun x => ⟨(fn_cons ⟨s_l6Rise_ok, s_l6Rise_ent⟩ fn_none), clo_none, wr_none⟩) (fun h => by cases h) follows_ (fun _ _ => trivial)
end FN

set_option linter.unusedVariables false
namespace FN
open Go Go.Proofs
/-! loop.example/firingnets/spec.HeightRow -/
@[reducible] def s_HeightRow_sig : Sig := { ps := [none, none], pc := [.view .i64, .view .i64], rs := [none, none], rc := [.row 3 .i64, .bool] }
noncomputable def s_HeightRow_E : Env' := { fn := fun f => if f = 100 then some ⟨s_l3Ok_sig, s_l3Ok_f⟩ else if f = 130 then some ⟨s_l7Heights_sig, s_l7Heights_f⟩ else none, ck := ckT, cuts := [], mine := fun i => i == 8 || i == 13 }
noncomputable def s_HeightRow_f (x : Ts s_HeightRow_sig.pc) : Option (Ts s_HeightRow_sig.rc) := runFn Tryz.prog (s_HeightRow_E) Tryz.f96 s_HeightRow_sig x
theorem s_HeightRow_f_eq (x0 : (List (Int))) (x1 : (List (Int))) : s_HeightRow_f (x0, x1) = (Option.bind (s_l3Ok_f (x0, 3, x1)) fun r1 => (cond ((!r1)) (some (([] : List (Int)), false)) (Option.bind (s_l7Heights_f (x0, x1)) fun r2 => (some (r2.1, r2.2))))) := by
  kernel_rfl
theorem s_HeightRow_ent : Entb Tryz.prog 96 := ⟨Tryz.f96, by kernel_rfl, by kernel_rfl, by kernel_rfl⟩
theorem s_HeightRow_ok : CtrOk Tryz.prog 96 ⟨s_HeightRow_sig, s_HeightRow_f⟩ :=
  ctr_of (fn := Tryz.f96) (by kernel_rfl) (by kernel_rfl) (fun x : Ts s_HeightRow_sig.pc => s_HeightRow_E) (fun x => ⟨(fn_cons ⟨s_l3Ok_ok, s_l3Ok_ent⟩ (fn_cons ⟨s_l7Heights_ok, s_l7Heights_ent⟩ fn_none)), clo_none, wr_none⟩) (fun h => by cases h) follows_ (fun _ _ => trivial)
end FN

set_option linter.unusedVariables false
namespace FN
open Go Go.Proofs
/-! loop.example/firingnets/impl.FlatOk -/
@[reducible] def i_FlatOk_sig : Sig := { ps := [none, none], pc := [.view .i64, .view .i64], rs := [none], rc := [.bool] }
noncomputable def i_FlatOk_E : Env' := { fn := fun f => if f = 79 then some ⟨i_HeightRow_sig, i_HeightRow_f⟩ else none, ck := ckT, cuts := [], mine := fun i => false }
noncomputable def i_FlatOk_f (x : Ts i_FlatOk_sig.pc) : Option (Ts i_FlatOk_sig.rc) := runFn Tryz.prog (i_FlatOk_E) Tryz.f78 i_FlatOk_sig x
theorem i_FlatOk_f_eq (x0 : (List (Int))) (x1 : (List (Int))) : i_FlatOk_f (x0, x1) = (Option.bind (i_HeightRow_f (x0, x1)) fun r1 => (some r1.2)) := by
  kernel_rfl
theorem i_FlatOk_ent : Entb Tryz.prog 78 := ⟨Tryz.f78, by kernel_rfl, by kernel_rfl, by kernel_rfl⟩
theorem i_FlatOk_ok : CtrOk Tryz.prog 78 ⟨i_FlatOk_sig, i_FlatOk_f⟩ :=
  ctr_of (fn := Tryz.f78) (by kernel_rfl) (by kernel_rfl) (fun x : Ts i_FlatOk_sig.pc => i_FlatOk_E) (fun x => ⟨(fn_cons ⟨i_HeightRow_ok, i_HeightRow_ent⟩ fn_none), clo_none, wr_none⟩) (fun h => by cases h) follows_ (fun _ _ => trivial)
end FN

set_option linter.unusedVariables false
namespace FN
open Go Go.Proofs
/-! loop.example/firingnets/spec.FlatOk -/
@[reducible] def s_FlatOk_sig : Sig := { ps := [none, none], pc := [.view .i64, .view .i64], rs := [none], rc := [.bool] }
noncomputable def s_FlatOk_E : Env' := { fn := fun f => if f = 100 then some ⟨s_l3Ok_sig, s_l3Ok_f⟩ else if f = 130 then some ⟨s_l7Heights_sig, s_l7Heights_f⟩ else none, ck := ckT, cuts := [], mine := fun i => false }
noncomputable def s_FlatOk_f (x : Ts s_FlatOk_sig.pc) : Option (Ts s_FlatOk_sig.rc) := runFn Tryz.prog (s_FlatOk_E) Tryz.f95 s_FlatOk_sig x
theorem s_FlatOk_f_eq (x0 : (List (Int))) (x1 : (List (Int))) : s_FlatOk_f (x0, x1) = (Option.bind (s_l3Ok_f (x0, 3, x1)) fun r1 => (cond ((!r1)) (some false) (Option.bind (s_l7Heights_f (x0, x1)) fun r2 => (some r2.2)))) := by
  kernel_rfl
theorem s_FlatOk_ent : Entb Tryz.prog 95 := ⟨Tryz.f95, by kernel_rfl, by kernel_rfl, by kernel_rfl⟩
theorem s_FlatOk_ok : CtrOk Tryz.prog 95 ⟨s_FlatOk_sig, s_FlatOk_f⟩ :=
  ctr_of (fn := Tryz.f95) (by kernel_rfl) (by kernel_rfl) (fun x : Ts s_FlatOk_sig.pc => s_FlatOk_E) (fun x => ⟨(fn_cons ⟨s_l3Ok_ok, s_l3Ok_ent⟩ (fn_cons ⟨s_l7Heights_ok, s_l7Heights_ent⟩ fn_none)), clo_none, wr_none⟩) (fun h => by cases h) follows_ (fun _ _ => trivial)
end FN

/-! strings.Cut: the shelf's contract, as one of ours. -/
namespace FN
open Go Go.Proofs Go.RowKit
def cut3 (s sep : ByteArray) : ByteArray × ByteArray × Bool := (⟨(Lib.cut s.data.toList sep.data.toList).1.toArray⟩, ⟨(Lib.cut s.data.toList sep.data.toList).2.1.toArray⟩, (Lib.cut s.data.toList sep.data.toList).2.2)
@[reducible] def x_strings_Cut_sig : Sig := { ps := [none, none], pc := [.str, .str], rs := [none, none, none], rc := [.str, .str, .bool] }
def x_strings_Cut_f (x : Ts x_strings_Cut_sig.pc) : Option (Ts x_strings_Cut_sig.rc) := if x.1.size < 4294967281 then some (cut3 x.1 x.2) else none
theorem x_strings_Cut_ent : Entb Tryz.prog 80 := ⟨Tryz.f80, by kernel_rfl, by kernel_rfl, by kernel_rfl⟩
theorem x_strings_Cut_ok : CtrOk Tryz.prog 80 ⟨x_strings_Cut_sig, x_strings_Cut_f⟩ := by
  intro w okc args bx x r hI hA hr
  obtain ⟨rfl, fl, h1, h2⟩ := (show bx = none ∧ ∃ fl, flatV [none, none] args.toList = some fl ∧ F2 (V1 (av w okc)) [PV.str x.1, PV.str x.2] fl from hA)
  obtain ⟨p, q, h3, rfl⟩ := flatV_two h1
  obtain ⟨m, hm⟩ := gl_cell hI
  have hx : (if x.1.size < 4294967281 then some (cut3 x.1 x.2) else none) = some r := hr
  split at hx
  · rename_i hc
    injection hx with hx
    subst hx
    cases h2 with
    | cons hp h2 => cases h2 with
      | cons hq _ =>
        have hp : p = .string x.1 := hp
        have hq : q = .string x.2 := hq
        subst hp; subst hq
        have hargs : args = #[.string x.1, .string x.2] := by apply Array.ext'; rw [h3]
        rw [hargs]
        refine (Tryz.strings_Cut x.1 x.2 m w hc hm).mono ?_
        rintro e w' ⟨rfl, n, rfl⟩
        exact ⟨_, rfl, ⟨[.string (cut3 x.1 x.2).1, .string (cut3 x.1 x.2).2.1, .bool (cut3 x.1 x.2).2.2], fun _ => False, ⟨_, _, rfl, rfl, ⟨_, _, rfl, rfl, ⟨_, rfl, rfl⟩⟩⟩, fun i j u u' g hu => by simp [rowsV] at hu, fun k h => h, (fun h => Bool.noConfusion (show (false : Bool) = true from h)), [.string (cut3 x.1 x.2).1, .string (cut3 x.1 x.2).2.1, .bool (cut3 x.1 x.2).2.2], rfl, rfl⟩, ⟨rfl, rfl, rfl, Nat.le_refl _, fun _ _ _ => rfl⟩⟩
  · cases hx
end FN

/-! numberOf: walked by hand. -/
namespace FN
open Go Go.Proofs Go.RowKit
def numOfV (s : ByteArray) : Int × Bool := match Lib.atoiAll s.data.toList with
  | .ok v => (v, if itoaG v = s then (if 0 ≤ v then decide (v ≤ 999999) else false) else false)
  | .«syntax» => (0, false)
  | .range => (Lib.atoiSat s.data.toList, false)
@[reducible] def i_numberOf_sig : Sig := { ps := [none], pc := [.str], rs := [none, none], rc := [.int .i64, .bool] }
def i_numberOf_f (s : Ts i_numberOf_sig.pc) : Option (Ts i_numberOf_sig.rc) := if ByteArray.size s ≤ 281474976710656 then some (numOfV s) else none
theorem i_numberOf_ent : Entb Tryz.prog 81 := ⟨Tryz.f81, by kernel_rfl, by kernel_rfl, by kernel_rfl⟩
theorem gl_bel {w w' : World} (h : Gl.I w) (k : Below w.heap.size w w') : Gl.I w' := Gl.keep none h k.size (fun i hi _ => k.block i hi) (fun k hk => by cases hk)
theorem bel_grow {w w' : World} {k : Nat} {os : Array Obj} (h : w' = Go.Sort.grow (w.drewN k) os) : Below w.heap.size w w' := by
  subst h
  exact ⟨rfl, rfl, rfl, by simp [Go.Sort.grow, World.drewN], fun i hi => by simp [Go.Sort.grow, World.drewN, Array.getElem?_append, hi]⟩
theorem itoa_back {l : List UInt8} {s : ByteArray} (h : l = s.toList) : (⟨l.toArray⟩ : ByteArray) = s := by
  rw [h, ByteArray.toList_eq]
theorem bel_trans {a b c : World} (h : Below a.heap.size a b) (k : Below b.heap.size b c) : Below a.heap.size a c := ⟨k.os.trans h.os, k.tape.trans h.tape, k.output.trans h.output, Nat.le_trans h.size k.size, fun i hi => (k.block i (Nat.lt_of_lt_of_le hi h.size)).trans (h.block i hi)⟩
set_option maxRecDepth 100000 in
theorem numberOfC {W : World} {s : ByteArray} (hI : Gl.I W) (hc : s.size ≤ 281474976710656) :
    Calls Tryz.prog 81 #[.string s] W fun e W' => e = .returned (.tuple #[.int .i64 (numOfV s).1, .bool (numOfV s).2]) ∧ Below W.heap.size W W' := by
  cases ha : Lib.atoiAll s.data.toList with
  | ok v =>
    have hv : numOfV s = (v, if itoaG v = s then (if 0 ≤ v then decide (v ≤ 999999) else false) else false) := by unfold numOfV; rw [ha]
    have hr := Lib.atoiAll_bounds ha
    have hbel : ∀ {w1 : World}, (w1 = W ∨ ∃ t, w1 = Lib.bytesWorld W 5 t) → Below W.heap.size W w1 := fun {w1} hw => by
      rcases hw with rfl | ⟨t, rfl⟩
      · exact Below.refl _ _
      · exact Lib.bytesWorld_below _ _ _
    rw [hv]
    by_cases c1 : itoaG v = s
    · rw [if_pos c1]
      have c1' : (⟨(Lib.itoa v).toArray⟩ : ByteArray) = s := c1
      by_cases c2 : 0 ≤ v
      · rw [if_pos c2]
        go_enter Tryz.func81, Tryz.ntmps81
        go_wp2_with (first
      | (go_at_call 67; refine (Tryz.strconv_Atoi_ok s (Nat.le_trans hc (by decide)) v ha W).mono ?_; rintro e w1 ⟨rfl, hw⟩; have hb : Below W.heap.size W w1 := hbel hw; have htab := gl_tab (gl_bel hI hb))
      | (go_at_call 73; refine (Tryz.strconv_Itoa v hr.1 hr.2 w1 htab).mono ?_; rintro e w2 ⟨rfl, k2, os2, hw2⟩; have hb2 : Below w1.heap.size w1 w2 := bel_grow hw2)
      | go_in)
        go_ret2
        exact ⟨rfl, bel_trans hb (hw2 ▸ hb2)⟩
      · rw [if_neg c2]
        go_enter Tryz.func81, Tryz.ntmps81
        go_wp2_with (first
      | (go_at_call 67; refine (Tryz.strconv_Atoi_ok s (Nat.le_trans hc (by decide)) v ha W).mono ?_; rintro e w1 ⟨rfl, hw⟩; have hb : Below W.heap.size W w1 := hbel hw; have htab := gl_tab (gl_bel hI hb))
      | (go_at_call 73; refine (Tryz.strconv_Itoa v hr.1 hr.2 w1 htab).mono ?_; rintro e w2 ⟨rfl, k2, os2, hw2⟩; have hb2 : Below w1.heap.size w1 w2 := bel_grow hw2)
      | go_in)
        all_goals first
          | (exfalso; omega)
          | (go_ret2; exact ⟨rfl, bel_trans hb (hw2 ▸ hb2)⟩)
    · rw [if_neg c1]
      have c1' : (⟨(Lib.itoa v).toArray⟩ : ByteArray) ≠ s := c1
      go_enter Tryz.func81, Tryz.ntmps81
      go_wp2_with (first
      | (go_at_call 67; refine (Tryz.strconv_Atoi_ok s (Nat.le_trans hc (by decide)) v ha W).mono ?_; rintro e w1 ⟨rfl, hw⟩; have hb : Below W.heap.size W w1 := hbel hw; have htab := gl_tab (gl_bel hI hb))
      | (go_at_call 73; refine (Tryz.strconv_Itoa v hr.1 hr.2 w1 htab).mono ?_; rintro e w2 ⟨rfl, k2, os2, hw2⟩; have hb2 : Below w1.heap.size w1 w2 := bel_grow hw2)
      | go_in)
      all_goals first
        | (go_ret2; exact ⟨rfl, bel_trans hb (hw2 ▸ hb2)⟩)
        | exact absurd (itoa_back ‹Lib.itoa v = s.toList›) c1'
  | «syntax» =>
    have hv : numOfV s = (0, false) := by unfold numOfV; rw [ha]
    obtain ⟨ev, g1, g2⟩ := gl_syn hI
    have hat := Tryz.strconv_Atoi_syntax s hc ha ev W g1 g2
    rw [hv]
    go_enter Tryz.func81, Tryz.ntmps81
    go_wp2_with (first
      | (go_at_call 67; refine hat.mono ?_; rintro e w1 ⟨N, rfl, hn1, hn2, hb⟩)
      | go_in)
    go_ret2
    exact ⟨rfl, hb⟩
  | range =>
    have hv : numOfV s = (Lib.atoiSat s.data.toList, false) := by unfold numOfV; rw [ha]
    obtain ⟨ev, g1, g2⟩ := gl_ran hI
    have hat := Tryz.strconv_Atoi_range s hc ha ev W g1 g2
    rw [hv]
    go_enter Tryz.func81, Tryz.ntmps81
    go_wp2_with (first
      | (go_at_call 67; refine hat.mono ?_; rintro e w1 ⟨N, rfl, hn1, hn2, hb⟩)
      | go_in)
    go_ret2
    exact ⟨rfl, hb⟩
theorem i_numberOf_ok : CtrOk Tryz.prog 81 ⟨i_numberOf_sig, i_numberOf_f⟩ := by
  intro w okc args bx x r hI hA hr
  obtain ⟨rfl, fl, h1, h2⟩ := (show bx = none ∧ ∃ fl, flatV [none] args.toList = some fl ∧ F2 (V1 (av w okc)) [PV.str x] fl from hA)
  obtain ⟨p, h3, rfl⟩ := flatV_one h1
  cases h2 with
  | cons hp _ =>
    have hp : p = .string x := hp
    subst hp
    have hx : (if ByteArray.size x ≤ 281474976710656 then some (numOfV x) else none) = some r := hr
    split at hx
    · rename_i hc
      injection hx with hx
      subst hx
      have hargs : args = #[.string x] := by apply Array.ext'; rw [h3]
      rw [hargs]
      refine (numberOfC hI hc).mono ?_
      rintro e w' ⟨rfl, hb⟩
      exact ⟨_, rfl, ⟨[.int .i64 (numOfV x).1, .bool (numOfV x).2], fun _ => False, ⟨_, _, rfl, rfl, _, rfl, rfl⟩, fun i j u u' g hu => by simp [rowsV] at hu, fun k h => h, (fun h => Bool.noConfusion (show (false : Bool) = true from h)), [.int .i64 (numOfV x).1, .bool (numOfV x).2], rfl, rfl⟩, kpB hb⟩
    · cases hx
end FN

