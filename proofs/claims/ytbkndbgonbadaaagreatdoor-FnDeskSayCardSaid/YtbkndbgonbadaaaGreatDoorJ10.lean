/- Texts of the proof, joined: parts -/
import Derived.Test.YtbkndbgonbadaaaGreatDoorJ0
import Derived.Test.YtbkndbgonbadaaaGreatDoorJ1
import Derived.Test.YtbkndbgonbadaaaGreatDoorJ4
import Derived.Test.YtbkndbgonbadaaaGreatDoorJ5
set_option linter.unusedVariables false
set_option linter.unusedSimpArgs false
set_option linter.unusedSectionVars false
set_option linter.unusedVariables false
namespace FN
open Go Go.Proofs
/-! loop.example/firingnets/spec.l3Same -/
@[reducible] def s_l3Same_sig : Sig := { ps := [none, none], pc := [.view .i64, .view .i64], rs := [none], rc := [.bool] }
noncomputable def s_l3Same_E : Env' := { fn := fun f => none, ck := ckT, cuts := [(2, [0, 1, 5])], mine := fun i => false }
noncomputable def s_l3Same_f (x : Ts s_l3Same_sig.pc) : Option (Ts s_l3Same_sig.rc) := runFn Tryz.prog (s_l3Same_E) Tryz.f126 s_l3Same_sig x
noncomputable def s_l3Same_l0 (y0 : List (Int)) (y1 : List (Int)) (y2 : Int) : Option ((Bool)) := from_ Tryz.prog (s_l3Same_E) Tryz.f126 s_l3Same_sig [1, 0, 1, 0] ⟨mkT 21 [(0, .row false .i64 y0), (1, .row false .i64 y1), (5, .int .i64 y2)], []⟩
theorem s_l3Same_f_eq (x0 : (List (Int))) (x1 : (List (Int))) : s_l3Same_f (x0, x1) = (s_l3Same_l0 x0 x1 0) := by
  kernel_rfl
theorem s_l3Same_l0_eq (y0 : List (Int)) (y1 : List (Int)) (y2 : Int) : s_l3Same_l0 y0 y1 y2 = (cond ((decide (y2 < (List.length y0 : Int)))) (if (0 : Int) ≤ y2 ∧ y2 < (List.length y0 : Int) then (if (0 : Int) ≤ y2 ∧ y2 < (List.length y1 : Int) then (cond (((List.getD y0 (y2 : Int).toNat 0) != (List.getD y1 (y2 : Int).toNat 0))) (some false) (s_l3Same_l0 y0 y1 (IntKind.i64.wrap (y2 + 1)))) else none) else none) (some true)) := by
  refine (loopK_eq Tryz.prog (s_l3Same_E) (sub (Tryz.f126.body.getD .skip) [1, 0, 1, 0, 0]) _ _).trans ?_
  kernel_rfl
theorem s_l3Same_ent : Entb Tryz.prog 126 := ⟨Tryz.f126, by kernel_rfl, by kernel_rfl, by kernel_rfl⟩
theorem s_l3Same_ok : CtrOk Tryz.prog 126 ⟨s_l3Same_sig, s_l3Same_f⟩ :=
  ctr_of (fn := Tryz.f126) (by kernel_rfl) (by kernel_rfl) (fun x : Ts s_l3Same_sig.pc => s_l3Same_E) (fun x => ⟨fn_none, clo_none, wr_none⟩) (fun h => by cases h) follows_ (fun _ _ => trivial)
end FN

set_option linter.unusedVariables false
namespace FN
open Go Go.Proofs
/-! loop.example/firingnets/spec.LoopOf -/
@[reducible] def s_LoopOf_sig : Sig := { ps := [none, none, none], pc := [.view .i64, .int .i64, .view .i64], rs := [none, none], rc := [.int .i64, .int .i64] }
noncomputable def s_LoopOf_E : Env' := { fn := fun f => if f = 100 then some ⟨s_l3Ok_sig, s_l3Ok_f⟩ else if f = 125 then some ⟨s_l3Step_sig, s_l3Step_f⟩ else if f = 126 then some ⟨s_l3Same_sig, s_l3Same_f⟩ else none, ck := ckT, cuts := [(5, [0, 1, 2, 8, 9]), (8, [0, 1, 2, 9]), (10, [0, 1, 8, 9, 10]), (14, [0, 1, 8, 10]), (16, [0, 1, 8, 9, 10, 11])], mine := fun i => false }
noncomputable def s_LoopOf_f (x : Ts s_LoopOf_sig.pc) : Option (Ts s_LoopOf_sig.rc) := runFn Tryz.prog (s_LoopOf_E) Tryz.f91 s_LoopOf_sig x
noncomputable def s_LoopOf_l0 (y0 : List (Int)) (y1 : Int) (y2 : List (Int)) (y3 : List (Int)) (y4 : List (Int)) : Option ((Int) × (Int)) := from_ Tryz.prog (s_LoopOf_E) Tryz.f91 s_LoopOf_sig [1, 1, 1, 1, 0, 0] ⟨mkT 73 [(0, .row false .i64 y0), (1, .int .i64 y1), (2, .row false .i64 y2), (8, .row true .i64 y3), (9, .row true .i64 y4)], []⟩
noncomputable def s_LoopOf_j1 (y0 : List (Int)) (y1 : Int) (y2 : List (Int)) (y3 : List (Int)) : Option ((Int) × (Int)) := from_ Tryz.prog (s_LoopOf_E) Tryz.f91 s_LoopOf_sig [1, 1, 1, 1, 1] ⟨mkT 73 [(0, .row false .i64 y0), (1, .int .i64 y1), (2, .row false .i64 y2), (9, .row true .i64 y3)], []⟩
noncomputable def s_LoopOf_l2 (y0 : List (Int)) (y1 : Int) (y2 : List (Int)) (y3 : Int) (y4 : List (Int)) : Option ((Int) × (Int)) := from_ Tryz.prog (s_LoopOf_E) Tryz.f91 s_LoopOf_sig [1, 1, 1, 1, 1, 1, 1, 0, 0] ⟨mkT 73 [(0, .row false .i64 y0), (1, .int .i64 y1), (8, .own 0), (9, .row true .i64 y2), (10, .int .i64 y3)], [some (.arr 3 true .i64 y4)]⟩
noncomputable def s_LoopOf_l3 (y0 : List (Int)) (y1 : Int) (y2 : List (Int)) (y3 : List (Int)) (y4 : Int) : Option ((Int) × (Int)) := from_ Tryz.prog (s_LoopOf_E) Tryz.f91 s_LoopOf_sig [1, 1, 1, 1, 1, 1, 1, 0, 0] ⟨mkT 73 [(0, .row false .i64 y0), (1, .int .i64 y1), (8, .row true .i64 y2), (9, .row true .i64 y3), (10, .int .i64 y4)], []⟩
noncomputable def s_LoopOf_j4 (y0 : List (Int)) (y1 : Int) (y2 : Int) (y3 : List (Int)) : Option ((Int) × (Int)) := from_ Tryz.prog (s_LoopOf_E) Tryz.f91 s_LoopOf_sig [1, 1, 1, 1, 1, 1, 1, 1] ⟨mkT 73 [(0, .row false .i64 y0), (1, .int .i64 y1), (8, .own 0), (10, .int .i64 y2)], [some (.arr 3 true .i64 y3)]⟩
noncomputable def s_LoopOf_j5 (y0 : List (Int)) (y1 : Int) (y2 : List (Int)) (y3 : Int) : Option ((Int) × (Int)) := from_ Tryz.prog (s_LoopOf_E) Tryz.f91 s_LoopOf_sig [1, 1, 1, 1, 1, 1, 1, 1] ⟨mkT 73 [(0, .row false .i64 y0), (1, .int .i64 y1), (8, .row true .i64 y2), (10, .int .i64 y3)], []⟩
noncomputable def s_LoopOf_l6 (y0 : List (Int)) (y1 : Int) (y2 : List (Int)) (y3 : Int) (y4 : Int) (y5 : List (Int)) : Option ((Int) × (Int)) := from_ Tryz.prog (s_LoopOf_E) Tryz.f91 s_LoopOf_sig [1, 1, 1, 1, 1, 1, 1, 1, 1, 1, 0, 0] ⟨mkT 73 [(0, .row false .i64 y0), (1, .int .i64 y1), (8, .own 0), (9, .row true .i64 y2), (10, .int .i64 y3), (11, .int .i64 y4)], [some (.arr 3 true .i64 y5)]⟩
noncomputable def s_LoopOf_l7 (y0 : List (Int)) (y1 : Int) (y2 : List (Int)) (y3 : List (Int)) (y4 : Int) (y5 : Int) : Option ((Int) × (Int)) := from_ Tryz.prog (s_LoopOf_E) Tryz.f91 s_LoopOf_sig [1, 1, 1, 1, 1, 1, 1, 1, 1, 1, 0, 0] ⟨mkT 73 [(0, .row false .i64 y0), (1, .int .i64 y1), (8, .row true .i64 y2), (9, .row true .i64 y3), (10, .int .i64 y4), (11, .int .i64 y5)], []⟩
theorem s_LoopOf_f_eq (x0 : (List (Int))) (x1 : (Int)) (x2 : (List (Int))) : s_LoopOf_f (x0, x1, x2) = (Option.bind (s_l3Ok_f (x0, x1, x2)) fun r1 => (cond ((!r1)) (some ((-1), (-1))) (Option.bind (s_l3Step_f (x0, x1, x2)) fun r2 => (Option.bind (s_l3Step_f (x0, x1, r2)) fun r3 => (s_LoopOf_l0 x0 x1 x2 r2 r3))))) := by
  kernel_rfl
theorem s_LoopOf_l0_eq (y0 : List (Int)) (y1 : Int) (y2 : List (Int)) (y3 : List (Int)) (y4 : List (Int)) : s_LoopOf_l0 y0 y1 y2 y3 y4 = (Option.bind (s_l3Same_f (y3, y4)) fun r1 => (cond ((!r1)) (Option.bind (s_l3Step_f (y0, y1, y3)) fun r2 => (Option.bind (s_l3Step_f (y0, y1, y4)) fun r3 => (Option.bind (s_l3Step_f (y0, y1, r3)) fun r4 => (s_LoopOf_l0 y0 y1 y2 r2 r4)))) (s_LoopOf_j1 y0 y1 y2 y4))) := by
  refine (loopK_eq Tryz.prog (s_LoopOf_E) (sub (Tryz.f91.body.getD .skip) [1, 1, 1, 1, 0, 0, 0]) _ _).trans ?_
  kernel_rfl
theorem s_LoopOf_j1_eq (y0 : List (Int)) (y1 : Int) (y2 : List (Int)) (y3 : List (Int)) : s_LoopOf_j1 y0 y1 y2 y3 = (if (List.length ([] : List (Int)) + List.length y2) * 8 ≤ 140737488355328 then (s_LoopOf_l2 y0 y1 y3 0 (([] : List (Int)) ++ y2)) else none) := by
  kernel_rfl
theorem s_LoopOf_l2_eq (y0 : List (Int)) (y1 : Int) (y2 : List (Int)) (y3 : Int) (y4 : List (Int)) : s_LoopOf_l2 y0 y1 y2 y3 y4 = (Option.bind (s_l3Same_f (y4, y2)) fun r1 => (cond ((!r1)) (Option.bind (s_l3Step_f (y0, y1, y4)) fun r2 => (Option.bind (s_l3Step_f (y0, y1, y2)) fun r3 => (s_LoopOf_l3 y0 y1 r2 r3 (IntKind.i64.wrap (y3 + 1))))) (s_LoopOf_j4 y0 y1 y3 y4))) := by
  refine (loopK_eq Tryz.prog (s_LoopOf_E) (sub (Tryz.f91.body.getD .skip) [1, 1, 1, 1, 1, 1, 1, 0, 0, 0]) _ _).trans ?_
  kernel_rfl
theorem s_LoopOf_l3_eq (y0 : List (Int)) (y1 : Int) (y2 : List (Int)) (y3 : List (Int)) (y4 : Int) : s_LoopOf_l3 y0 y1 y2 y3 y4 = (Option.bind (s_l3Same_f (y2, y3)) fun r1 => (cond ((!r1)) (Option.bind (s_l3Step_f (y0, y1, y2)) fun r2 => (Option.bind (s_l3Step_f (y0, y1, y3)) fun r3 => (s_LoopOf_l3 y0 y1 r2 r3 (IntKind.i64.wrap (y4 + 1))))) (s_LoopOf_j5 y0 y1 y2 y4))) := by
  refine (loopK_eq Tryz.prog (s_LoopOf_E) (sub (Tryz.f91.body.getD .skip) [1, 1, 1, 1, 1, 1, 1, 0, 0, 0]) _ _).trans ?_
  kernel_rfl
theorem s_LoopOf_j4_eq (y0 : List (Int)) (y1 : Int) (y2 : Int) (y3 : List (Int)) : s_LoopOf_j4 y0 y1 y2 y3 = (Option.bind (s_l3Step_f (y0, y1, y3)) fun r1 => (s_LoopOf_l6 y0 y1 r1 y2 1 y3)) := by
  kernel_rfl
theorem s_LoopOf_j5_eq (y0 : List (Int)) (y1 : Int) (y2 : List (Int)) (y3 : Int) : s_LoopOf_j5 y0 y1 y2 y3 = (Option.bind (s_l3Step_f (y0, y1, y2)) fun r1 => (s_LoopOf_l7 y0 y1 y2 r1 y3 1)) := by
  kernel_rfl
theorem s_LoopOf_l6_eq (y0 : List (Int)) (y1 : Int) (y2 : List (Int)) (y3 : Int) (y4 : Int) (y5 : List (Int)) : s_LoopOf_l6 y0 y1 y2 y3 y4 y5 = (Option.bind (s_l3Same_f (y5, y2)) fun r1 => (cond ((!r1)) (Option.bind (s_l3Step_f (y0, y1, y2)) fun r2 => (s_LoopOf_l6 y0 y1 r2 y3 (IntKind.i64.wrap (y4 + 1)) y5)) (some (y3, y4)))) := by
  refine (loopK_eq Tryz.prog (s_LoopOf_E) (sub (Tryz.f91.body.getD .skip) [1, 1, 1, 1, 1, 1, 1, 1, 1, 1, 0, 0, 0]) _ _).trans ?_
  kernel_rfl
theorem s_LoopOf_l7_eq (y0 : List (Int)) (y1 : Int) (y2 : List (Int)) (y3 : List (Int)) (y4 : Int) (y5 : Int) : s_LoopOf_l7 y0 y1 y2 y3 y4 y5 = (Option.bind (s_l3Same_f (y2, y3)) fun r1 => (cond ((!r1)) (Option.bind (s_l3Step_f (y0, y1, y3)) fun r2 => (s_LoopOf_l7 y0 y1 y2 r2 y4 (IntKind.i64.wrap (y5 + 1)))) (some (y4, y5)))) := by
  refine (loopK_eq Tryz.prog (s_LoopOf_E) (sub (Tryz.f91.body.getD .skip) [1, 1, 1, 1, 1, 1, 1, 1, 1, 1, 0, 0, 0]) _ _).trans ?_
  kernel_rfl
theorem s_LoopOf_ent : Entb Tryz.prog 91 := ⟨Tryz.f91, by kernel_rfl, by kernel_rfl, by kernel_rfl⟩
theorem s_LoopOf_ok : CtrOk Tryz.prog 91 ⟨s_LoopOf_sig, s_LoopOf_f⟩ :=
  ctr_of (fn := Tryz.f91) (by kernel_rfl) (by kernel_rfl) (fun x : Ts s_LoopOf_sig.pc => s_LoopOf_E) (fun x => ⟨(fn_cons ⟨s_l3Ok_ok, s_l3Ok_ent⟩ (fn_cons ⟨s_l3Step_ok, s_l3Step_ent⟩ (fn_cons ⟨s_l3Same_ok, s_l3Same_ent⟩ fn_none))), clo_none, wr_none⟩) (fun h => by cases h) follows_ (fun _ _ => trivial)
end FN

set_option linter.unusedVariables false
namespace FN
open Go Go.Proofs
/-! loop.example/firingnets/spec.EndsAt -/
@[reducible] def s_EndsAt_sig : Sig := { ps := [none, none, none], pc := [.view .i64, .int .i64, .view .i64], rs := [none], rc := [.int .i64] }
noncomputable def s_EndsAt_E : Env' := { fn := fun f => if f = 91 then some ⟨s_LoopOf_sig, s_LoopOf_f⟩ else if f = 125 then some ⟨s_l3Step_sig, s_l3Step_f⟩ else none, ck := ckT, cuts := [(6, [0, 1, 7, 9, 10]), (9, [7, 9]), (10, [7, 9, 11])], mine := fun i => false }
noncomputable def s_EndsAt_f (x : Ts s_EndsAt_sig.pc) : Option (Ts s_EndsAt_sig.rc) := runFn Tryz.prog (s_EndsAt_E) Tryz.f90 s_EndsAt_sig x
noncomputable def s_EndsAt_l0 (y0 : List (Int)) (y1 : Int) (y2 : Int) (y3 : Int) (y4 : List (Int)) : Option ((Int)) := from_ Tryz.prog (s_EndsAt_E) Tryz.f90 s_EndsAt_sig [1, 1, 1, 1, 0, 1, 0] ⟨mkT 49 [(0, .row false .i64 y0), (1, .int .i64 y1), (7, .int .i64 y2), (9, .own 0), (10, .int .i64 y3)], [some (.arr 3 true .i64 y4)]⟩
noncomputable def s_EndsAt_l1 (y0 : List (Int)) (y1 : Int) (y2 : Int) (y3 : List (Int)) (y4 : Int) : Option ((Int)) := from_ Tryz.prog (s_EndsAt_E) Tryz.f90 s_EndsAt_sig [1, 1, 1, 1, 0, 1, 0] ⟨mkT 49 [(0, .row false .i64 y0), (1, .int .i64 y1), (7, .int .i64 y2), (9, .row true .i64 y3), (10, .int .i64 y4)], []⟩
noncomputable def s_EndsAt_j2 (y0 : Int) (y1 : List (Int)) : Option ((Int)) := from_ Tryz.prog (s_EndsAt_E) Tryz.f90 s_EndsAt_sig [1, 1, 1, 1, 1] ⟨mkT 49 [(7, .int .i64 y0), (9, .own 0)], [some (.arr 3 true .i64 y1)]⟩
noncomputable def s_EndsAt_j3 (y0 : Int) (y1 : List (Int)) : Option ((Int)) := from_ Tryz.prog (s_EndsAt_E) Tryz.f90 s_EndsAt_sig [1, 1, 1, 1, 1] ⟨mkT 49 [(7, .int .i64 y0), (9, .row true .i64 y1)], []⟩
noncomputable def s_EndsAt_l4 (y0 : Int) (y1 : Int) (y2 : List (Int)) : Option ((Int)) := from_ Tryz.prog (s_EndsAt_E) Tryz.f90 s_EndsAt_sig [1, 1, 1, 1, 1, 0, 1, 0] ⟨mkT 49 [(7, .int .i64 y0), (9, .own 0), (11, .int .i64 y1)], [some (.arr 3 true .i64 y2)]⟩
noncomputable def s_EndsAt_l5 (y0 : Int) (y1 : List (Int)) (y2 : Int) : Option ((Int)) := from_ Tryz.prog (s_EndsAt_E) Tryz.f90 s_EndsAt_sig [1, 1, 1, 1, 1, 0, 1, 0] ⟨mkT 49 [(7, .int .i64 y0), (9, .row true .i64 y1), (11, .int .i64 y2)], []⟩
theorem s_EndsAt_f_eq (x0 : (List (Int))) (x1 : (Int)) (x2 : (List (Int))) : s_EndsAt_f (x0, x1, x2) = (Option.bind (s_LoopOf_f (x0, x1, x2)) fun r1 => (cond ((decide (r1.1 < 0))) (some (-1)) (cond ((decide (1 < r1.2))) (some (-1)) (if (List.length ([] : List (Int)) + List.length x2) * 8 ≤ 140737488355328 then (s_EndsAt_l0 x0 x1 r1.1 0 (([] : List (Int)) ++ x2)) else none)))) := by
  kernel_rfl
theorem s_EndsAt_l0_eq (y0 : List (Int)) (y1 : Int) (y2 : Int) (y3 : Int) (y4 : List (Int)) : s_EndsAt_l0 y0 y1 y2 y3 y4 = (cond ((decide (y3 < y2))) (Option.bind (s_l3Step_f (y0, y1, y4)) fun r1 => (s_EndsAt_l1 y0 y1 y2 r1 (IntKind.i64.wrap (y3 + 1)))) (s_EndsAt_j2 y2 y4)) := by
  refine (loopK_eq Tryz.prog (s_EndsAt_E) (sub (Tryz.f90.body.getD .skip) [1, 1, 1, 1, 0, 1, 0, 0]) _ _).trans ?_
  kernel_rfl
theorem s_EndsAt_l1_eq (y0 : List (Int)) (y1 : Int) (y2 : Int) (y3 : List (Int)) (y4 : Int) : s_EndsAt_l1 y0 y1 y2 y3 y4 = (cond ((decide (y4 < y2))) (Option.bind (s_l3Step_f (y0, y1, y3)) fun r1 => (s_EndsAt_l1 y0 y1 y2 r1 (IntKind.i64.wrap (y4 + 1)))) (s_EndsAt_j3 y2 y3)) := by
  refine (loopK_eq Tryz.prog (s_EndsAt_E) (sub (Tryz.f90.body.getD .skip) [1, 1, 1, 1, 0, 1, 0, 0]) _ _).trans ?_
  kernel_rfl
theorem s_EndsAt_j2_eq (y0 : Int) (y1 : List (Int)) : s_EndsAt_j2 y0 y1 = (s_EndsAt_l4 y0 0 y1) := by
  kernel_rfl
theorem s_EndsAt_j3_eq (y0 : Int) (y1 : List (Int)) : s_EndsAt_j3 y0 y1 = (s_EndsAt_l5 y0 y1 0) := by
  kernel_rfl
theorem s_EndsAt_l4_eq (y0 : Int) (y1 : Int) (y2 : List (Int)) : s_EndsAt_l4 y0 y1 y2 = (cond ((decide (y1 < (List.length y2 : Int)))) (if (0 : Int) ≤ y1 ∧ y1 < (List.length y2 : Int) then (cond (((List.getD y2 (y1 : Int).toNat 0) != 0)) (some (-1)) (s_EndsAt_l4 y0 (IntKind.i64.wrap (y1 + 1)) y2)) else none) (some y0)) := by
  refine (loopK_eq Tryz.prog (s_EndsAt_E) (sub (Tryz.f90.body.getD .skip) [1, 1, 1, 1, 1, 0, 1, 0, 0]) _ _).trans ?_
  kernel_rfl
theorem s_EndsAt_l5_eq (y0 : Int) (y1 : List (Int)) (y2 : Int) : s_EndsAt_l5 y0 y1 y2 = (cond ((decide (y2 < (List.length y1 : Int)))) (if (0 : Int) ≤ y2 ∧ y2 < (List.length y1 : Int) then (cond (((List.getD y1 (y2 : Int).toNat 0) != 0)) (some (-1)) (s_EndsAt_l5 y0 y1 (IntKind.i64.wrap (y2 + 1)))) else none) (some y0)) := by
  refine (loopK_eq Tryz.prog (s_EndsAt_E) (sub (Tryz.f90.body.getD .skip) [1, 1, 1, 1, 1, 0, 1, 0, 0]) _ _).trans ?_
  kernel_rfl
theorem s_EndsAt_ent : Entb Tryz.prog 90 := ⟨Tryz.f90, by kernel_rfl, by kernel_rfl, by kernel_rfl⟩
theorem s_EndsAt_ok : CtrOk Tryz.prog 90 ⟨s_EndsAt_sig, s_EndsAt_f⟩ :=
  ctr_of (fn := Tryz.f90) (by kernel_rfl) (by kernel_rfl) (fun x : Ts s_EndsAt_sig.pc => s_EndsAt_E) (fun x => ⟨(fn_cons ⟨s_LoopOf_ok, s_LoopOf_ent⟩ (fn_cons ⟨s_l3Step_ok, s_l3Step_ent⟩ fn_none)), clo_none, wr_none⟩) (fun h => by cases h) follows_ (fun _ _ => trivial)
end FN

set_option linter.unusedVariables false
namespace FN
open Go Go.Proofs
/-! loop.example/firingnets/impl.ScriptOk -/
@[reducible] def i_ScriptOk_sig : Sig := { ps := [none, none], pc := [.int .i64, .any], rs := [none], rc := [.bool] }
noncomputable def i_ScriptOk_E : Env' := { fn := fun f => none, ck := ckT, cuts := [(2, [0, 1, 7, 8, 9]), (9, [0, 1])], mine := fun i => false }
noncomputable def i_ScriptOk_f (x : Ts i_ScriptOk_sig.pc) : Option (Ts i_ScriptOk_sig.rc) := runFn Tryz.prog (i_ScriptOk_E) Tryz.f147 i_ScriptOk_sig x
noncomputable def i_ScriptOk_l0 (y0 : Int) (y1 : Int) (y2 : Int) : Option ((Bool)) := from_ Tryz.prog (i_ScriptOk_E) Tryz.f147 i_ScriptOk_sig [1, 0, 1, 0] ⟨mkT 80 [(0, .int .i64 y0), (1, .nilS), (7, .nilS), (8, .int .i64 y1), (9, .int .i64 y2)], []⟩
noncomputable def i_ScriptOk_j1 (y0 : Int) : Option ((Bool)) := from_ Tryz.prog (i_ScriptOk_E) Tryz.f147 i_ScriptOk_sig [1, 1] ⟨mkT 80 [(0, .int .i64 y0), (1, .nilS)], []⟩
theorem i_ScriptOk_f_eq (x0 : (Int)) (x1 : (Unit)) : i_ScriptOk_f (x0, x1) = (i_ScriptOk_l0 x0 0 0) := by
  kernel_rfl
theorem i_ScriptOk_l0_eq (y0 : Int) (y1 : Int) (y2 : Int) : i_ScriptOk_l0 y0 y1 y2 = (cond ((decide (y2 < y1))) none (i_ScriptOk_j1 y0)) := by
  refine (loopK_eq Tryz.prog (i_ScriptOk_E) (sub (Tryz.f147.body.getD .skip) [1, 0, 1, 0, 0]) _ _).trans ?_
  kernel_rfl
theorem i_ScriptOk_j1_eq (y0 : Int) : i_ScriptOk_j1 y0 = (cond ((decide (1 ≤ y0))) (cond ((decide (y0 ≤ 6))) (some true) (some false)) (some false)) := by
  kernel_rfl
theorem i_ScriptOk_ent : Entb Tryz.prog 147 := ⟨Tryz.f147, by kernel_rfl, by kernel_rfl, by kernel_rfl⟩
theorem i_ScriptOk_ok : CtrOk Tryz.prog 147 ⟨i_ScriptOk_sig, i_ScriptOk_f⟩ :=
  ctr_of (fn := Tryz.f147) (by kernel_rfl) (by kernel_rfl) (fun x : Ts i_ScriptOk_sig.pc => i_ScriptOk_E) (fun x => ⟨fn_none, clo_none, wr_none⟩) (fun h => by cases h) follows_ (fun _ _ => trivial)
end FN

set_option linter.unusedVariables false
namespace FN
open Go Go.Proofs
/-! slices.Clone[[]int,int] -/
@[reducible] def x_slices_Clone_int_int_sig : Sig := { ps := [none], pc := [.view .i64], rs := [none], rc := [.row 3 .i64] }
noncomputable def x_slices_Clone_int_int_E : Env' := { fn := fun f => none, ck := ckT, cuts := [], mine := fun i => false }
noncomputable def x_slices_Clone_int_int_f (x : Ts x_slices_Clone_int_int_sig.pc) : Option (Ts x_slices_Clone_int_int_sig.rc) := runFn Tryz.prog (x_slices_Clone_int_int_E) Tryz.f114 x_slices_Clone_int_int_sig x
theorem x_slices_Clone_int_int_f_eq (x0 : (List (Int))) : x_slices_Clone_int_int_f x0 = (if true = true ∧ List.length x0 ≠ 0 then (if (List.length ([] : List (Int)) + List.length x0) * 8 ≤ 140737488355328 then (some (([] : List (Int)) ++ x0)) else none) else none) := by
  kernel_rfl
theorem x_slices_Clone_int_int_ent : Entb Tryz.prog 114 := ⟨Tryz.f114, by kernel_rfl, by kernel_rfl, by kernel_rfl⟩
theorem x_slices_Clone_int_int_ok : CtrOk Tryz.prog 114 ⟨x_slices_Clone_int_int_sig, x_slices_Clone_int_int_f⟩ :=
  ctr_of (fn := Tryz.f114) (by kernel_rfl) (by kernel_rfl) (fun x : Ts x_slices_Clone_int_int_sig.pc => x_slices_Clone_int_int_E) (fun x => ⟨fn_none, clo_none, wr_none⟩) (fun h => by cases h) follows_ (fun _ _ => trivial)
end FN

set_option linter.unusedVariables false
namespace FN
open Go Go.Proofs
/-! loop.example/firingnets/impl.scripted -/
@[reducible] def i_scripted_sig : Sig := { ps := [none, none, none, none, none], pc := [.view .i64, .int .i64, .view .i64, .any, .int .i64], rs := [none, none], rc := [.row 3 .i64, .row 3 .i64] }
noncomputable def i_scripted_E : Env' := { fn := fun f => if f = 69 then some ⟨i_needStep_sig, i_needStep_f⟩ else if f = 114 then some ⟨x_slices_Clone_int_int_sig, x_slices_Clone_int_int_f⟩ else none, ck := ckT, cuts := [(3, [0, 1, 3, 12, 13, 25, 26]), (6, [0, 1, 3, 12, 13, 14, 25, 26, 29, 30, 31]), (12, [0, 1, 3, 12, 13, 25, 26]), (14, [0, 1, 3, 12, 13, 17, 25, 26, 63, 64, 65])], mine := fun i => i == 21 || i == 62 }
noncomputable def i_scripted_f (x : Ts i_scripted_sig.pc) : Option (Ts i_scripted_sig.rc) := runFn Tryz.prog (i_scripted_E) Tryz.f148 i_scripted_sig x
noncomputable def i_scripted_l0 (y0 : List (Int)) (y1 : Int) (y2 : Int) (y3 : Int) (y4 : List (Int)) (y5 : List (Int)) : Option ((List (Int)) × (List (Int))) := from_ Tryz.prog (i_scripted_E) Tryz.f148 i_scripted_sig [1, 1, 0, 1, 0] ⟨mkT 90 [(0, .row false .i64 y0), (1, .int .i64 y1), (3, .nilS), (12, .own 0), (13, .own 1), (25, .int .i64 y2), (26, .int .i64 y3)], [some (.arr 3 true .i64 y4), some (.arr 3 true .i64 y5)]⟩
noncomputable def i_scripted_l1 (y0 : List (Int)) (y1 : Int) (y2 : Int) (y3 : Int) (y4 : Int) (y5 : Int) (y6 : Int) (y7 : List (Int)) (y8 : List (Int)) : Option ((List (Int)) × (List (Int))) := from_ Tryz.prog (i_scripted_E) Tryz.f148 i_scripted_sig [1, 1, 0, 1, 0, 0, 1, 1, 0, 0, 1, 0, 1, 0] ⟨mkT 90 [(0, .row false .i64 y0), (1, .int .i64 y1), (3, .nilS), (12, .own 0), (13, .own 1), (14, .int .i64 y2), (25, .int .i64 y3), (26, .int .i64 y4), (29, .nilS), (30, .int .i64 y5), (31, .int .i64 y6)], [some (.arr 3 true .i64 y7), some (.arr 3 true .i64 y8)]⟩
noncomputable def i_scripted_j2 (y0 : List (Int)) (y1 : Int) (y2 : Int) (y3 : Int) (y4 : List (Int)) (y5 : List (Int)) : Option ((List (Int)) × (List (Int))) := from_ Tryz.prog (i_scripted_E) Tryz.f148 i_scripted_sig [1, 1, 0, 1, 0, 0, 1, 1, 0, 0, 1, 1] ⟨mkT 90 [(0, .row false .i64 y0), (1, .int .i64 y1), (3, .nilS), (12, .own 0), (13, .own 1), (25, .int .i64 y2), (26, .int .i64 y3)], [some (.arr 3 true .i64 y4), some (.arr 3 true .i64 y5)]⟩
noncomputable def i_scripted_l3 (y0 : List (Int)) (y1 : Int) (y2 : Int) (y3 : Int) (y4 : Int) (y5 : Int) (y6 : List (Int)) (y7 : List (Int)) (y8 : List (Int)) : Option ((List (Int)) × (List (Int))) := from_ Tryz.prog (i_scripted_E) Tryz.f148 i_scripted_sig [1, 1, 0, 1, 0, 0, 1, 1, 0, 0, 1, 1, 1, 0, 1, 0] ⟨mkT 90 [(0, .row false .i64 y0), (1, .int .i64 y1), (3, .nilS), (12, .own 0), (13, .own 1), (17, .own 2), (25, .int .i64 y2), (26, .int .i64 y3), (63, .own 2), (64, .int .i64 y4), (65, .int .i64 y5)], [some (.arr 3 true .i64 y6), some (.arr 3 true .i64 y7), some (.arr 3 true .i64 y8)]⟩
theorem i_scripted_f_eq (x0 : (List (Int))) (x1 : (Int)) (x2 : (List (Int))) (x3 : (Unit)) (x4 : (Int)) : i_scripted_f (x0, x1, x2, x3, x4) = (Option.bind (x_slices_Clone_int_int_f x2) fun r1 => (if (0 : Int) ≤ (List.length x0 : Int) ∧ (List.length x0 : Int) * 8 ≤ 140737488355328 ∧ (List.length x0 : Int) ≤ 140737488355328 then (i_scripted_l0 x0 x1 x4 0 r1 (List.replicate ((List.length x0 : Int) : Int).toNat 0 : List (Int))) else none)) := by
  refine Eq.trans (b := (same [(Option.bind (x_slices_Clone_int_int_f x2) fun r1 => (if (0 : Int) ≤ (List.length x0 : Int) ∧ (List.length x0 : Int) * 8 ≤ 140737488355328 ∧ (List.length x0 : Int) ≤ 140737488355328 then (i_scripted_l0 x0 x1 x4 0 r1 (List.replicate ((List.length x0 : Int) : Int).toNat 0 : List (Int))) else none)), (same [(Option.bind (x_slices_Clone_int_int_f x2) fun r1 => (if (0 : Int) ≤ (List.length x0 : Int) ∧ (List.length x0 : Int) * 8 ≤ 140737488355328 ∧ (List.length x0 : Int) ≤ 140737488355328 then (i_scripted_l0 x0 x1 x4 0 r1 (List.replicate ((List.length x0 : Int) : Int).toNat 0 : List (Int))) else none)), (if (0 : Int) ≤ (List.length x0 : Int) ∧ (List.length x0 : Int) * 8 ≤ 140737488355328 ∧ (List.length x0 : Int) ≤ 140737488355328 then (Option.bind (x_slices_Clone_int_int_f x2) fun r1 => (i_scripted_l0 x0 x1 x4 0 r1 (List.replicate ((List.length x0 : Int) : Int).toNat 0 : List (Int)))) else none)])])) (by kernel_rfl) ?_
  simp only [same2, same3, same4, same5, same6, obind_ite]
theorem i_scripted_l0_eq (y0 : List (Int)) (y1 : Int) (y2 : Int) (y3 : Int) (y4 : List (Int)) (y5 : List (Int)) : i_scripted_l0 y0 y1 y2 y3 y4 y5 = (cond ((decide (y3 < y2))) (i_scripted_l1 y0 y1 y3 y2 y3 0 0 y4 y5) (some (y4, y5))) := by
  refine (loopK_eq Tryz.prog (i_scripted_E) (sub (Tryz.f148.body.getD .skip) [1, 1, 0, 1, 0, 0]) _ _).trans ?_
  kernel_rfl
theorem i_scripted_l1_eq (y0 : List (Int)) (y1 : Int) (y2 : Int) (y3 : Int) (y4 : Int) (y5 : Int) (y6 : Int) (y7 : List (Int)) (y8 : List (Int)) : i_scripted_l1 y0 y1 y2 y3 y4 y5 y6 y7 y8 = (cond ((decide (y6 < y5))) none (i_scripted_j2 y0 y1 y3 y4 y7 y8)) := by
  refine (loopK_eq Tryz.prog (i_scripted_E) (sub (Tryz.f148.body.getD .skip) [1, 1, 0, 1, 0, 0, 1, 1, 0, 0, 1, 0, 1, 0, 0]) _ _).trans ?_
  kernel_rfl
theorem i_scripted_j2_eq (y0 : List (Int)) (y1 : Int) (y2 : Int) (y3 : Int) (y4 : List (Int)) (y5 : List (Int)) : i_scripted_j2 y0 y1 y2 y3 y4 y5 = (Option.bind (i_needStep_f (y0, y1, (), y4)) fun r1 => (i_scripted_l3 y0 y1 y2 y3 (List.length r1 : Int) 0 y4 y5 r1)) := by
  kernel_rfl
theorem i_scripted_l3_eq (y0 : List (Int)) (y1 : Int) (y2 : Int) (y3 : Int) (y4 : Int) (y5 : Int) (y6 : List (Int)) (y7 : List (Int)) (y8 : List (Int)) : i_scripted_l3 y0 y1 y2 y3 y4 y5 y6 y7 y8 = (cond ((decide (y5 < y4))) (if (0 : Int) ≤ y5 ∧ y5 < (List.length y8 : Int) then (cond (((List.getD y8 (y5 : Int).toNat 0) == 1)) (if (0 : Int) ≤ y5 ∧ y5 < (List.length y6 : Int) then (cond (((List.getD y6 (y5 : Int).toNat 0) != 1)) (if (0 : Int) ≤ y5 ∧ y5 < (List.length y7 : Int) then (if (0 : Int) ≤ y5 ∧ y5 < (List.length y7 : Int) then (i_scripted_l3 y0 y1 y2 y3 y4 (IntKind.i64.wrap (y5 + 1)) y6 (List.set y7 (y5 : Int).toNat (IntKind.i64.wrap ((List.getD y7 (y5 : Int).toNat 0) + 1))) y8) else none) else none) (i_scripted_l3 y0 y1 y2 y3 y4 (IntKind.i64.wrap (y5 + 1)) y6 y7 y8)) else none) (i_scripted_l3 y0 y1 y2 y3 y4 (IntKind.i64.wrap (y5 + 1)) y6 y7 y8)) else none) (i_scripted_l0 y0 y1 y2 (IntKind.i64.wrap (y3 + 1)) y8 y7)) := by
  refine (loopK_eq Tryz.prog (i_scripted_E) (sub (Tryz.f148.body.getD .skip) [1, 1, 0, 1, 0, 0, 1, 1, 0, 0, 1, 1, 1, 0, 1, 0, 0]) _ _).trans ?_
  kernel_rfl
theorem i_scripted_ent : Entb Tryz.prog 148 := ⟨Tryz.f148, by kernel_rfl, by kernel_rfl, by kernel_rfl⟩
theorem i_scripted_ok : CtrOk Tryz.prog 148 ⟨i_scripted_sig, i_scripted_f⟩ :=
  ctr_of (fn := Tryz.f148) (by kernel_rfl) (by kernel_rfl) (fun x : Ts i_scripted_sig.pc => i_scripted_E) (fun x => ⟨(fn_cons ⟨i_needStep_ok, i_needStep_ent⟩ (fn_cons ⟨x_slices_Clone_int_int_ok, x_slices_Clone_int_int_ent⟩ fn_none)), clo_none, wr_none⟩) (fun h => by cases h) follows_ (fun _ _ => trivial)
end FN

set_option linter.unusedVariables false
namespace FN
open Go Go.Proofs
/-! loop.example/firingnets/impl.ScriptFired -/
@[reducible] def i_ScriptFired_sig : Sig := { ps := [none, none, none, none, none], pc := [.view .i64, .int .i64, .view .i64, .any, .int .i64], rs := [none], rc := [.row 3 .i64] }
noncomputable def i_ScriptFired_E : Env' := { fn := fun f => if f = 101 then some ⟨i_asked_sig, i_asked_f⟩ else if f = 147 then some ⟨i_ScriptOk_sig, i_ScriptOk_f⟩ else if f = 148 then some ⟨i_scripted_sig, i_scripted_f⟩ else none, ck := ckT, cuts := [], mine := fun i => i == 16 || i == 22 || i == 39 }
noncomputable def i_ScriptFired_f (x : Ts i_ScriptFired_sig.pc) : Option (Ts i_ScriptFired_sig.rc) := runFn Tryz.prog (i_ScriptFired_E) Tryz.f122 i_ScriptFired_sig x
theorem i_ScriptFired_f_eq (x0 : (List (Int))) (x1 : (Int)) (x2 : (List (Int))) (x3 : (Unit)) (x4 : (Int)) : i_ScriptFired_f (x0, x1, x2, x3, x4) = (Option.bind (i_asked_f (x0, x1, x2)) fun r1 => (cond ((!r1)) (some []) (Option.bind (i_ScriptOk_f ((List.length x0 : Int), ())) fun r2 => (cond ((!r2)) (some []) (cond ((decide (x4 < 0))) (some []) (cond ((decide (60 < x4))) (some []) (Option.bind (i_scripted_f (x0, x1, x2, (), x4)) fun r3 => (some r3.2)))))))) := by
  kernel_rfl
theorem i_ScriptFired_ent : Entb Tryz.prog 122 := ⟨Tryz.f122, by kernel_rfl, by kernel_rfl, by kernel_rfl⟩
theorem i_ScriptFired_ok : CtrOk Tryz.prog 122 ⟨i_ScriptFired_sig, i_ScriptFired_f⟩ :=
  ctr_of (fn := Tryz.f122) (by kernel_rfl) (by kernel_rfl) (fun x : Ts i_ScriptFired_sig.pc => i_ScriptFired_E) (fun x => ⟨(fn_cons ⟨i_asked_ok, i_asked_ent⟩ (fn_cons ⟨i_ScriptOk_ok, i_ScriptOk_ent⟩ (fn_cons ⟨i_scripted_ok, i_scripted_ent⟩ fn_none))), clo_none, wr_none⟩) (fun h => by cases h) follows_ (fun _ _ => trivial)
end FN

set_option linter.unusedVariables false
namespace FN
open Go Go.Proofs
/-! loop.example/firingnets/impl.FiredRow -/
@[reducible] def i_FiredRow_sig : Sig := { ps := [none, none, none, none], pc := [.view .i64, .int .i64, .view .i64, .int .i64], rs := [none], rc := [.row 3 .i64] }
noncomputable def i_FiredRow_E : Env' := { fn := fun f => if f = 122 then some ⟨i_ScriptFired_sig, i_ScriptFired_f⟩ else none, ck := ckT, cuts := [], mine := fun i => i == 13 }
noncomputable def i_FiredRow_f (x : Ts i_FiredRow_sig.pc) : Option (Ts i_FiredRow_sig.rc) := runFn Tryz.prog (i_FiredRow_E) Tryz.f82 i_FiredRow_sig x
theorem i_FiredRow_f_eq (x0 : (List (Int))) (x1 : (Int)) (x2 : (List (Int))) (x3 : (Int)) : i_FiredRow_f (x0, x1, x2, x3) = (Option.bind (i_ScriptFired_f (x0, x1, x2, (), x3)) fun r1 => (some r1)) := by
  kernel_rfl
theorem i_FiredRow_ent : Entb Tryz.prog 82 := ⟨Tryz.f82, by kernel_rfl, by kernel_rfl, by kernel_rfl⟩
theorem i_FiredRow_ok : CtrOk Tryz.prog 82 ⟨i_FiredRow_sig, i_FiredRow_f⟩ :=
  ctr_of (fn := Tryz.f82) (by kernel_rfl) (by kernel_rfl) (fun x : Ts i_FiredRow_sig.pc => i_FiredRow_E) (fun x => ⟨(fn_cons ⟨i_ScriptFired_ok, i_ScriptFired_ent⟩ fn_none), clo_none, wr_none⟩) (fun h => by cases h) follows_ (fun _ _ => trivial)
end FN

set_option linter.unusedVariables false
namespace FN
open Go Go.Proofs
/-! loop.example/firingnets/spec.FiredRow -/
@[reducible] def s_FiredRow_sig : Sig := { ps := [none, none, none, none], pc := [.view .i64, .int .i64, .view .i64, .int .i64], rs := [none], rc := [.row 3 .i64] }
noncomputable def s_FiredRow_E : Env' := { fn := fun f => if f = 100 then some ⟨s_l3Ok_sig, s_l3Ok_f⟩ else if f = 111 then some ⟨s_l1In_sig, s_l1In_f⟩ else if f = 125 then some ⟨s_l3Step_sig, s_l3Step_f⟩ else none, ck := ckT, cuts := [(6, [0, 1, 3, 9, 10, 11]), (10, [0, 1, 3, 9, 10, 11, 12])], mine := fun i => false }
noncomputable def s_FiredRow_f (x : Ts s_FiredRow_sig.pc) : Option (Ts s_FiredRow_sig.rc) := runFn Tryz.prog (s_FiredRow_E) Tryz.f97 s_FiredRow_sig x
noncomputable def s_FiredRow_l0 (y0 : List (Int)) (y1 : Int) (y2 : Int) (y3 : Int) (y4 : List (Int)) (y5 : List (Int)) : Option ((List (Int))) := from_ Tryz.prog (s_FiredRow_E) Tryz.f97 s_FiredRow_sig [1, 1, 1, 1, 0, 1, 0] ⟨mkT 59 [(0, .row false .i64 y0), (1, .int .i64 y1), (3, .int .i64 y2), (9, .own 0), (10, .own 1), (11, .int .i64 y3)], [some (.arr 3 true .i64 y4), some (.arr 3 true .i64 y5)]⟩
noncomputable def s_FiredRow_l1 (y0 : List (Int)) (y1 : Int) (y2 : Int) (y3 : List (Int)) (y4 : Int) (y5 : Int) (y6 : List (Int)) : Option ((List (Int))) := from_ Tryz.prog (s_FiredRow_E) Tryz.f97 s_FiredRow_sig [1, 1, 1, 1, 0, 1, 0, 0, 1, 0, 0, 1, 1, 0] ⟨mkT 59 [(0, .row false .i64 y0), (1, .int .i64 y1), (3, .int .i64 y2), (9, .own 0), (10, .row true .i64 y3), (11, .int .i64 y4), (12, .int .i64 y5)], [some (.arr 3 true .i64 y6)]⟩
noncomputable def s_FiredRow_l2 (y0 : List (Int)) (y1 : Int) (y2 : Int) (y3 : List (Int)) (y4 : Int) (y5 : List (Int)) : Option ((List (Int))) := from_ Tryz.prog (s_FiredRow_E) Tryz.f97 s_FiredRow_sig [1, 1, 1, 1, 0, 1, 0] ⟨mkT 59 [(0, .row false .i64 y0), (1, .int .i64 y1), (3, .int .i64 y2), (9, .own 0), (10, .row true .i64 y3), (11, .int .i64 y4)], [some (.arr 3 true .i64 y5)]⟩
theorem s_FiredRow_f_eq (x0 : (List (Int))) (x1 : (Int)) (x2 : (List (Int))) (x3 : (Int)) : s_FiredRow_f (x0, x1, x2, x3) = (Option.bind (s_l3Ok_f (x0, x1, x2)) fun r1 => (cond ((!r1)) (some ([] : List (Int))) (Option.bind (s_l1In_f (x3, 0, 60)) fun r2 => (cond ((!r2)) (some ([] : List (Int))) (if (0 : Int) ≤ (List.length x0 : Int) ∧ (List.length x0 : Int) * 8 ≤ 140737488355328 ∧ (List.length x0 : Int) ≤ 140737488355328 then (if (List.length ([] : List (Int)) + List.length x2) * 8 ≤ 140737488355328 then (s_FiredRow_l0 x0 x1 x3 0 (List.replicate ((List.length x0 : Int) : Int).toNat 0 : List (Int)) (([] : List (Int)) ++ x2)) else none) else none))))) := by
  kernel_rfl
theorem s_FiredRow_l0_eq (y0 : List (Int)) (y1 : Int) (y2 : Int) (y3 : Int) (y4 : List (Int)) (y5 : List (Int)) : s_FiredRow_l0 y0 y1 y2 y3 y4 y5 = (cond ((decide (y3 < y2))) (Option.bind (s_l3Step_f (y0, y1, y5)) fun r1 => (s_FiredRow_l1 y0 y1 y2 r1 y3 0 y4)) (some y4)) := by
  refine (loopK_eq Tryz.prog (s_FiredRow_E) (sub (Tryz.f97.body.getD .skip) [1, 1, 1, 1, 0, 1, 0, 0]) _ _).trans ?_
  kernel_rfl
theorem s_FiredRow_l1_eq (y0 : List (Int)) (y1 : Int) (y2 : Int) (y3 : List (Int)) (y4 : Int) (y5 : Int) (y6 : List (Int)) : s_FiredRow_l1 y0 y1 y2 y3 y4 y5 y6 = (cond ((decide (y5 < (List.length y3 : Int)))) (if (0 : Int) ≤ y5 ∧ y5 < (List.length y3 : Int) then (cond (((List.getD y3 (y5 : Int).toNat 0) == 1)) (if (0 : Int) ≤ y5 ∧ y5 < (List.length y6 : Int) then (if (0 : Int) ≤ y5 ∧ y5 < (List.length y6 : Int) then (s_FiredRow_l1 y0 y1 y2 y3 y4 (IntKind.i64.wrap (y5 + 1)) (List.set y6 (y5 : Int).toNat (IntKind.i64.wrap ((List.getD y6 (y5 : Int).toNat 0) + 1)))) else none) else none) (s_FiredRow_l1 y0 y1 y2 y3 y4 (IntKind.i64.wrap (y5 + 1)) y6)) else none) (s_FiredRow_l2 y0 y1 y2 y3 (IntKind.i64.wrap (y4 + 1)) y6)) := by
  refine (loopK_eq Tryz.prog (s_FiredRow_E) (sub (Tryz.f97.body.getD .skip) [1, 1, 1, 1, 0, 1, 0, 0, 1, 0, 0, 1, 1, 0, 0]) _ _).trans ?_
  kernel_rfl
theorem s_FiredRow_l2_eq (y0 : List (Int)) (y1 : Int) (y2 : Int) (y3 : List (Int)) (y4 : Int) (y5 : List (Int)) : s_FiredRow_l2 y0 y1 y2 y3 y4 y5 = (cond ((decide (y4 < y2))) (Option.bind (s_l3Step_f (y0, y1, y3)) fun r1 => (s_FiredRow_l1 y0 y1 y2 r1 y4 0 y5)) (some y5)) := by
  refine (loopK_eq Tryz.prog (s_FiredRow_E) (sub (Tryz.f97.body.getD .skip) [1, 1, 1, 1, 0, 1, 0, 0]) _ _).trans ?_
  kernel_rfl
theorem s_FiredRow_ent : Entb Tryz.prog 97 := ⟨Tryz.f97, by kernel_rfl, by kernel_rfl, by kernel_rfl⟩
theorem s_FiredRow_ok : CtrOk Tryz.prog 97 ⟨s_FiredRow_sig, s_FiredRow_f⟩ :=
  ctr_of (fn := Tryz.f97) (by kernel_rfl) (by kernel_rfl) (fun x : Ts s_FiredRow_sig.pc => s_FiredRow_E) (fun x => ⟨(fn_cons ⟨s_l3Ok_ok, s_l3Ok_ent⟩ (fn_cons ⟨s_l1In_ok, s_l1In_ent⟩ (fn_cons ⟨s_l3Step_ok, s_l3Step_ent⟩ fn_none))), clo_none, wr_none⟩) (fun h => by cases h) follows_ (fun _ _ => trivial)
end FN

set_option linter.unusedVariables false
namespace FN
open Go Go.Proofs
/-! loop.example/firingnets/impl.turnStep -/
@[reducible] def i_turnStep_sig : Sig := { ps := [none, none], pc := [.view .i64, .view .i64], rs := [none], rc := [.row 3 .i64] }
noncomputable def i_turnStep_E : Env' := { fn := fun f => if f = 114 then some ⟨x_slices_Clone_int_int_sig, x_slices_Clone_int_int_f⟩ else none, ck := ckT, cuts := [(3, [0, 1, 5, 12, 13, 14]), (6, [0, 1, 5, 6, 7, 12, 13, 14, 19, 20, 21])], mine := fun i => i == 11 }
noncomputable def i_turnStep_f (x : Ts i_turnStep_sig.pc) : Option (Ts i_turnStep_sig.rc) := runFn Tryz.prog (i_turnStep_E) Tryz.f123 i_turnStep_sig x
noncomputable def i_turnStep_l0 (y0 : List (Int)) (y1 : List (Int)) (y2 : List (Int)) (y3 : Int) (y4 : Int) (y5 : List (Int)) : Option ((List (Int))) := from_ Tryz.prog (i_turnStep_E) Tryz.f123 i_turnStep_sig [1, 1, 0, 1, 0] ⟨mkT 48 [(0, .row false .i64 y0), (1, .row false .i64 y1), (5, .own 0), (12, .row false .i64 y2), (13, .int .i64 y3), (14, .int .i64 y4)], [some (.arr 3 true .i64 y5)]⟩
noncomputable def i_turnStep_l1 (y0 : List (Int)) (y1 : List (Int)) (y2 : Int) (y3 : Int) (y4 : List (Int)) (y5 : Int) (y6 : Int) (y7 : List (Int)) (y8 : Int) (y9 : Int) (y10 : List (Int)) : Option ((List (Int))) := from_ Tryz.prog (i_turnStep_E) Tryz.f123 i_turnStep_sig [1, 1, 0, 1, 0, 0, 1, 1, 0, 0, 1, 1, 0] ⟨mkT 48 [(0, .row false .i64 y0), (1, .row false .i64 y1), (5, .own 0), (6, .int .i64 y2), (7, .int .i64 y3), (12, .row false .i64 y4), (13, .int .i64 y5), (14, .int .i64 y6), (19, .row false .i64 y7), (20, .int .i64 y8), (21, .int .i64 y9)], [some (.arr 3 true .i64 y10)]⟩
theorem i_turnStep_f_eq (x0 : (List (Int))) (x1 : (List (Int))) : i_turnStep_f (x0, x1) = (Option.bind (x_slices_Clone_int_int_f x1) fun r1 => (i_turnStep_l0 x0 x1 x1 (List.length x1 : Int) 0 r1)) := by
  kernel_rfl
theorem i_turnStep_l0_eq (y0 : List (Int)) (y1 : List (Int)) (y2 : List (Int)) (y3 : Int) (y4 : Int) (y5 : List (Int)) : i_turnStep_l0 y0 y1 y2 y3 y4 y5 = (cond ((decide (y4 < y3))) (if (0 : Int) ≤ y4 ∧ y4 < (List.length y2 : Int) then (i_turnStep_l1 y0 y1 y4 (List.getD y2 (y4 : Int).toNat 0) y2 y3 y4 y1 (List.length y1 : Int) 0 y5) else none) (some y5)) := by
  refine (loopK_eq Tryz.prog (i_turnStep_E) (sub (Tryz.f123.body.getD .skip) [1, 1, 0, 1, 0, 0]) _ _).trans ?_
  kernel_rfl
theorem i_turnStep_l1_eq (y0 : List (Int)) (y1 : List (Int)) (y2 : Int) (y3 : Int) (y4 : List (Int)) (y5 : Int) (y6 : Int) (y7 : List (Int)) (y8 : Int) (y9 : Int) (y10 : List (Int)) : i_turnStep_l1 y0 y1 y2 y3 y4 y5 y6 y7 y8 y9 y10 = (cond ((decide (y9 < y8))) (if (0 : Int) ≤ y9 ∧ y9 < (List.length y7 : Int) then (if (0 : Int) ≤ y2 ∧ y2 < (List.length y0 : Int) then (if y9 < 0 then none else (cond (((Go.bits .and IntKind.i64 (Int.fdiv (List.getD y0 (y2 : Int).toNat 0) (2 ^ min (y9 : Int).toNat IntKind.i64.bits)) 1) == 1)) (cond (((List.getD y7 (y9 : Int).toNat 0) == (Int.tmod (IntKind.i64.wrap (y3 + 1)) 3))) (if (0 : Int) ≤ y2 ∧ y2 < (List.length y10 : Int) then (i_turnStep_l1 y0 y1 y2 y3 y4 y5 y6 y7 y8 (IntKind.i64.wrap (y9 + 1)) (List.set y10 (y2 : Int).toNat (List.getD y7 (y9 : Int).toNat 0))) else none) (i_turnStep_l1 y0 y1 y2 y3 y4 y5 y6 y7 y8 (IntKind.i64.wrap (y9 + 1)) y10)) (i_turnStep_l1 y0 y1 y2 y3 y4 y5 y6 y7 y8 (IntKind.i64.wrap (y9 + 1)) y10))) else none) else none) (i_turnStep_l0 y0 y1 y4 y5 (IntKind.i64.wrap (y6 + 1)) y10)) := by
  refine (loopK_eq Tryz.prog (i_turnStep_E) (sub (Tryz.f123.body.getD .skip) [1, 1, 0, 1, 0, 0, 1, 1, 0, 0, 1, 1, 0, 0]) _ _).trans ?_
  kernel_rfl
theorem i_turnStep_ent : Entb Tryz.prog 123 := ⟨Tryz.f123, by kernel_rfl, by kernel_rfl, by kernel_rfl⟩
theorem i_turnStep_ok : CtrOk Tryz.prog 123 ⟨i_turnStep_sig, i_turnStep_f⟩ :=
  ctr_of (fn := Tryz.f123) (by kernel_rfl) (by kernel_rfl) (fun x : Ts i_turnStep_sig.pc => i_turnStep_E) (fun x => ⟨(fn_cons ⟨x_slices_Clone_int_int_ok, x_slices_Clone_int_int_ent⟩ fn_none), clo_none, wr_none⟩) (fun h => by cases h) follows_ (fun _ _ => trivial)
end FN

set_option linter.unusedVariables false
namespace FN
open Go Go.Proofs
/-! loop.example/firingnets/impl.TurnedRow -/
@[reducible] def i_TurnedRow_sig : Sig := { ps := [none, none, none], pc := [.view .i64, .view .i64, .int .i64], rs := [none], rc := [.row 3 .i64] }
noncomputable def i_TurnedRow_E : Env' := { fn := fun f => if f = 101 then some ⟨i_asked_sig, i_asked_f⟩ else if f = 123 then some ⟨i_turnStep_sig, i_turnStep_f⟩ else none, ck := ckT, cuts := [(5, [0, 1, 7, 25, 26]), (8, [0, 1, 7, 8, 25, 26, 32, 33])], mine := fun i => false }
noncomputable def i_TurnedRow_f (x : Ts i_TurnedRow_sig.pc) : Option (Ts i_TurnedRow_sig.rc) := runFn Tryz.prog (i_TurnedRow_E) Tryz.f83 i_TurnedRow_sig x
noncomputable def i_TurnedRow_l0 (y0 : List (Int)) (y1 : List (Int)) (y2 : Int) (y3 : Int) (y4 : List (Int)) : Option ((List (Int))) := from_ Tryz.prog (i_TurnedRow_E) Tryz.f83 i_TurnedRow_sig [1, 1, 1, 0, 1, 0] ⟨mkT 55 [(0, .row false .i64 y0), (1, .row false .i64 y1), (7, .own 0), (25, .int .i64 y2), (26, .int .i64 y3)], [some (.arr 3 true .i64 y4)]⟩
noncomputable def i_TurnedRow_l1 (y0 : List (Int)) (y1 : List (Int)) (y2 : List (Int)) (y3 : Int) (y4 : Int) (y5 : Int) (y6 : Int) (y7 : List (Int)) : Option ((List (Int))) := from_ Tryz.prog (i_TurnedRow_E) Tryz.f83 i_TurnedRow_sig [1, 1, 1, 0, 1, 0, 0, 1, 1, 0, 0, 1, 0, 1, 0] ⟨mkT 55 [(0, .row false .i64 y0), (1, .row false .i64 y1), (7, .own 0), (8, .row true .i64 y2), (25, .int .i64 y3), (26, .int .i64 y4), (32, .int .i64 y5), (33, .int .i64 y6)], [some (.arr 3 true .i64 y7)]⟩
noncomputable def i_TurnedRow_l2 (y0 : List (Int)) (y1 : List (Int)) (y2 : Int) (y3 : Int) (y4 : List (Int)) : Option ((List (Int))) := from_ Tryz.prog (i_TurnedRow_E) Tryz.f83 i_TurnedRow_sig [1, 1, 1, 0, 1, 0] ⟨mkT 55 [(0, .row false .i64 y0), (1, .row true .i64 y1), (7, .own 0), (25, .int .i64 y2), (26, .int .i64 y3)], [some (.arr 3 true .i64 y4)]⟩
noncomputable def i_TurnedRow_l3 (y0 : List (Int)) (y1 : List (Int)) (y2 : List (Int)) (y3 : Int) (y4 : Int) (y5 : Int) (y6 : Int) (y7 : List (Int)) : Option ((List (Int))) := from_ Tryz.prog (i_TurnedRow_E) Tryz.f83 i_TurnedRow_sig [1, 1, 1, 0, 1, 0, 0, 1, 1, 0, 0, 1, 0, 1, 0] ⟨mkT 55 [(0, .row false .i64 y0), (1, .row true .i64 y1), (7, .own 0), (8, .row true .i64 y2), (25, .int .i64 y3), (26, .int .i64 y4), (32, .int .i64 y5), (33, .int .i64 y6)], [some (.arr 3 true .i64 y7)]⟩
theorem i_TurnedRow_f_eq (x0 : (List (Int))) (x1 : (List (Int))) (x2 : (Int)) : i_TurnedRow_f (x0, x1, x2) = (Option.bind (i_asked_f (x0, 3, x1)) fun r1 => (cond ((!r1)) (some []) (cond ((decide (x2 < 0))) (some []) (cond ((decide (60 < x2))) (some []) (if (0 : Int) ≤ (List.length x0 : Int) ∧ (List.length x0 : Int) * 8 ≤ 140737488355328 ∧ (List.length x0 : Int) ≤ 140737488355328 then (i_TurnedRow_l0 x0 x1 x2 0 (List.replicate ((List.length x0 : Int) : Int).toNat 0 : List (Int))) else none))))) := by
  kernel_rfl
theorem i_TurnedRow_l0_eq (y0 : List (Int)) (y1 : List (Int)) (y2 : Int) (y3 : Int) (y4 : List (Int)) : i_TurnedRow_l0 y0 y1 y2 y3 y4 = (cond ((decide (y3 < y2))) (Option.bind (i_turnStep_f (y0, y1)) fun r1 => (i_TurnedRow_l1 y0 y1 r1 y2 y3 (List.length y4 : Int) 0 y4)) (some y4)) := by
  refine (loopK_eq Tryz.prog (i_TurnedRow_E) (sub (Tryz.f83.body.getD .skip) [1, 1, 1, 0, 1, 0, 0]) _ _).trans ?_
  kernel_rfl
theorem i_TurnedRow_l1_eq (y0 : List (Int)) (y1 : List (Int)) (y2 : List (Int)) (y3 : Int) (y4 : Int) (y5 : Int) (y6 : Int) (y7 : List (Int)) : i_TurnedRow_l1 y0 y1 y2 y3 y4 y5 y6 y7 = (cond ((decide (y6 < y5))) (if (0 : Int) ≤ y6 ∧ y6 < (List.length y2 : Int) then (if (0 : Int) ≤ y6 ∧ y6 < (List.length y1 : Int) then (cond (((List.getD y2 (y6 : Int).toNat 0) != (List.getD y1 (y6 : Int).toNat 0))) (if (0 : Int) ≤ y6 ∧ y6 < (List.length y7 : Int) then (if (0 : Int) ≤ y6 ∧ y6 < (List.length y7 : Int) then (i_TurnedRow_l1 y0 y1 y2 y3 y4 y5 (IntKind.i64.wrap (y6 + 1)) (List.set y7 (y6 : Int).toNat (IntKind.i64.wrap ((List.getD y7 (y6 : Int).toNat 0) + 1)))) else none) else none) (i_TurnedRow_l1 y0 y1 y2 y3 y4 y5 (IntKind.i64.wrap (y6 + 1)) y7)) else none) else none) (i_TurnedRow_l2 y0 y2 y3 (IntKind.i64.wrap (y4 + 1)) y7)) := by
  refine (loopK_eq Tryz.prog (i_TurnedRow_E) (sub (Tryz.f83.body.getD .skip) [1, 1, 1, 0, 1, 0, 0, 1, 1, 0, 0, 1, 0, 1, 0, 0]) _ _).trans ?_
  kernel_rfl
theorem i_TurnedRow_l2_eq (y0 : List (Int)) (y1 : List (Int)) (y2 : Int) (y3 : Int) (y4 : List (Int)) : i_TurnedRow_l2 y0 y1 y2 y3 y4 = (cond ((decide (y3 < y2))) (Option.bind (i_turnStep_f (y0, y1)) fun r1 => (i_TurnedRow_l3 y0 y1 r1 y2 y3 (List.length y4 : Int) 0 y4)) (some y4)) := by
  refine (loopK_eq Tryz.prog (i_TurnedRow_E) (sub (Tryz.f83.body.getD .skip) [1, 1, 1, 0, 1, 0, 0]) _ _).trans ?_
  kernel_rfl
theorem i_TurnedRow_l3_eq (y0 : List (Int)) (y1 : List (Int)) (y2 : List (Int)) (y3 : Int) (y4 : Int) (y5 : Int) (y6 : Int) (y7 : List (Int)) : i_TurnedRow_l3 y0 y1 y2 y3 y4 y5 y6 y7 = (cond ((decide (y6 < y5))) (if (0 : Int) ≤ y6 ∧ y6 < (List.length y2 : Int) then (if (0 : Int) ≤ y6 ∧ y6 < (List.length y1 : Int) then (cond (((List.getD y2 (y6 : Int).toNat 0) != (List.getD y1 (y6 : Int).toNat 0))) (if (0 : Int) ≤ y6 ∧ y6 < (List.length y7 : Int) then (if (0 : Int) ≤ y6 ∧ y6 < (List.length y7 : Int) then (i_TurnedRow_l3 y0 y1 y2 y3 y4 y5 (IntKind.i64.wrap (y6 + 1)) (List.set y7 (y6 : Int).toNat (IntKind.i64.wrap ((List.getD y7 (y6 : Int).toNat 0) + 1)))) else none) else none) (i_TurnedRow_l3 y0 y1 y2 y3 y4 y5 (IntKind.i64.wrap (y6 + 1)) y7)) else none) else none) (i_TurnedRow_l2 y0 y2 y3 (IntKind.i64.wrap (y4 + 1)) y7)) := by
  refine (loopK_eq Tryz.prog (i_TurnedRow_E) (sub (Tryz.f83.body.getD .skip) [1, 1, 1, 0, 1, 0, 0, 1, 1, 0, 0, 1, 0, 1, 0, 0]) _ _).trans ?_
  kernel_rfl
theorem i_TurnedRow_ent : Entb Tryz.prog 83 := ⟨Tryz.f83, by kernel_rfl, by kernel_rfl, by kernel_rfl⟩
theorem i_TurnedRow_ok : CtrOk Tryz.prog 83 ⟨i_TurnedRow_sig, i_TurnedRow_f⟩ :=
  ctr_of (fn := Tryz.f83) (by kernel_rfl) (by kernel_rfl) (fun x : Ts i_TurnedRow_sig.pc => i_TurnedRow_E) (fun x => ⟨(fn_cons ⟨i_asked_ok, i_asked_ent⟩ (fn_cons ⟨i_turnStep_ok, i_turnStep_ent⟩ fn_none)), clo_none, wr_none⟩) (fun h => by cases h) follows_ (fun _ _ => trivial)
end FN

