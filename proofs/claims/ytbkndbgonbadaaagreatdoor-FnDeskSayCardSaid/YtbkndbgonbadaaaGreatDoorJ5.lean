/- Texts of the proof, joined: parts -/
import Derived.Maps.OwnSet
import Derived.WalkKit
import Derived.Test.YtbkndbgonbadaaaGreatDoorJ0
import Derived.Test.YtbkndbgonbadaaaGreatDoorJ1
import Derived.Test.YtbkndbgonbadaaaGreatDoorA1
set_option linter.unusedVariables false
set_option linter.unusedSimpArgs false
set_option linter.unusedSectionVars false
set_option linter.unusedVariables false
namespace FN
open Go Go.Proofs
/-! loop.example/firingnets/impl.needStep -/
@[reducible] def i_needStep_sig : Sig := { ps := [none, none, none, none], pc := [.view .i64, .int .i64, .any, .view .i64], rs := [none], rc := [.row 3 .i64] }
noncomputable def i_needStep_E : Env' := { fn := fun f => none, ck := ckT, cuts := [(3, [0, 1, 2, 3, 9, 19, 20, 21]), (9, [0, 1, 2, 3, 9, 10, 12, 13, 19, 20, 21, 35, 36, 37]), (14, [0, 1, 2, 3, 9, 10, 12, 13, 19, 20, 21]), (16, [0, 1, 2, 3, 9, 10, 12, 13, 19, 20, 21])], mine := fun i => false }
noncomputable def i_needStep_f (x : Ts i_needStep_sig.pc) : Option (Ts i_needStep_sig.rc) := runFn Tryz.prog (i_needStep_E) Tryz.f69 i_needStep_sig x
noncomputable def i_needStep_l0 (y0 : List (Int)) (y1 : Int) (y2 : List (Int)) (y3 : List (Int)) (y4 : Int) (y5 : Int) (y6 : List (Int)) : Option ((List (Int))) := from_ Tryz.prog (i_needStep_E) Tryz.f69 i_needStep_sig [1, 1, 0, 1, 0] ⟨mkT 71 [(0, .row false .i64 y0), (1, .int .i64 y1), (2, .nilS), (3, .row false .i64 y2), (9, .own 0), (19, .row false .i64 y3), (20, .int .i64 y4), (21, .int .i64 y5)], [some (.arr 3 true .i64 y6)]⟩
noncomputable def i_needStep_l1 (y0 : List (Int)) (y1 : Int) (y2 : List (Int)) (y3 : Int) (y4 : Int) (y5 : Int) (y6 : List (Int)) (y7 : Int) (y8 : Int) (y9 : List (Int)) (y10 : Int) (y11 : Int) (y12 : List (Int)) : Option ((List (Int))) := from_ Tryz.prog (i_needStep_E) Tryz.f69 i_needStep_sig [1, 1, 0, 1, 0, 0, 1, 1, 0, 0, 1, 1, 1, 0, 1, 0] ⟨mkT 71 [(0, .row false .i64 y0), (1, .int .i64 y1), (2, .nilS), (3, .row false .i64 y2), (9, .own 0), (10, .int .i64 y3), (12, .int .i64 y4), (13, .int .i64 y5), (19, .row false .i64 y6), (20, .int .i64 y7), (21, .int .i64 y8), (35, .row false .i64 y9), (36, .int .i64 y10), (37, .int .i64 y11)], [some (.arr 3 true .i64 y12)]⟩
noncomputable def i_needStep_j2 (y0 : List (Int)) (y1 : Int) (y2 : List (Int)) (y3 : Int) (y4 : Int) (y5 : Int) (y6 : List (Int)) (y7 : Int) (y8 : Int) (y9 : List (Int)) : Option ((List (Int))) := from_ Tryz.prog (i_needStep_E) Tryz.f69 i_needStep_sig [1, 1, 0, 1, 0, 0, 1, 1, 0, 0, 1, 1, 1, 1] ⟨mkT 71 [(0, .row false .i64 y0), (1, .int .i64 y1), (2, .nilS), (3, .row false .i64 y2), (9, .own 0), (10, .int .i64 y3), (12, .int .i64 y4), (13, .int .i64 y5), (19, .row false .i64 y6), (20, .int .i64 y7), (21, .int .i64 y8)], [some (.arr 3 true .i64 y9)]⟩
noncomputable def i_needStep_j3 (y0 : List (Int)) (y1 : Int) (y2 : List (Int)) (y3 : Int) (y4 : Int) (y5 : Int) (y6 : List (Int)) (y7 : Int) (y8 : Int) (y9 : List (Int)) : Option ((List (Int))) := from_ Tryz.prog (i_needStep_E) Tryz.f69 i_needStep_sig [1, 1, 0, 1, 0, 0, 1, 1, 0, 0, 1, 1, 1, 1, 1] ⟨mkT 71 [(0, .row false .i64 y0), (1, .int .i64 y1), (2, .nilS), (3, .row false .i64 y2), (9, .own 0), (10, .int .i64 y3), (12, .int .i64 y4), (13, .int .i64 y5), (19, .row false .i64 y6), (20, .int .i64 y7), (21, .int .i64 y8)], [some (.arr 3 true .i64 y9)]⟩
theorem i_needStep_f_eq (x0 : (List (Int))) (x1 : (Int)) (x2 : (Unit)) (x3 : (List (Int))) : i_needStep_f (x0, x1, x2, x3) = (if (0 : Int) ≤ (List.length x3 : Int) ∧ (List.length x3 : Int) * 8 ≤ 140737488355328 ∧ (List.length x3 : Int) ≤ 140737488355328 then (i_needStep_l0 x0 x1 x3 x3 (List.length x3 : Int) 0 (List.replicate ((List.length x3 : Int) : Int).toNat 0 : List (Int))) else none) := by
  kernel_rfl
theorem i_needStep_l0_eq (y0 : List (Int)) (y1 : Int) (y2 : List (Int)) (y3 : List (Int)) (y4 : Int) (y5 : Int) (y6 : List (Int)) : i_needStep_l0 y0 y1 y2 y3 y4 y5 y6 = (cond ((decide (y5 < y4))) (if (0 : Int) ≤ y5 ∧ y5 < (List.length y3 : Int) then (cond ((decide (0 < (List.getD y3 (y5 : Int).toNat 0)))) (if y1 = 0 then none else (if (0 : Int) ≤ y5 ∧ y5 < (List.length y6 : Int) then (i_needStep_l0 y0 y1 y2 y3 y4 (IntKind.i64.wrap (y5 + 1)) (List.set y6 (y5 : Int).toNat (Int.tmod (IntKind.i64.wrap ((List.getD y3 (y5 : Int).toNat 0) + 1)) y1))) else none)) (i_needStep_l1 y0 y1 y2 y5 0 1 y3 y4 y5 y2 (List.length y2 : Int) 0 y6)) else none) (some y6)) := by
  refine (loopK_eq Tryz.prog (i_needStep_E) (sub (Tryz.f69.body.getD .skip) [1, 1, 0, 1, 0, 0]) _ _).trans ?_
  kernel_rfl
theorem i_needStep_l1_eq (y0 : List (Int)) (y1 : Int) (y2 : List (Int)) (y3 : Int) (y4 : Int) (y5 : Int) (y6 : List (Int)) (y7 : Int) (y8 : Int) (y9 : List (Int)) (y10 : Int) (y11 : Int) (y12 : List (Int)) : i_needStep_l1 y0 y1 y2 y3 y4 y5 y6 y7 y8 y9 y10 y11 y12 = (cond ((decide (y11 < y10))) (if (0 : Int) ≤ y11 ∧ y11 < (List.length y9 : Int) then (if (0 : Int) ≤ y3 ∧ y3 < (List.length y0 : Int) then (if y11 < 0 then none else (cond (((Go.bits .and IntKind.i64 (Int.fdiv (List.getD y0 (y3 : Int).toNat 0) (2 ^ min (y11 : Int).toNat IntKind.i64.bits)) 1) == 1)) (cond (((List.getD y9 (y11 : Int).toNat 0) == 1)) (i_needStep_l1 y0 y1 y2 y3 (IntKind.i64.wrap (y4 + 1)) y5 y6 y7 y8 y9 y10 (IntKind.i64.wrap (y11 + 1)) y12) (i_needStep_l1 y0 y1 y2 y3 y4 y5 y6 y7 y8 y9 y10 (IntKind.i64.wrap (y11 + 1)) y12)) (i_needStep_l1 y0 y1 y2 y3 y4 y5 y6 y7 y8 y9 y10 (IntKind.i64.wrap (y11 + 1)) y12))) else none) else none) (i_needStep_j2 y0 y1 y2 y3 y4 y5 y6 y7 y8 y12)) := by
  refine (loopK_eq Tryz.prog (i_needStep_E) (sub (Tryz.f69.body.getD .skip) [1, 1, 0, 1, 0, 0, 1, 1, 0, 0, 1, 1, 1, 0, 1, 0, 0]) _ _).trans ?_
  kernel_rfl
theorem i_needStep_j2_eq (y0 : List (Int)) (y1 : Int) (y2 : List (Int)) (y3 : Int) (y4 : Int) (y5 : Int) (y6 : List (Int)) (y7 : Int) (y8 : Int) (y9 : List (Int)) : i_needStep_j2 y0 y1 y2 y3 y4 y5 y6 y7 y8 y9 = (i_needStep_j3 y0 y1 y2 y3 y4 y5 y6 y7 y8 y9) := by
  kernel_rfl
theorem i_needStep_j3_eq (y0 : List (Int)) (y1 : Int) (y2 : List (Int)) (y3 : Int) (y4 : Int) (y5 : Int) (y6 : List (Int)) (y7 : Int) (y8 : Int) (y9 : List (Int)) : i_needStep_j3 y0 y1 y2 y3 y4 y5 y6 y7 y8 y9 = (cond ((decide (y5 ≤ y4))) (if (0 : Int) ≤ y3 ∧ y3 < (List.length y9 : Int) then (i_needStep_l0 y0 y1 y2 y6 y7 (IntKind.i64.wrap (y8 + 1)) (List.set y9 (y3 : Int).toNat 1)) else none) (i_needStep_l0 y0 y1 y2 y6 y7 (IntKind.i64.wrap (y8 + 1)) y9)) := by
  kernel_rfl
theorem i_needStep_ent : Entb Tryz.prog 69 := ⟨Tryz.f69, by kernel_rfl, by kernel_rfl, by kernel_rfl⟩
theorem i_needStep_ok : CtrOk Tryz.prog 69 ⟨i_needStep_sig, i_needStep_f⟩ :=
  ctr_of (fn := Tryz.f69) (by kernel_rfl) (by kernel_rfl) (fun x : Ts i_needStep_sig.pc => i_needStep_E) (fun x => ⟨fn_none, clo_none, wr_none⟩) (fun h => by cases h) follows_ (fun _ _ => trivial)
end FN

set_option linter.unusedVariables false
namespace FN
open Go Go.Proofs
/-! loop.example/firingnets/impl.setOk -/
@[reducible] def i_setOk_sig : Sig := { ps := [none, none], pc := [.view .i64, .int .i64], rs := [none], rc := [.bool] }
noncomputable def i_setOk_E : Env' := { fn := fun f => if f = 43 then some ⟨i_NetOk_sig, i_NetOk_f⟩ else none, ck := ckT, cuts := [], mine := fun i => false }
noncomputable def i_setOk_f (x : Ts i_setOk_sig.pc) : Option (Ts i_setOk_sig.rc) := runFn Tryz.prog (i_setOk_E) Tryz.f124 i_setOk_sig x
theorem i_setOk_f_eq (x0 : (List (Int))) (x1 : (Int)) : i_setOk_f (x0, x1) = (Option.bind (i_NetOk_f x0) fun r1 => (cond (r1) (cond ((decide (0 ≤ x1))) (if (List.length x0 : Int) < 0 then none else (some (decide (x1 < (IntKind.i64.wrap (1 * 2 ^ min ((List.length x0 : Int) : Int).toNat IntKind.i64.bits)))))) (some false)) (some false))) := by
  kernel_rfl
theorem i_setOk_ent : Entb Tryz.prog 124 := ⟨Tryz.f124, by kernel_rfl, by kernel_rfl, by kernel_rfl⟩
theorem i_setOk_ok : CtrOk Tryz.prog 124 ⟨i_setOk_sig, i_setOk_f⟩ :=
  ctr_of (fn := Tryz.f124) (by kernel_rfl) (by kernel_rfl) (fun x : Ts i_setOk_sig.pc => i_setOk_E) (fun x => ⟨(fn_cons ⟨i_NetOk_ok, i_NetOk_ent⟩ fn_none), clo_none, wr_none⟩) (fun h => by cases h) follows_ (fun _ _ => trivial)
end FN

set_option linter.unusedVariables false
namespace FN
open Go Go.Proofs
/-! loop.example/firingnets/impl.DistancesFrom -/
@[reducible] def i_DistancesFrom_sig : Sig := { ps := [none, none], pc := [.view .i64, .int .i64], rs := [none], rc := [.row 3 .i64] }
noncomputable def i_DistancesFrom_E : Env' := { fn := fun f => if f = 124 then some ⟨i_setOk_sig, i_setOk_f⟩ else none, ck := ckT, cuts := [(5, [0, 1, 5, 18, 19]), (9, [0, 1, 5]), (10, [0, 1, 5, 7]), (14, [0, 1, 5, 7, 8, 31, 32])], mine := fun i => false }
noncomputable def i_DistancesFrom_f (x : Ts i_DistancesFrom_sig.pc) : Option (Ts i_DistancesFrom_sig.rc) := runFn Tryz.prog (i_DistancesFrom_E) Tryz.f84 i_DistancesFrom_sig x
noncomputable def i_DistancesFrom_l0 (y0 : List (Int)) (y1 : Int) (y2 : Int) (y3 : Int) (y4 : List (Int)) : Option ((List (Int))) := from_ Tryz.prog (i_DistancesFrom_E) Tryz.f84 i_DistancesFrom_sig [1, 1, 1, 0, 1, 0] ⟨mkT 60 [(0, .row false .i64 y0), (1, .int .i64 y1), (5, .own 0), (18, .int .i64 y2), (19, .int .i64 y3)], [some (.arr 3 true .i64 y4)]⟩
noncomputable def i_DistancesFrom_j1 (y0 : List (Int)) (y1 : Int) (y2 : List (Int)) : Option ((List (Int))) := from_ Tryz.prog (i_DistancesFrom_E) Tryz.f84 i_DistancesFrom_sig [1, 1, 1, 1] ⟨mkT 60 [(0, .row false .i64 y0), (1, .int .i64 y1), (5, .own 0)], [some (.arr 3 true .i64 y2)]⟩
noncomputable def i_DistancesFrom_l2 (y0 : List (Int)) (y1 : Int) (y2 : Int) (y3 : List (Int)) : Option ((List (Int))) := from_ Tryz.prog (i_DistancesFrom_E) Tryz.f84 i_DistancesFrom_sig [1, 1, 1, 1, 0, 1, 0] ⟨mkT 60 [(0, .row false .i64 y0), (1, .int .i64 y1), (5, .own 0), (7, .int .i64 y2)], [some (.arr 3 true .i64 y3)]⟩
noncomputable def i_DistancesFrom_l3 (y0 : List (Int)) (y1 : Int) (y2 : Int) (y3 : Int) (y4 : Int) (y5 : Int) (y6 : List (Int)) : Option ((List (Int))) := from_ Tryz.prog (i_DistancesFrom_E) Tryz.f84 i_DistancesFrom_sig [1, 1, 1, 1, 0, 1, 0, 0, 1, 0, 0, 1, 0, 1, 0] ⟨mkT 60 [(0, .row false .i64 y0), (1, .int .i64 y1), (5, .own 0), (7, .int .i64 y2), (8, .int .i64 y3), (31, .int .i64 y4), (32, .int .i64 y5)], [some (.arr 3 true .i64 y6)]⟩
theorem i_DistancesFrom_f_eq (x0 : (List (Int))) (x1 : (Int)) : i_DistancesFrom_f (x0, x1) = (Option.bind (i_setOk_f (x0, x1)) fun r1 => (cond ((!r1)) (some []) (if (0 : Int) ≤ (List.length x0 : Int) ∧ (List.length x0 : Int) * 8 ≤ 140737488355328 ∧ (List.length x0 : Int) ≤ 140737488355328 then (i_DistancesFrom_l0 x0 x1 (List.length (List.replicate ((List.length x0 : Int) : Int).toNat 0 : List (Int)) : Int) 0 (List.replicate ((List.length x0 : Int) : Int).toNat 0 : List (Int))) else none))) := by
  kernel_rfl
theorem i_DistancesFrom_l0_eq (y0 : List (Int)) (y1 : Int) (y2 : Int) (y3 : Int) (y4 : List (Int)) : i_DistancesFrom_l0 y0 y1 y2 y3 y4 = (cond ((decide (y3 < y2))) (if (0 : Int) ≤ y3 ∧ y3 < (List.length y4 : Int) then (i_DistancesFrom_l0 y0 y1 y2 (IntKind.i64.wrap (y3 + 1)) (List.set y4 (y3 : Int).toNat (-1))) else none) (i_DistancesFrom_j1 y0 y1 y4)) := by
  refine (loopK_eq Tryz.prog (i_DistancesFrom_E) (sub (Tryz.f84.body.getD .skip) [1, 1, 1, 0, 1, 0, 0]) _ _).trans ?_
  kernel_rfl
theorem i_DistancesFrom_j1_eq (y0 : List (Int)) (y1 : Int) (y2 : List (Int)) : i_DistancesFrom_j1 y0 y1 y2 = (i_DistancesFrom_l2 y0 y1 0 y2) := by
  kernel_rfl
theorem i_DistancesFrom_l2_eq (y0 : List (Int)) (y1 : Int) (y2 : Int) (y3 : List (Int)) : i_DistancesFrom_l2 y0 y1 y2 y3 = (cond ((y1 != 0)) (i_DistancesFrom_l3 y0 y1 y2 0 (List.length y3 : Int) 0 y3) (some y3)) := by
  refine (loopK_eq Tryz.prog (i_DistancesFrom_E) (sub (Tryz.f84.body.getD .skip) [1, 1, 1, 1, 0, 1, 0, 0]) _ _).trans ?_
  kernel_rfl
theorem i_DistancesFrom_l3_eq (y0 : List (Int)) (y1 : Int) (y2 : Int) (y3 : Int) (y4 : Int) (y5 : Int) (y6 : List (Int)) : i_DistancesFrom_l3 y0 y1 y2 y3 y4 y5 y6 = (cond ((decide (y5 < y4))) (if y5 < 0 then none else (cond (((Go.bits .and IntKind.i64 (Int.fdiv y1 (2 ^ min (y5 : Int).toNat IntKind.i64.bits)) 1) == 1)) (if (0 : Int) ≤ y5 ∧ y5 < (List.length y6 : Int) then (cond ((decide ((List.getD y6 (y5 : Int).toNat 0) < 0))) (if (0 : Int) ≤ y5 ∧ y5 < (List.length y6 : Int) then (if (0 : Int) ≤ y5 ∧ y5 < (List.length y0 : Int) then (i_DistancesFrom_l3 y0 y1 y2 (Go.bits .or IntKind.i64 y3 (List.getD y0 (y5 : Int).toNat 0)) y4 (IntKind.i64.wrap (y5 + 1)) (List.set y6 (y5 : Int).toNat y2)) else none) else none) (i_DistancesFrom_l3 y0 y1 y2 y3 y4 (IntKind.i64.wrap (y5 + 1)) y6)) else none) (i_DistancesFrom_l3 y0 y1 y2 y3 y4 (IntKind.i64.wrap (y5 + 1)) y6))) (i_DistancesFrom_l2 y0 y3 (IntKind.i64.wrap (y2 + 1)) y6)) := by
  refine (loopK_eq Tryz.prog (i_DistancesFrom_E) (sub (Tryz.f84.body.getD .skip) [1, 1, 1, 1, 0, 1, 0, 0, 1, 0, 0, 1, 0, 1, 0, 0]) _ _).trans ?_
  kernel_rfl
theorem i_DistancesFrom_ent : Entb Tryz.prog 84 := ⟨Tryz.f84, by kernel_rfl, by kernel_rfl, by kernel_rfl⟩
theorem i_DistancesFrom_ok : CtrOk Tryz.prog 84 ⟨i_DistancesFrom_sig, i_DistancesFrom_f⟩ :=
  ctr_of (fn := Tryz.f84) (by kernel_rfl) (by kernel_rfl) (fun x : Ts i_DistancesFrom_sig.pc => i_DistancesFrom_E) (fun x => ⟨(fn_cons ⟨i_setOk_ok, i_setOk_ent⟩ fn_none), clo_none, wr_none⟩) (fun h => by cases h) follows_ (fun _ _ => trivial)
end FN

set_option linter.unusedVariables false
namespace FN
open Go Go.Proofs
/-! loop.example/firingnets/impl.PartsOf -/
@[reducible] def i_PartsOf_sig : Sig := { ps := [none], pc := [.view .i64], rs := [none], rc := [.row 3 .i64] }
noncomputable def i_PartsOf_E : Env' := { fn := fun f => if f = 43 then some ⟨i_NetOk_sig, i_NetOk_f⟩ else if f = 84 then some ⟨i_DistancesFrom_sig, i_DistancesFrom_f⟩ else none, ck := ckT, cuts := [(5, [0, 3, 12, 13]), (8, [0, 3, 12, 13, 19, 20, 21])], mine := fun i => false }
noncomputable def i_PartsOf_f (x : Ts i_PartsOf_sig.pc) : Option (Ts i_PartsOf_sig.rc) := runFn Tryz.prog (i_PartsOf_E) Tryz.f77 i_PartsOf_sig x
noncomputable def i_PartsOf_l0 (y0 : List (Int)) (y1 : Int) (y2 : Int) (y3 : List (Int)) : Option ((List (Int))) := from_ Tryz.prog (i_PartsOf_E) Tryz.f77 i_PartsOf_sig [1, 1, 1, 0, 1, 0] ⟨mkT 35 [(0, .row false .i64 y0), (3, .own 0), (12, .int .i64 y1), (13, .int .i64 y2)], [some (.arr 3 true .i64 y3)]⟩
noncomputable def i_PartsOf_l1 (y0 : List (Int)) (y1 : Int) (y2 : Int) (y3 : List (Int)) (y4 : Int) (y5 : Int) (y6 : List (Int)) : Option ((List (Int))) := from_ Tryz.prog (i_PartsOf_E) Tryz.f77 i_PartsOf_sig [1, 1, 1, 0, 1, 0, 0, 1, 1, 0, 0, 1, 1, 0] ⟨mkT 35 [(0, .row false .i64 y0), (3, .own 0), (12, .int .i64 y1), (13, .int .i64 y2), (19, .row true .i64 y3), (20, .int .i64 y4), (21, .int .i64 y5)], [some (.arr 3 true .i64 y6)]⟩
theorem i_PartsOf_f_eq (x0 : (List (Int))) : i_PartsOf_f x0 = (Option.bind (i_NetOk_f x0) fun r1 => (cond ((!r1)) (some []) (i_PartsOf_l0 x0 (List.length x0 : Int) 0 ([] : List (Int))))) := by
  kernel_rfl
theorem i_PartsOf_l0_eq (y0 : List (Int)) (y1 : Int) (y2 : Int) (y3 : List (Int)) : i_PartsOf_l0 y0 y1 y2 y3 = (cond ((decide (y2 < y1))) (if y2 < 0 then none else (Option.bind (i_DistancesFrom_f (y0, (IntKind.i64.wrap (1 * 2 ^ min (y2 : Int).toNat IntKind.i64.bits)))) fun r1 => (i_PartsOf_l1 y0 y1 y2 r1 (List.length r1 : Int) 0 y3))) (some y3)) := by
  refine (loopK_eq Tryz.prog (i_PartsOf_E) (sub (Tryz.f77.body.getD .skip) [1, 1, 1, 0, 1, 0, 0]) _ _).trans ?_
  kernel_rfl
theorem i_PartsOf_l1_eq (y0 : List (Int)) (y1 : Int) (y2 : Int) (y3 : List (Int)) (y4 : Int) (y5 : Int) (y6 : List (Int)) : i_PartsOf_l1 y0 y1 y2 y3 y4 y5 y6 = (cond ((decide (y5 < y4))) (if (0 : Int) ≤ y5 ∧ y5 < (List.length y3 : Int) then (cond ((decide (0 ≤ (List.getD y3 (y5 : Int).toNat 0)))) (if (List.length y6 + List.length ([y5] : List (Int))) * 8 ≤ 140737488355328 then (i_PartsOf_l0 y0 y1 (IntKind.i64.wrap (y2 + 1)) (y6 ++ ([y5] : List (Int)))) else none) (i_PartsOf_l1 y0 y1 y2 y3 y4 (IntKind.i64.wrap (y5 + 1)) y6)) else none) (i_PartsOf_l0 y0 y1 (IntKind.i64.wrap (y2 + 1)) y6)) := by
  refine (loopK_eq Tryz.prog (i_PartsOf_E) (sub (Tryz.f77.body.getD .skip) [1, 1, 1, 0, 1, 0, 0, 1, 1, 0, 0, 1, 1, 0, 0]) _ _).trans ?_
  kernel_rfl
theorem i_PartsOf_ent : Entb Tryz.prog 77 := ⟨Tryz.f77, by kernel_rfl, by kernel_rfl, by kernel_rfl⟩
theorem i_PartsOf_ok : CtrOk Tryz.prog 77 ⟨i_PartsOf_sig, i_PartsOf_f⟩ :=
  ctr_of (fn := Tryz.f77) (by kernel_rfl) (by kernel_rfl) (fun x : Ts i_PartsOf_sig.pc => i_PartsOf_E) (fun x => ⟨(fn_cons ⟨i_NetOk_ok, i_NetOk_ent⟩ (fn_cons ⟨i_DistancesFrom_ok, i_DistancesFrom_ent⟩ fn_none)), clo_none, wr_none⟩) (fun h => by cases h) follows_ (fun _ _ => trivial)
end FN

set_option linter.unusedVariables false
namespace FN
open Go Go.Proofs
/-! loop.example/firingnets/spec.l1Near -/
@[reducible] def s_l1Near_sig : Sig := { ps := [none, none], pc := [.view .i64, .int .i64], rs := [none], rc := [.int .i64] }
noncomputable def s_l1Near_E : Env' := { fn := fun f => none, ck := ckT, cuts := [(3, [0, 1, 5, 6])], mine := fun i => false }
noncomputable def s_l1Near_f (x : Ts s_l1Near_sig.pc) : Option (Ts s_l1Near_sig.rc) := runFn Tryz.prog (s_l1Near_E) Tryz.f149 s_l1Near_sig x
noncomputable def s_l1Near_l0 (y0 : List (Int)) (y1 : Int) (y2 : Int) (y3 : Int) : Option ((Int)) := from_ Tryz.prog (s_l1Near_E) Tryz.f149 s_l1Near_sig [1, 1, 0, 1, 0] ⟨mkT 25 [(0, .row false .i64 y0), (1, .int .i64 y1), (5, .int .i64 y2), (6, .int .i64 y3)], []⟩
theorem s_l1Near_f_eq (x0 : (List (Int))) (x1 : (Int)) : s_l1Near_f (x0, x1) = (s_l1Near_l0 x0 x1 0 0) := by
  kernel_rfl
theorem s_l1Near_l0_eq (y0 : List (Int)) (y1 : Int) (y2 : Int) (y3 : Int) : s_l1Near_l0 y0 y1 y2 y3 = (cond ((decide (y3 < (List.length y0 : Int)))) (if y3 < 0 then none else (cond (((Int.tmod (Int.fdiv y1 (2 ^ min (y3 : Int).toNat IntKind.i64.bits)) 2) == 1)) (if (0 : Int) ≤ y3 ∧ y3 < (List.length y0 : Int) then (s_l1Near_l0 y0 y1 (Go.bits .or IntKind.i64 y2 (List.getD y0 (y3 : Int).toNat 0)) (IntKind.i64.wrap (y3 + 1))) else none) (s_l1Near_l0 y0 y1 y2 (IntKind.i64.wrap (y3 + 1))))) (some y2)) := by
  refine (loopK_eq Tryz.prog (s_l1Near_E) (sub (Tryz.f149.body.getD .skip) [1, 1, 0, 1, 0, 0]) _ _).trans ?_
  kernel_rfl
theorem s_l1Near_ent : Entb Tryz.prog 149 := ⟨Tryz.f149, by kernel_rfl, by kernel_rfl, by kernel_rfl⟩
theorem s_l1Near_ok : CtrOk Tryz.prog 149 ⟨s_l1Near_sig, s_l1Near_f⟩ :=
  ctr_of (fn := Tryz.f149) (by kernel_rfl) (by kernel_rfl) (fun x : Ts s_l1Near_sig.pc => s_l1Near_E) (fun x => ⟨fn_none, clo_none, wr_none⟩) (fun h => by cases h) follows_ (fun _ _ => trivial)
end FN

set_option linter.unusedVariables false
namespace FN
open Go Go.Proofs
/-! loop.example/firingnets/spec.l1Far -/
@[reducible] def s_l1Far_sig : Sig := { ps := [none, none], pc := [.view .i64, .int .i64], rs := [none], rc := [.row 3 .i64] }
noncomputable def s_l1Far_E : Env' := { fn := fun f => if f = 149 then some ⟨s_l1Near_sig, s_l1Near_f⟩ else none, ck := ckT, cuts := [(3, [0, 1, 5, 6]), (6, [0, 1, 5]), (9, [0, 5, 7, 8, 9]), (12, [0, 5, 7, 8, 9, 10]), (16, [0, 5, 7, 8, 9])], mine := fun i => false }
noncomputable def s_l1Far_f (x : Ts s_l1Far_sig.pc) : Option (Ts s_l1Far_sig.rc) := runFn Tryz.prog (s_l1Far_E) Tryz.f129 s_l1Far_sig x
noncomputable def s_l1Far_l0 (y0 : List (Int)) (y1 : Int) (y2 : Int) (y3 : List (Int)) : Option ((List (Int))) := from_ Tryz.prog (s_l1Far_E) Tryz.f129 s_l1Far_sig [1, 1, 0, 1, 0] ⟨mkT 50 [(0, .row false .i64 y0), (1, .int .i64 y1), (5, .own 0), (6, .int .i64 y2)], [some (.arr 3 true .i64 y3)]⟩
noncomputable def s_l1Far_j1 (y0 : List (Int)) (y1 : Int) (y2 : List (Int)) : Option ((List (Int))) := from_ Tryz.prog (s_l1Far_E) Tryz.f129 s_l1Far_sig [1, 1, 1] ⟨mkT 50 [(0, .row false .i64 y0), (1, .int .i64 y1), (5, .own 0)], [some (.arr 3 true .i64 y2)]⟩
noncomputable def s_l1Far_l2 (y0 : List (Int)) (y1 : Int) (y2 : Int) (y3 : Int) (y4 : List (Int)) : Option ((List (Int))) := from_ Tryz.prog (s_l1Far_E) Tryz.f129 s_l1Far_sig [1, 1, 1, 1, 1, 0, 1, 0] ⟨mkT 50 [(0, .row false .i64 y0), (5, .own 0), (7, .int .i64 y1), (8, .int .i64 y2), (9, .int .i64 y3)], [some (.arr 3 true .i64 y4)]⟩
noncomputable def s_l1Far_l3 (y0 : List (Int)) (y1 : Int) (y2 : Int) (y3 : Int) (y4 : Int) (y5 : List (Int)) : Option ((List (Int))) := from_ Tryz.prog (s_l1Far_E) Tryz.f129 s_l1Far_sig [1, 1, 1, 1, 1, 0, 1, 0, 0, 1, 0, 0, 0, 1, 0] ⟨mkT 50 [(0, .row false .i64 y0), (5, .own 0), (7, .int .i64 y1), (8, .int .i64 y2), (9, .int .i64 y3), (10, .int .i64 y4)], [some (.arr 3 true .i64 y5)]⟩
noncomputable def s_l1Far_j4 (y0 : List (Int)) (y1 : Int) (y2 : Int) (y3 : Int) (y4 : List (Int)) : Option ((List (Int))) := from_ Tryz.prog (s_l1Far_E) Tryz.f129 s_l1Far_sig [1, 1, 1, 1, 1, 0, 1, 0, 0, 1, 0, 0, 1] ⟨mkT 50 [(0, .row false .i64 y0), (5, .own 0), (7, .int .i64 y1), (8, .int .i64 y2), (9, .int .i64 y3)], [some (.arr 3 true .i64 y4)]⟩
theorem s_l1Far_f_eq (x0 : (List (Int))) (x1 : (Int)) : s_l1Far_f (x0, x1) = (s_l1Far_l0 x0 x1 0 ([] : List (Int))) := by
  kernel_rfl
theorem s_l1Far_l0_eq (y0 : List (Int)) (y1 : Int) (y2 : Int) (y3 : List (Int)) : s_l1Far_l0 y0 y1 y2 y3 = (cond ((decide (y2 < (List.length y0 : Int)))) (if (List.length y3 + List.length ([(-1)] : List (Int))) * 8 ≤ 140737488355328 then (s_l1Far_l0 y0 y1 (IntKind.i64.wrap (y2 + 1)) (y3 ++ ([(-1)] : List (Int)))) else none) (s_l1Far_j1 y0 y1 y3)) := by
  refine (loopK_eq Tryz.prog (s_l1Far_E) (sub (Tryz.f129.body.getD .skip) [1, 1, 0, 1, 0, 0]) _ _).trans ?_
  kernel_rfl
theorem s_l1Far_j1_eq (y0 : List (Int)) (y1 : Int) (y2 : List (Int)) : s_l1Far_j1 y0 y1 y2 = (s_l1Far_l2 y0 0 y1 0 y2) := by
  kernel_rfl
theorem s_l1Far_l2_eq (y0 : List (Int)) (y1 : Int) (y2 : Int) (y3 : Int) (y4 : List (Int)) : s_l1Far_l2 y0 y1 y2 y3 y4 = (cond ((y2 != 0)) (s_l1Far_l3 y0 y1 y2 y3 0 y4) (some y4)) := by
  refine (loopK_eq Tryz.prog (s_l1Far_E) (sub (Tryz.f129.body.getD .skip) [1, 1, 1, 1, 1, 0, 1, 0, 0]) _ _).trans ?_
  kernel_rfl
theorem s_l1Far_l3_eq (y0 : List (Int)) (y1 : Int) (y2 : Int) (y3 : Int) (y4 : Int) (y5 : List (Int)) : s_l1Far_l3 y0 y1 y2 y3 y4 y5 = (cond ((decide (y4 < (List.length y0 : Int)))) (if y4 < 0 then none else (cond (((Int.tmod (Int.fdiv y2 (2 ^ min (y4 : Int).toNat IntKind.i64.bits)) 2) == 1)) (if (0 : Int) ≤ y4 ∧ y4 < (List.length y5 : Int) then (s_l1Far_l3 y0 y1 y2 y3 (IntKind.i64.wrap (y4 + 1)) (List.set y5 (y4 : Int).toNat y3)) else none) (s_l1Far_l3 y0 y1 y2 y3 (IntKind.i64.wrap (y4 + 1)) y5))) (s_l1Far_j4 y0 y1 y2 y3 y5)) := by
  refine (loopK_eq Tryz.prog (s_l1Far_E) (sub (Tryz.f129.body.getD .skip) [1, 1, 1, 1, 1, 0, 1, 0, 0, 1, 0, 0, 0, 1, 0, 0]) _ _).trans ?_
  kernel_rfl
theorem s_l1Far_j4_eq (y0 : List (Int)) (y1 : Int) (y2 : Int) (y3 : Int) (y4 : List (Int)) : s_l1Far_j4 y0 y1 y2 y3 y4 = (Option.bind (s_l1Near_f (y0, y2)) fun r1 => (s_l1Far_l2 y0 (Go.bits .or IntKind.i64 y1 y2) (Go.bits .andNot IntKind.i64 r1 (Go.bits .or IntKind.i64 y1 y2)) (IntKind.i64.wrap (y3 + 1)) y4)) := by
  kernel_rfl
theorem s_l1Far_ent : Entb Tryz.prog 129 := ⟨Tryz.f129, by kernel_rfl, by kernel_rfl, by kernel_rfl⟩
theorem s_l1Far_ok : CtrOk Tryz.prog 129 ⟨s_l1Far_sig, s_l1Far_f⟩ :=
  ctr_of (fn := Tryz.f129) (by kernel_rfl) (by kernel_rfl) (fun x : Ts s_l1Far_sig.pc => s_l1Far_E) (fun x => ⟨(fn_cons ⟨s_l1Near_ok, s_l1Near_ent⟩ fn_none), clo_none, wr_none⟩) (fun h => by cases h) follows_ (fun _ _ => trivial)
end FN

set_option linter.unusedVariables false
namespace FN
open Go Go.Proofs
/-! loop.example/firingnets/spec.DistancesFrom -/
@[reducible] def s_DistancesFrom_sig : Sig := { ps := [none, none], pc := [.view .i64, .int .i64], rs := [none], rc := [.row 3 .i64] }
noncomputable def s_DistancesFrom_E : Env' := { fn := fun f => if f = 111 then some ⟨s_l1In_sig, s_l1In_f⟩ else if f = 128 then some ⟨s_NetOk_sig, s_NetOk_f⟩ else if f = 129 then some ⟨s_l1Far_sig, s_l1Far_f⟩ else none, ck := ckT, cuts := [], mine := fun i => i == 6 || i == 14 || i == 20 }
noncomputable def s_DistancesFrom_f (x : Ts s_DistancesFrom_sig.pc) : Option (Ts s_DistancesFrom_sig.rc) := runFn Tryz.prog (s_DistancesFrom_E) Tryz.f99 s_DistancesFrom_sig x
theorem s_DistancesFrom_f_eq (x0 : (List (Int))) (x1 : (Int)) : s_DistancesFrom_f (x0, x1) = (Option.bind (s_NetOk_f x0) fun r1 => (cond ((!r1)) (some ([] : List (Int))) (if (List.length x0 : Int) < 0 then none else (Option.bind (s_l1In_f (x1, 0, (IntKind.i64.wrap ((IntKind.i64.wrap (1 * 2 ^ min ((List.length x0 : Int) : Int).toNat IntKind.i64.bits)) - 1)))) fun r2 => (cond ((!r2)) (some ([] : List (Int))) (Option.bind (s_l1Far_f (x0, x1)) fun r3 => (some r3))))))) := by
  kernel_rfl
theorem s_DistancesFrom_ent : Entb Tryz.prog 99 := ⟨Tryz.f99, by kernel_rfl, by kernel_rfl, by kernel_rfl⟩
theorem s_DistancesFrom_ok : CtrOk Tryz.prog 99 ⟨s_DistancesFrom_sig, s_DistancesFrom_f⟩ :=
  ctr_of (fn := Tryz.f99) (by kernel_rfl) (by kernel_rfl) (fun x : Ts s_DistancesFrom_sig.pc => s_DistancesFrom_E) (fun x => ⟨(fn_cons ⟨s_l1In_ok, s_l1In_ent⟩ (fn_cons ⟨s_NetOk_ok, s_NetOk_ent⟩ (fn_cons ⟨s_l1Far_ok, s_l1Far_ent⟩ fn_none))), clo_none, wr_none⟩) (fun h => by cases h) follows_ (fun _ _ => trivial)
end FN

set_option linter.unusedVariables false
namespace FN
open Go Go.Proofs
/-! loop.example/firingnets/spec.PartsOf -/
@[reducible] def s_PartsOf_sig : Sig := { ps := [none], pc := [.view .i64], rs := [none], rc := [.row 3 .i64] }
noncomputable def s_PartsOf_E : Env' := { fn := fun f => if f = 128 then some ⟨s_NetOk_sig, s_NetOk_f⟩ else if f = 129 then some ⟨s_l1Far_sig, s_l1Far_f⟩ else none, ck := ckT, cuts := [(3, [0, 3, 4]), (8, [0, 3, 4, 5, 6, 7])], mine := fun i => false }
noncomputable def s_PartsOf_f (x : Ts s_PartsOf_sig.pc) : Option (Ts s_PartsOf_sig.rc) := runFn Tryz.prog (s_PartsOf_E) Tryz.f94 s_PartsOf_sig x
noncomputable def s_PartsOf_l0 (y0 : List (Int)) (y1 : Int) (y2 : List (Int)) : Option ((List (Int))) := from_ Tryz.prog (s_PartsOf_E) Tryz.f94 s_PartsOf_sig [1, 1, 0, 1, 0] ⟨mkT 40 [(0, .row false .i64 y0), (3, .own 0), (4, .int .i64 y1)], [some (.arr 3 true .i64 y2)]⟩
noncomputable def s_PartsOf_l1 (y0 : List (Int)) (y1 : Int) (y2 : List (Int)) (y3 : Int) (y4 : Int) (y5 : List (Int)) : Option ((List (Int))) := from_ Tryz.prog (s_PartsOf_E) Tryz.f94 s_PartsOf_sig [1, 1, 0, 1, 0, 0, 1, 0, 0, 1, 1, 0, 1, 0] ⟨mkT 40 [(0, .row false .i64 y0), (3, .own 0), (4, .int .i64 y1), (5, .row true .i64 y2), (6, .int .i64 y3), (7, .int .i64 y4)], [some (.arr 3 true .i64 y5)]⟩
theorem s_PartsOf_f_eq (x0 : (List (Int))) : s_PartsOf_f x0 = (s_PartsOf_l0 x0 0 ([] : List (Int))) := by
  kernel_rfl
theorem s_PartsOf_l0_eq (y0 : List (Int)) (y1 : Int) (y2 : List (Int)) : s_PartsOf_l0 y0 y1 y2 = (cond ((decide (y1 < (List.length y0 : Int)))) (Option.bind (s_NetOk_f y0) fun r1 => (cond (r1) (if y1 < 0 then none else (Option.bind (s_l1Far_f (y0, (IntKind.i64.wrap (1 * 2 ^ min (y1 : Int).toNat IntKind.i64.bits)))) fun r2 => (s_PartsOf_l1 y0 y1 r2 y1 y1 y2))) (some y2))) (some y2)) := by
  refine (loopK_eq Tryz.prog (s_PartsOf_E) (sub (Tryz.f94.body.getD .skip) [1, 1, 0, 1, 0, 0]) _ _).trans ?_
  kernel_rfl
theorem s_PartsOf_l1_eq (y0 : List (Int)) (y1 : Int) (y2 : List (Int)) (y3 : Int) (y4 : Int) (y5 : List (Int)) : s_PartsOf_l1 y0 y1 y2 y3 y4 y5 = (cond ((decide (0 ≤ y4))) (if (0 : Int) ≤ y4 ∧ y4 < (List.length y2 : Int) then (cond ((decide (0 ≤ (List.getD y2 (y4 : Int).toNat 0)))) (s_PartsOf_l1 y0 y1 y2 y4 (IntKind.i64.wrap (y4 - 1)) y5) (s_PartsOf_l1 y0 y1 y2 y3 (IntKind.i64.wrap (y4 - 1)) y5)) else none) (if (List.length y5 + List.length ([y3] : List (Int))) * 8 ≤ 140737488355328 then (s_PartsOf_l0 y0 (IntKind.i64.wrap (y1 + 1)) (y5 ++ ([y3] : List (Int)))) else none)) := by
  refine (loopK_eq Tryz.prog (s_PartsOf_E) (sub (Tryz.f94.body.getD .skip) [1, 1, 0, 1, 0, 0, 1, 0, 0, 1, 1, 0, 1, 0, 0]) _ _).trans ?_
  kernel_rfl
theorem s_PartsOf_ent : Entb Tryz.prog 94 := ⟨Tryz.f94, by kernel_rfl, by kernel_rfl, by kernel_rfl⟩
theorem s_PartsOf_ok : CtrOk Tryz.prog 94 ⟨s_PartsOf_sig, s_PartsOf_f⟩ :=
  ctr_of (fn := Tryz.f94) (by kernel_rfl) (by kernel_rfl) (fun x : Ts s_PartsOf_sig.pc => s_PartsOf_E) (fun x => ⟨(fn_cons ⟨s_NetOk_ok, s_NetOk_ent⟩ (fn_cons ⟨s_l1Far_ok, s_l1Far_ent⟩ fn_none)), clo_none, wr_none⟩) (fun h => by cases h) follows_ (fun _ _ => trivial)
end FN

/-! strconv.Itoa, of every number: the shelf's contract, as one of ours. -/
namespace FN
open Go Go.Proofs Go.RowKit
@[reducible] def x_strconv_ItoaG_sig : Sig := { ps := [none], pc := [.int .i64], rs := [none], rc := [.str] }
def itoaG (n : Int) : ByteArray := ⟨(Lib.itoa n).toArray⟩
def x_strconv_ItoaG_f (n : Ts x_strconv_ItoaG_sig.pc) : Option (Ts x_strconv_ItoaG_sig.rc) := if (-9223372036854775808 : Int) ≤ n ∧ (n : Int) ≤ 9223372036854775807 then some (itoaG n) else none
theorem x_strconv_ItoaG_ent : Entb Tryz.prog 73 := x_strconv_Itoa_ent
theorem kpG {pin : Pn} {w : World} {k : Nat} {os : Array Obj} : Kp pin w.heap.size w (Go.Sort.grow (w.drewN k) os) :=
  ⟨rfl, rfl, rfl, by simp [Go.Sort.grow, World.drewN], fun i hi _ => by simp [Go.Sort.grow, World.drewN, Array.getElem?_append, hi]⟩
theorem x_strconv_ItoaG_ok : CtrOk Tryz.prog 73 ⟨x_strconv_ItoaG_sig, x_strconv_ItoaG_f⟩ := by
  intro w okc args bx x r hI hA hr
  obtain ⟨rfl, fl, h1, h2⟩ := (show bx = none ∧ ∃ fl, flatV [none] args.toList = some fl ∧ F2 (V1 (av w okc)) [PV.int .i64 x] fl from hA)
  obtain ⟨p, h3, rfl⟩ := flatV_one h1
  cases h2 with
  | cons hp _ =>
    have hp : p = .int .i64 x := hp
    subst hp
    have hx : (if (-9223372036854775808 : Int) ≤ x ∧ (x : Int) ≤ 9223372036854775807 then some (itoaG x) else none) = some r := hr
    split at hx
    · rename_i hc
      injection hx with hx
      subst hx
      have hargs : args = #[.int .i64 x] := by apply Array.ext'; rw [h3]
      rw [hargs]
      refine (Tryz.strconv_Itoa x hc.1 hc.2 w (gl_tab hI)).mono ?_
      rintro e w' ⟨rfl, k, os, rfl⟩
      exact ⟨_, rfl, ⟨[.string (itoaG x)], fun _ => False, ⟨_, rfl, rfl⟩, fun i j u u' g hu => by simp [rowsV] at hu, fun k h => h, (fun h => Bool.noConfusion (show (false : Bool) = true from h)), [.string (itoaG x)], rfl, rfl⟩, kpG⟩
    · cases hx
end FN

set_option linter.unusedVariables false
namespace FN
open Go Go.Proofs
/-! loop.example/firingnets/impl.rowText -/
@[reducible] def i_rowText_sig : Sig := { ps := [none], pc := [.view .i64], rs := [none], rc := [.str] }
noncomputable def i_rowText_E : Env' := { fn := fun f => if f = 73 then some ⟨x_strconv_ItoaG_sig, x_strconv_ItoaG_f⟩ else if f = 108 then some ⟨x_strings_Join_sig, x_strings_Join_f⟩ else none, ck := ckT, cuts := [(5, [3, 10, 11, 12])], mine := fun i => false }
noncomputable def i_rowText_f (x : Ts i_rowText_sig.pc) : Option (Ts i_rowText_sig.rc) := runFn Tryz.prog (i_rowText_E) Tryz.f75 i_rowText_sig x
noncomputable def i_rowText_l0 (y0 : List (Int)) (y1 : Int) (y2 : Int) (y3 : List (ByteArray)) : Option ((ByteArray)) := from_ Tryz.prog (i_rowText_E) Tryz.f75 i_rowText_sig [1, 1, 1, 0, 1, 0] ⟨mkT 24 [(3, .own 0), (10, .row false .i64 y0), (11, .int .i64 y1), (12, .int .i64 y2)], [some (.arr 9 true .str y3)]⟩
theorem i_rowText_f_eq (x0 : (List (Int))) : i_rowText_f x0 = (cond (((List.length x0 : Int) == 0)) (some str40) (i_rowText_l0 x0 (List.length x0 : Int) 0 ([] : List (ByteArray)))) := by
  kernel_rfl
theorem i_rowText_l0_eq (y0 : List (Int)) (y1 : Int) (y2 : Int) (y3 : List (ByteArray)) : i_rowText_l0 y0 y1 y2 y3 = (cond ((decide (y2 < y1))) (if (0 : Int) ≤ y2 ∧ y2 < (List.length y0 : Int) then (Option.bind (x_strconv_ItoaG_f (List.getD y0 (y2 : Int).toNat 0)) fun r1 => (if (List.length y3 + List.length ([r1] : List (ByteArray))) * 16 ≤ 140737488355328 then (i_rowText_l0 y0 y1 (IntKind.i64.wrap (y2 + 1)) (y3 ++ ([r1] : List (ByteArray)))) else none)) else none) (Option.bind (x_strings_Join_f (y3, str14)) fun r2 => (some r2))) := by
  refine (loopK_eq Tryz.prog (i_rowText_E) (sub (Tryz.f75.body.getD .skip) [1, 1, 1, 0, 1, 0, 0]) _ _).trans ?_
  kernel_rfl
theorem i_rowText_ent : Entb Tryz.prog 75 := ⟨Tryz.f75, by kernel_rfl, by kernel_rfl, by kernel_rfl⟩
theorem i_rowText_ok : CtrOk Tryz.prog 75 ⟨i_rowText_sig, i_rowText_f⟩ :=
  ctr_of (fn := Tryz.f75) (by kernel_rfl) (by kernel_rfl) (fun x : Ts i_rowText_sig.pc => i_rowText_E) (fun x => ⟨(fn_cons ⟨x_strconv_ItoaG_ok, x_strconv_ItoaG_ent⟩ (fn_cons ⟨x_strings_Join_ok, x_strings_Join_ent⟩ fn_none)), clo_none, wr_none⟩) (fun h => by cases h) follows_ (fun _ _ => trivial)
end FN

set_option linter.unusedVariables false
namespace FN
open Go Go.Proofs
/-! loop.example/firingnets/spec.l15Row -/
@[reducible] def s_l15Row_sig : Sig := { ps := [none], pc := [.view .i64], rs := [none], rc := [.str] }
noncomputable def s_l15Row_E : Env' := { fn := fun f => if f = 64 then some ⟨s_l1Number_sig, s_l1Number_f⟩ else none, ck := ckT, cuts := [(3, [0, 3, 4]), (7, [0, 3, 4]), (10, [0, 3])], mine := fun i => false }
noncomputable def s_l15Row_f (x : Ts s_l15Row_sig.pc) : Option (Ts s_l15Row_sig.rc) := runFn Tryz.prog (s_l15Row_E) Tryz.f92 s_l15Row_sig x
noncomputable def s_l15Row_l0 (y0 : List (Int)) (y1 : ByteArray) (y2 : Int) : Option ((ByteArray)) := from_ Tryz.prog (s_l15Row_E) Tryz.f92 s_l15Row_sig [1, 1, 0, 1, 0] ⟨mkT 40 [(0, .row false .i64 y0), (3, .str y1), (4, .int .i64 y2)], []⟩
noncomputable def s_l15Row_j1 (y0 : List (Int)) (y1 : ByteArray) (y2 : Int) : Option ((ByteArray)) := from_ Tryz.prog (s_l15Row_E) Tryz.f92 s_l15Row_sig [1, 1, 0, 1, 0, 0, 1, 0, 0, 1] ⟨mkT 40 [(0, .row false .i64 y0), (3, .str y1), (4, .int .i64 y2)], []⟩
noncomputable def s_l15Row_j2 (y0 : List (Int)) (y1 : ByteArray) : Option ((ByteArray)) := from_ Tryz.prog (s_l15Row_E) Tryz.f92 s_l15Row_sig [1, 1, 1] ⟨mkT 40 [(0, .row false .i64 y0), (3, .str y1)], []⟩
theorem s_l15Row_f_eq (x0 : (List (Int))) : s_l15Row_f x0 = (s_l15Row_l0 x0 ByteArray.empty 0) := by
  kernel_rfl
theorem s_l15Row_l0_eq (y0 : List (Int)) (y1 : ByteArray) (y2 : Int) : s_l15Row_l0 y0 y1 y2 = (cond ((decide (y2 < (List.length y0 : Int)))) (cond ((decide (0 < y2))) (if ByteArray.size y1 + ByteArray.size str14 ≤ 9223372036854775807 then (s_l15Row_j1 y0 (y1 ++ str14) y2) else none) (s_l15Row_j1 y0 y1 y2)) (s_l15Row_j2 y0 y1)) := by
  refine (loopK_eq Tryz.prog (s_l15Row_E) (sub (Tryz.f92.body.getD .skip) [1, 1, 0, 1, 0, 0]) _ _).trans ?_
  kernel_rfl
theorem s_l15Row_j1_eq (y0 : List (Int)) (y1 : ByteArray) (y2 : Int) : s_l15Row_j1 y0 y1 y2 = (if (0 : Int) ≤ y2 ∧ y2 < (List.length y0 : Int) then (cond ((decide ((List.getD y0 (y2 : Int).toNat 0) < 0))) (if ByteArray.size y1 + ByteArray.size str48 ≤ 9223372036854775807 then (if (0 : Int) ≤ y2 ∧ y2 < (List.length y0 : Int) then (Option.bind (s_l1Number_f (IntKind.i64.wrap (0 - (List.getD y0 (y2 : Int).toNat 0)))) fun r1 => (if ByteArray.size (y1 ++ str48) + ByteArray.size r1 ≤ 9223372036854775807 then (s_l15Row_l0 y0 ((y1 ++ str48) ++ r1) (IntKind.i64.wrap (y2 + 1))) else none)) else none) else none) (if (0 : Int) ≤ y2 ∧ y2 < (List.length y0 : Int) then (Option.bind (s_l1Number_f (List.getD y0 (y2 : Int).toNat 0)) fun r2 => (if ByteArray.size y1 + ByteArray.size r2 ≤ 9223372036854775807 then (s_l15Row_l0 y0 (y1 ++ r2) (IntKind.i64.wrap (y2 + 1))) else none)) else none)) else none) := by
  kernel_rfl
theorem s_l15Row_j2_eq (y0 : List (Int)) (y1 : ByteArray) : s_l15Row_j2 y0 y1 = (cond (((List.length y0 : Int) == 0)) (some str40) (some y1)) := by
  kernel_rfl
theorem s_l15Row_ent : Entb Tryz.prog 92 := ⟨Tryz.f92, by kernel_rfl, by kernel_rfl, by kernel_rfl⟩
theorem s_l15Row_ok : CtrOk Tryz.prog 92 ⟨s_l15Row_sig, s_l15Row_f⟩ :=
  ctr_of (fn := Tryz.f92) (by kernel_rfl) (by kernel_rfl) (fun x : Ts s_l15Row_sig.pc => s_l15Row_E) (fun x => ⟨(fn_cons ⟨s_l1Number_ok, s_l1Number_ent⟩ fn_none), clo_none, wr_none⟩) (fun h => by cases h) follows_ (fun _ _ => trivial)
end FN

set_option linter.unusedVariables false
namespace FN
open Go Go.Proofs
/-! loop.example/firingnets/impl.CountsOf -/
@[reducible] def i_CountsOf_sig : Sig := { ps := [none, none], pc := [.int .i64, .view .i64], rs := [none], rc := [.row 3 .i64] }
noncomputable def i_CountsOf_E : Env' := { fn := fun f => if f = 119 then some ⟨i_StateOk_sig, i_StateOk_f⟩ else none, ck := ckT, cuts := [(5, [5, 14, 15, 16])], mine := fun i => false }
noncomputable def i_CountsOf_f (x : Ts i_CountsOf_sig.pc) : Option (Ts i_CountsOf_sig.rc) := runFn Tryz.prog (i_CountsOf_E) Tryz.f76 i_CountsOf_sig x
noncomputable def i_CountsOf_l0 (y0 : List (Int)) (y1 : Int) (y2 : Int) (y3 : List (Int)) : Option ((List (Int))) := from_ Tryz.prog (i_CountsOf_E) Tryz.f76 i_CountsOf_sig [1, 1, 1, 0, 1, 0] ⟨mkT 28 [(5, .own 0), (14, .row false .i64 y0), (15, .int .i64 y1), (16, .int .i64 y2)], [some (.arr 3 true .i64 y3)]⟩
theorem i_CountsOf_f_eq (x0 : (Int)) (x1 : (List (Int))) : i_CountsOf_f (x0, x1) = (Option.bind (i_StateOk_f (x0, x1)) fun r1 => (cond ((!r1)) (some []) (if (0 : Int) ≤ x0 ∧ x0 * 8 ≤ 140737488355328 ∧ x0 ≤ 140737488355328 then (i_CountsOf_l0 x1 (List.length x1 : Int) 0 (List.replicate (x0 : Int).toNat 0 : List (Int))) else none))) := by
  kernel_rfl
theorem i_CountsOf_l0_eq (y0 : List (Int)) (y1 : Int) (y2 : Int) (y3 : List (Int)) : i_CountsOf_l0 y0 y1 y2 y3 = (cond ((decide (y2 < y1))) (if (0 : Int) ≤ y2 ∧ y2 < (List.length y0 : Int) then (if (0 : Int) ≤ (List.getD y0 (y2 : Int).toNat 0) ∧ (List.getD y0 (y2 : Int).toNat 0) < (List.length y3 : Int) then (if (0 : Int) ≤ (List.getD y0 (y2 : Int).toNat 0) ∧ (List.getD y0 (y2 : Int).toNat 0) < (List.length y3 : Int) then (i_CountsOf_l0 y0 y1 (IntKind.i64.wrap (y2 + 1)) (List.set y3 ((List.getD y0 (y2 : Int).toNat 0) : Int).toNat (IntKind.i64.wrap ((List.getD y3 ((List.getD y0 (y2 : Int).toNat 0) : Int).toNat 0) + 1)))) else none) else none) else none) (some y3)) := by
  refine (loopK_eq Tryz.prog (i_CountsOf_E) (sub (Tryz.f76.body.getD .skip) [1, 1, 1, 0, 1, 0, 0]) _ _).trans ?_
  kernel_rfl
theorem i_CountsOf_ent : Entb Tryz.prog 76 := ⟨Tryz.f76, by kernel_rfl, by kernel_rfl, by kernel_rfl⟩
theorem i_CountsOf_ok : CtrOk Tryz.prog 76 ⟨i_CountsOf_sig, i_CountsOf_f⟩ :=
  ctr_of (fn := Tryz.f76) (by kernel_rfl) (by kernel_rfl) (fun x : Ts i_CountsOf_sig.pc => i_CountsOf_E) (fun x => ⟨(fn_cons ⟨i_StateOk_ok, i_StateOk_ent⟩ fn_none), clo_none, wr_none⟩) (fun h => by cases h) follows_ (fun _ _ => trivial)
end FN

set_option linter.unusedVariables false
namespace FN
open Go Go.Proofs
/-! loop.example/firingnets/spec.CountsOf -/
@[reducible] def s_CountsOf_sig : Sig := { ps := [none, none], pc := [.int .i64, .view .i64], rs := [none], rc := [.row 3 .i64] }
noncomputable def s_CountsOf_E : Env' := { fn := fun f => if f = 127 then some ⟨s_StateOk_sig, s_StateOk_f⟩ else none, ck := ckT, cuts := [(5, [1, 5, 6])], mine := fun i => false }
noncomputable def s_CountsOf_f (x : Ts s_CountsOf_sig.pc) : Option (Ts s_CountsOf_sig.rc) := runFn Tryz.prog (s_CountsOf_E) Tryz.f93 s_CountsOf_sig x
noncomputable def s_CountsOf_l0 (y0 : List (Int)) (y1 : Int) (y2 : List (Int)) : Option ((List (Int))) := from_ Tryz.prog (s_CountsOf_E) Tryz.f93 s_CountsOf_sig [1, 1, 1, 0, 1, 0] ⟨mkT 35 [(1, .row false .i64 y0), (5, .own 0), (6, .int .i64 y1)], [some (.arr 3 true .i64 y2)]⟩
theorem s_CountsOf_f_eq (x0 : (Int)) (x1 : (List (Int))) : s_CountsOf_f (x0, x1) = (Option.bind (s_StateOk_f (x0, x1)) fun r1 => (cond ((!r1)) (some ([] : List (Int))) (if (0 : Int) ≤ x0 ∧ x0 * 8 ≤ 140737488355328 ∧ x0 ≤ 140737488355328 then (s_CountsOf_l0 x1 0 (List.replicate (x0 : Int).toNat 0 : List (Int))) else none))) := by
  kernel_rfl
theorem s_CountsOf_l0_eq (y0 : List (Int)) (y1 : Int) (y2 : List (Int)) : s_CountsOf_l0 y0 y1 y2 = (cond ((decide (y1 < (List.length y0 : Int)))) (if (0 : Int) ≤ y1 ∧ y1 < (List.length y0 : Int) then (if (0 : Int) ≤ y1 ∧ y1 < (List.length y0 : Int) then (if (0 : Int) ≤ (List.getD y0 (y1 : Int).toNat 0) ∧ (List.getD y0 (y1 : Int).toNat 0) < (List.length y2 : Int) then (if (0 : Int) ≤ (List.getD y0 (y1 : Int).toNat 0) ∧ (List.getD y0 (y1 : Int).toNat 0) < (List.length y2 : Int) then (s_CountsOf_l0 y0 (IntKind.i64.wrap (y1 + 1)) (List.set y2 ((List.getD y0 (y1 : Int).toNat 0) : Int).toNat (IntKind.i64.wrap ((List.getD y2 ((List.getD y0 (y1 : Int).toNat 0) : Int).toNat 0) + 1)))) else none) else none) else none) else none) (some y2)) := by
  refine (loopK_eq Tryz.prog (s_CountsOf_E) (sub (Tryz.f93.body.getD .skip) [1, 1, 1, 0, 1, 0, 0]) _ _).trans ?_
  kernel_rfl
theorem s_CountsOf_ent : Entb Tryz.prog 93 := ⟨Tryz.f93, by kernel_rfl, by kernel_rfl, by kernel_rfl⟩
theorem s_CountsOf_ok : CtrOk Tryz.prog 93 ⟨s_CountsOf_sig, s_CountsOf_f⟩ :=
  ctr_of (fn := Tryz.f93) (by kernel_rfl) (by kernel_rfl) (fun x : Ts s_CountsOf_sig.pc => s_CountsOf_E) (fun x => ⟨(fn_cons ⟨s_StateOk_ok, s_StateOk_ent⟩ fn_none), clo_none, wr_none⟩) (fun h => by cases h) follows_ (fun _ _ => trivial)
end FN

/-! The search for a number that comes again, with a map of what has been met. -/
namespace FN
open Go Go.Maps
/-- The search: what has been met, in order. -/
def loopG (num : List Int → Option Int) (step : List Int → Option (List Int)) : Nat → List Int → List Int → Option (Int × Int)
  | 0, _, _ => none
  | f + 1, seen, s => (num s).bind fun v => if 0 ≤ v ∧ v ≤ 4611686018427387904 then (match seen.findIdx? (· == v) with
    | some i => some ((i : Int), (seen.length : Int) - (i : Int))
    | none => (step s).bind fun s' => loopG num step f (seen ++ [v]) s') else none
abbrev kL (x : Int) : Lit := .int .i64 x
/-- The map holds where each number was met. -/
def MapIs (D : DataW Unit) (seen : List Int) : Prop :=
  IsMap D ∧ ∀ x : Int, (seen.findIdx? (· == x) = none → has D (kL x) = false) ∧ ∀ i, seen.findIdx? (· == x) = some i → has D (kL x) = true ∧ ∀ z, D.atKey (kL x) z = .lit (.int .i64 (i : Int))
theorem mapIs_nil : MapIs (.map []) [] := ⟨isMap_empty, fun x => ⟨fun _ => rfl, fun i h => by simp at h⟩⟩
theorem isKey_int (x : Int) : WideAt.IsKeyLit (kL x) := by simp [WideAt.IsKeyLit]
theorem mapIs_put {D : DataW Unit} {seen : List Int} (h : MapIs D seen) (x : Int) (hx : seen.findIdx? (· == x) = none) : MapIs (D.put (kL x) (.lit (.int .i64 (seen.length : Int)))) (seen ++ [x]) := by
  refine ⟨h.1.put _ _, fun y => ?_⟩
  by_cases e : y = x
  · subst e
    have hf : (seen ++ [y]).findIdx? (· == y) = some seen.length := by
      rw [List.findIdx?_append, hx]
      simp
    refine And.intro (fun hn => by rw [hf] at hn; cases hn) (fun i hi => ?_)
    rw [hf] at hi
    injection hi with hi
    subst hi
    exact ⟨has_put_same h.1 (isKey_int y) _, fun z => atKey_put_same h.1 (isKey_int y) _ _⟩
  · have hne : kL y ≠ kL x := fun he => e (by injection he)
    have hf : (seen ++ [x]).findIdx? (· == y) = seen.findIdx? (· == y) := by
      rw [List.findIdx?_append]
      cases seen.findIdx? (· == y) with
      | some i => rfl
      | none => simp [Ne.symm e]
    rw [hf, has_put_other hne]
    refine ⟨(h.2 y).1, fun i hi => ⟨((h.2 y).2 i hi).1, fun z => ?_⟩⟩
    rw [atKey_put_other hne]
    exact ((h.2 y).2 i hi).2 z
end FN

