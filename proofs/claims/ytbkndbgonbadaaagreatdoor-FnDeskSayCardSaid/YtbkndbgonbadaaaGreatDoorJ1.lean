/- Texts of the proof, joined: parts -/
import Derived.Test.YtbkndbgonbadaaaGreatDoorJ0
set_option linter.unusedVariables false
set_option linter.unusedSimpArgs false
set_option linter.unusedSectionVars false
set_option linter.unusedVariables false
namespace FN
open Go Go.Proofs
/-! loop.example/firingnets/spec.StateOk -/
@[reducible] def s_StateOk_sig : Sig := { ps := [none, none], pc := [.int .i64, .view .i64], rs := [none], rc := [.bool] }
noncomputable def s_StateOk_E : Env' := { fn := fun f => if f = 111 then some ⟨s_l1In_sig, s_l1In_f⟩ else none, ck := ckT, cuts := [(2, [0, 1, 5]), (6, [0, 1])], mine := fun i => false }
noncomputable def s_StateOk_f (x : Ts s_StateOk_sig.pc) : Option (Ts s_StateOk_sig.rc) := runFn Tryz.prog (s_StateOk_E) Tryz.f127 s_StateOk_sig x
noncomputable def s_StateOk_l0 (y0 : Int) (y1 : List (Int)) (y2 : Int) : Option ((Bool)) := from_ Tryz.prog (s_StateOk_E) Tryz.f127 s_StateOk_sig [1, 0, 1, 0] ⟨mkT 32 [(0, .int .i64 y0), (1, .row false .i64 y1), (5, .int .i64 y2)], []⟩
noncomputable def s_StateOk_j1 (y0 : Int) (y1 : List (Int)) : Option ((Bool)) := from_ Tryz.prog (s_StateOk_E) Tryz.f127 s_StateOk_sig [1, 1] ⟨mkT 32 [(0, .int .i64 y0), (1, .row false .i64 y1)], []⟩
theorem s_StateOk_f_eq (x0 : (Int)) (x1 : (List (Int))) : s_StateOk_f (x0, x1) = (s_StateOk_l0 x0 x1 0) := by
  kernel_rfl
theorem s_StateOk_l0_eq (y0 : Int) (y1 : List (Int)) (y2 : Int) : s_StateOk_l0 y0 y1 y2 = (cond ((decide (y2 < (List.length y1 : Int)))) (if (0 : Int) ≤ y2 ∧ y2 < (List.length y1 : Int) then (cond ((decide ((List.getD y1 (y2 : Int).toNat 0) < 0))) (some false) (if (0 : Int) ≤ y2 ∧ y2 < (List.length y1 : Int) then (cond ((decide (y0 ≤ (List.getD y1 (y2 : Int).toNat 0)))) (some false) (s_StateOk_l0 y0 y1 (IntKind.i64.wrap (y2 + 1)))) else none)) else none) (s_StateOk_j1 y0 y1)) := by
  refine (loopK_eq Tryz.prog (s_StateOk_E) (sub (Tryz.f127.body.getD .skip) [1, 0, 1, 0, 0]) _ _).trans ?_
  kernel_rfl
theorem s_StateOk_j1_eq (y0 : Int) (y1 : List (Int)) : s_StateOk_j1 y0 y1 = (Option.bind (s_l1In_f (y0, 3, 5)) fun r1 => (cond (r1) (Option.bind (s_l1In_f ((List.length y1 : Int), 1, 6)) fun r2 => (some r2)) (some false))) := by
  kernel_rfl
theorem s_StateOk_ent : Entb Tryz.prog 127 := ⟨Tryz.f127, by kernel_rfl, by kernel_rfl, by kernel_rfl⟩
theorem s_StateOk_ok : CtrOk Tryz.prog 127 ⟨s_StateOk_sig, s_StateOk_f⟩ :=
  ctr_of (fn := Tryz.f127) (by kernel_rfl) (by kernel_rfl) (fun x : Ts s_StateOk_sig.pc => s_StateOk_E) (fun x => ⟨(fn_cons ⟨s_l1In_ok, s_l1In_ent⟩ fn_none), clo_none, wr_none⟩) (fun h => by cases h) follows_ (fun _ _ => trivial)
end FN

set_option linter.unusedVariables false
namespace FN
open Go Go.Proofs
/-! loop.example/firingnets/spec.l3Ok -/
@[reducible] def s_l3Ok_sig : Sig := { ps := [none, none, none], pc := [.view .i64, .int .i64, .view .i64], rs := [none], rc := [.bool] }
noncomputable def s_l3Ok_E : Env' := { fn := fun f => if f = 127 then some ⟨s_StateOk_sig, s_StateOk_f⟩ else if f = 128 then some ⟨s_NetOk_sig, s_NetOk_f⟩ else none, ck := ckT, cuts := [], mine := fun i => false }
noncomputable def s_l3Ok_f (x : Ts s_l3Ok_sig.pc) : Option (Ts s_l3Ok_sig.rc) := runFn Tryz.prog (s_l3Ok_E) Tryz.f100 s_l3Ok_sig x
theorem s_l3Ok_f_eq (x0 : (List (Int))) (x1 : (Int)) (x2 : (List (Int))) : s_l3Ok_f (x0, x1, x2) = (Option.bind (s_NetOk_f x0) fun r1 => (cond (r1) (Option.bind (s_StateOk_f (x1, x2)) fun r2 => (cond (r2) (some ((List.length x2 : Int) == (List.length x0 : Int))) (some false))) (some false))) := by
  kernel_rfl
theorem s_l3Ok_ent : Entb Tryz.prog 100 := ⟨Tryz.f100, by kernel_rfl, by kernel_rfl, by kernel_rfl⟩
theorem s_l3Ok_ok : CtrOk Tryz.prog 100 ⟨s_l3Ok_sig, s_l3Ok_f⟩ :=
  ctr_of (fn := Tryz.f100) (by kernel_rfl) (by kernel_rfl) (fun x : Ts s_l3Ok_sig.pc => s_l3Ok_E) (fun x => ⟨(fn_cons ⟨s_StateOk_ok, s_StateOk_ent⟩ (fn_cons ⟨s_NetOk_ok, s_NetOk_ent⟩ fn_none)), clo_none, wr_none⟩) (fun h => by cases h) follows_ (fun _ _ => trivial)
end FN

set_option linter.unusedVariables false
namespace FN
open Go Go.Proofs
/-! loop.example/firingnets/spec.PlaceOk -/
@[reducible] def s_PlaceOk_sig : Sig := { ps := [some 3], pc := [.view .i64, .int .i64, .view .i64], rs := [none], rc := [.bool] }
noncomputable def s_PlaceOk_E : Env' := { fn := fun f => if f = 100 then some ⟨s_l3Ok_sig, s_l3Ok_f⟩ else none, ck := ckT, cuts := [], mine := fun i => false }
noncomputable def s_PlaceOk_f (x : Ts s_PlaceOk_sig.pc) : Option (Ts s_PlaceOk_sig.rc) := runFn Tryz.prog (s_PlaceOk_E) Tryz.f42 s_PlaceOk_sig x
theorem s_PlaceOk_f_eq (x0 : (List (Int))) (x1 : (Int)) (x2 : (List (Int))) : s_PlaceOk_f (x0, x1, x2) = (Option.bind (s_l3Ok_f (x0, x1, x2)) fun r1 => (some r1)) := by
  kernel_rfl
theorem s_PlaceOk_ent : Entb Tryz.prog 42 := ⟨Tryz.f42, by kernel_rfl, by kernel_rfl, by kernel_rfl⟩
theorem s_PlaceOk_ok : CtrOk Tryz.prog 42 ⟨s_PlaceOk_sig, s_PlaceOk_f⟩ :=
  ctr_of (fn := Tryz.f42) (by kernel_rfl) (by kernel_rfl) (fun x : Ts s_PlaceOk_sig.pc => s_PlaceOk_E) (fun x => ⟨(fn_cons ⟨s_l3Ok_ok, s_l3Ok_ent⟩ fn_none), clo_none, wr_none⟩) (fun h => by cases h) follows_ (fun _ _ => trivial)
end FN

set_option linter.unusedVariables false
namespace FN
open Go Go.Proofs
/-! loop.example/firingnets/spec.PlaceText -/
@[reducible] def s_PlaceText_sig : Sig := { ps := [some 3], pc := [.view .i64, .int .i64, .view .i64], rs := [none], rc := [.str] }
noncomputable def s_PlaceText_E : Env' := { fn := fun f => if f = 42 then some ⟨s_PlaceOk_sig, s_PlaceOk_f⟩ else if f = 64 then some ⟨s_l1Number_sig, s_l1Number_f⟩ else none, ck := ckT, cuts := [(6, [1, 3, 4, 5]), (10, [1, 3, 4, 5, 6]), (15, [1, 3, 4, 5, 6]), (16, [1, 3, 4]), (18, [1, 3, 4])], mine := fun i => false }
noncomputable def s_PlaceText_f (x : Ts s_PlaceText_sig.pc) : Option (Ts s_PlaceText_sig.rc) := runFn Tryz.prog (s_PlaceText_E) Tryz.f89 s_PlaceText_sig x
noncomputable def s_PlaceText_l0 (y0 : ByteArray) (y1 : ByteArray) (y2 : Int) (y3 : List (Int)) (y4 : Int) (y5 : List (Int)) : Option ((ByteArray)) := from_ Tryz.prog (s_PlaceText_E) Tryz.f89 s_PlaceText_sig [1, 1, 1, 1, 0, 1, 0] ⟨mkT 71 [(1, .ptr 0 0), (3, .str y0), (4, .str y1), (5, .int .i64 y2)], [some (.box 25 [.row false .i64 y3, .int .i64 y4, .row false .i64 y5])]⟩
noncomputable def s_PlaceText_l1 (y0 : ByteArray) (y1 : ByteArray) (y2 : Int) (y3 : Int) (y4 : List (Int)) (y5 : Int) (y6 : List (Int)) : Option ((ByteArray)) := from_ Tryz.prog (s_PlaceText_E) Tryz.f89 s_PlaceText_sig [1, 1, 1, 1, 0, 1, 0, 0, 1, 0, 0, 1, 1, 0] ⟨mkT 71 [(1, .ptr 0 0), (3, .str y0), (4, .str y1), (5, .int .i64 y2), (6, .int .i64 y3)], [some (.box 25 [.row false .i64 y4, .int .i64 y5, .row false .i64 y6])]⟩
noncomputable def s_PlaceText_j2 (y0 : ByteArray) (y1 : ByteArray) (y2 : List (Int)) (y3 : Int) (y4 : List (Int)) : Option ((ByteArray)) := from_ Tryz.prog (s_PlaceText_E) Tryz.f89 s_PlaceText_sig [1, 1, 1, 1, 1] ⟨mkT 71 [(1, .ptr 0 0), (3, .str y0), (4, .str y1)], [some (.box 25 [.row false .i64 y2, .int .i64 y3, .row false .i64 y4])]⟩
noncomputable def s_PlaceText_j3 (y0 : ByteArray) (y1 : ByteArray) (y2 : Int) (y3 : Int) (y4 : List (Int)) (y5 : Int) (y6 : List (Int)) : Option ((ByteArray)) := from_ Tryz.prog (s_PlaceText_E) Tryz.f89 s_PlaceText_sig [1, 1, 1, 1, 0, 1, 0, 0, 1, 0, 0, 1, 1, 0, 0, 1, 0, 0, 1, 1] ⟨mkT 71 [(1, .ptr 0 0), (3, .str y0), (4, .str y1), (5, .int .i64 y2), (6, .int .i64 y3)], [some (.box 25 [.row false .i64 y4, .int .i64 y5, .row false .i64 y6])]⟩
noncomputable def s_PlaceText_j4 (y0 : ByteArray) (y1 : ByteArray) (y2 : List (Int)) (y3 : Int) (y4 : List (Int)) : Option ((ByteArray)) := from_ Tryz.prog (s_PlaceText_E) Tryz.f89 s_PlaceText_sig [1, 1, 1, 1, 1, 1] ⟨mkT 71 [(1, .ptr 0 0), (3, .str y0), (4, .str y1)], [some (.box 25 [.row false .i64 y2, .int .i64 y3, .row false .i64 y4])]⟩
theorem s_PlaceText_f_eq (x0 : (List (Int))) (x1 : (Int)) (x2 : (List (Int))) : s_PlaceText_f (x0, x1, x2) = (Option.bind (s_PlaceOk_f (x0, x1, x2)) fun r1 => (cond ((!r1)) (some ByteArray.empty) (s_PlaceText_l0 ByteArray.empty ByteArray.empty 0 x0 x1 x2))) := by
  kernel_rfl
theorem s_PlaceText_l0_eq (y0 : ByteArray) (y1 : ByteArray) (y2 : Int) (y3 : List (Int)) (y4 : Int) (y5 : List (Int)) : s_PlaceText_l0 y0 y1 y2 y3 y4 y5 = (cond ((decide (y2 < (List.length y3 : Int)))) (if (0 : Int) ≤ y2 ∧ y2 < (List.length y5 : Int) then (Option.bind (s_l1Number_f (List.getD y5 (y2 : Int).toNat 0)) fun r1 => (if ByteArray.size y1 + ByteArray.size r1 ≤ 9223372036854775807 then (s_PlaceText_l1 y0 (y1 ++ r1) y2 (IntKind.i64.wrap (y2 + 1)) y3 y4 y5) else none)) else none) (s_PlaceText_j2 y0 y1 y3 y4 y5)) := by
  refine (loopK_eq Tryz.prog (s_PlaceText_E) (sub (Tryz.f89.body.getD .skip) [1, 1, 1, 1, 0, 1, 0, 0]) _ _).trans ?_
  kernel_rfl
theorem s_PlaceText_l1_eq (y0 : ByteArray) (y1 : ByteArray) (y2 : Int) (y3 : Int) (y4 : List (Int)) (y5 : Int) (y6 : List (Int)) : s_PlaceText_l1 y0 y1 y2 y3 y4 y5 y6 = (cond ((decide (y3 < (List.length y4 : Int)))) (if (0 : Int) ≤ y2 ∧ y2 < (List.length y4 : Int) then (if y3 < 0 then none else (cond (((Int.tmod (Int.fdiv (List.getD y4 (y2 : Int).toNat 0) (2 ^ min (y3 : Int).toNat IntKind.i64.bits)) 2) == 0)) (s_PlaceText_l1 y0 y1 y2 (IntKind.i64.wrap (y3 + 1)) y4 y5 y6) (cond ((!(ByteArray.toList y0 == ByteArray.toList ByteArray.empty))) (if ByteArray.size y0 + ByteArray.size str14 ≤ 9223372036854775807 then (s_PlaceText_j3 (y0 ++ str14) y1 y2 y3 y4 y5 y6) else none) (s_PlaceText_j3 y0 y1 y2 y3 y4 y5 y6)))) else none) (s_PlaceText_l0 y0 y1 (IntKind.i64.wrap (y2 + 1)) y4 y5 y6)) := by
  refine (loopK_eq Tryz.prog (s_PlaceText_E) (sub (Tryz.f89.body.getD .skip) [1, 1, 1, 1, 0, 1, 0, 0, 1, 0, 0, 1, 1, 0, 0]) _ _).trans ?_
  kernel_rfl
theorem s_PlaceText_j2_eq (y0 : ByteArray) (y1 : ByteArray) (y2 : List (Int)) (y3 : Int) (y4 : List (Int)) : s_PlaceText_j2 y0 y1 y2 y3 y4 = (cond ((ByteArray.toList y0 == ByteArray.toList ByteArray.empty)) (s_PlaceText_j4 str15 y1 y2 y3 y4) (s_PlaceText_j4 y0 y1 y2 y3 y4)) := by
  kernel_rfl
theorem s_PlaceText_j3_eq (y0 : ByteArray) (y1 : ByteArray) (y2 : Int) (y3 : Int) (y4 : List (Int)) (y5 : Int) (y6 : List (Int)) : s_PlaceText_j3 y0 y1 y2 y3 y4 y5 y6 = (Option.bind (s_l1Number_f y2) fun r1 => (if ByteArray.size y0 + ByteArray.size r1 ≤ 9223372036854775807 then (Option.bind (s_l1Number_f y3) fun r2 => (if ByteArray.size (y0 ++ r1) + ByteArray.size r2 ≤ 9223372036854775807 then (s_PlaceText_l1 ((y0 ++ r1) ++ r2) y1 y2 (IntKind.i64.wrap (y3 + 1)) y4 y5 y6) else none)) else none)) := by
  kernel_rfl
theorem s_PlaceText_j4_eq (y0 : ByteArray) (y1 : ByteArray) (y2 : List (Int)) (y3 : Int) (y4 : List (Int)) : s_PlaceText_j4 y0 y1 y2 y3 y4 = (Option.bind (s_l1Number_f (List.length y2 : Int)) fun r1 => (if ByteArray.size r1 + ByteArray.size str1 ≤ 9223372036854775807 then (if ByteArray.size (r1 ++ str1) + ByteArray.size y0 ≤ 9223372036854775807 then (if ByteArray.size ((r1 ++ str1) ++ y0) + ByteArray.size str1 ≤ 9223372036854775807 then (Option.bind (s_l1Number_f y3) fun r2 => (if ByteArray.size (((r1 ++ str1) ++ y0) ++ str1) + ByteArray.size r2 ≤ 9223372036854775807 then (if ByteArray.size ((((r1 ++ str1) ++ y0) ++ str1) ++ r2) + ByteArray.size str1 ≤ 9223372036854775807 then (if ByteArray.size (((((r1 ++ str1) ++ y0) ++ str1) ++ r2) ++ str1) + ByteArray.size y1 ≤ 9223372036854775807 then (some ((((((r1 ++ str1) ++ y0) ++ str1) ++ r2) ++ str1) ++ y1)) else none) else none) else none)) else none) else none) else none)) := by
  kernel_rfl
theorem s_PlaceText_ent : Entb Tryz.prog 89 := ⟨Tryz.f89, by kernel_rfl, by kernel_rfl, by kernel_rfl⟩
theorem s_PlaceText_ok : CtrOk Tryz.prog 89 ⟨s_PlaceText_sig, s_PlaceText_f⟩ :=
  ctr_of (fn := Tryz.f89) (by kernel_rfl) (by kernel_rfl) (fun x : Ts s_PlaceText_sig.pc => s_PlaceText_E) (fun x => ⟨(fn_cons ⟨s_PlaceOk_ok, s_PlaceOk_ent⟩ (fn_cons ⟨s_l1Number_ok, s_l1Number_ent⟩ fn_none)), clo_none, wr_none⟩) (fun h => by cases h) follows_ (fun _ _ => trivial)
end FN

