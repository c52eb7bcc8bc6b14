/- Texts of the proof, joined: parts -/
import Derived.Test.YtbkndbgonbadaaaGreatDoorJ5
import Derived.Test.YtbkndbgonbadaaaGreatDoorJ10
import Derived.Test.YtbkndbgonbadaaaGreatDoorJ11
import Derived.Test.YtbkndbgonbadaaaGreatDoorJ2
import Derived.Test.YtbkndbgonbadaaaGreatDoorJ9
import Derived.Test.YtbkndbgonbadaaaGreatDoorJ7
import Derived.Test.YtbkndbgonbadaaaGreatDoorJ0
import Derived.Test.YtbkndbgonbadaaaGreatDoorJ1
set_option linter.unusedVariables false
set_option linter.unusedSimpArgs false
set_option linter.unusedSectionVars false
set_option linter.unusedVariables false
namespace FN
open Go Go.Proofs
/-! loop.example/firingnets/impl.answer -/
@[reducible] def i_answer_sig : Sig := { ps := [some 3, none], pc := [.view .i64, .int .i64, .view .i64, .str], rs := [none], rc := [.str] }
noncomputable def i_answer_E : Env' := { fn := fun f => if f = 59 then some ⟨i_PlaceText_sig, i_PlaceText_f⟩ else if f = 72 then some ⟨i_EndsAt_sig, i_EndsAt_f⟩ else if f = 73 then some ⟨x_strconv_ItoaG_sig, x_strconv_ItoaG_f⟩ else if f = 74 then some ⟨i_LoopOf_sig, i_LoopOf_f⟩ else if f = 75 then some ⟨i_rowText_sig, i_rowText_f⟩ else if f = 76 then some ⟨i_CountsOf_sig, i_CountsOf_f⟩ else if f = 77 then some ⟨i_PartsOf_sig, i_PartsOf_f⟩ else if f = 78 then some ⟨i_FlatOk_sig, i_FlatOk_f⟩ else if f = 79 then some ⟨i_HeightRow_sig, i_HeightRow_f⟩ else if f = 80 then some ⟨x_strings_Cut_sig, x_strings_Cut_f⟩ else if f = 81 then some ⟨i_numberOf_sig, i_numberOf_f⟩ else if f = 82 then some ⟨i_FiredRow_sig, i_FiredRow_f⟩ else if f = 83 then some ⟨i_TurnedRow_sig, i_TurnedRow_f⟩ else if f = 84 then some ⟨i_DistancesFrom_sig, i_DistancesFrom_f⟩ else none, ck := ckT, cuts := [(28, [1, 2, 5])], mine := fun i => false }
noncomputable def i_answer_f (x : Ts i_answer_sig.pc) : Option (Ts i_answer_sig.rc) := runFn Tryz.prog (i_answer_E) Tryz.f37 i_answer_sig x
noncomputable def i_answer_j0 (y0 : ByteArray) (y1 : Bool) (y2 : List (Int)) (y3 : Int) (y4 : List (Int)) : Option ((ByteArray)) := from_ Tryz.prog (i_answer_E) Tryz.f37 i_answer_sig [1, 1, 1] ⟨mkT 141 [(1, .str y0), (2, .ptr 0 0), (5, .bool y1)], [some (.box 25 [.row false .i64 y2, .int .i64 y3, .row false .i64 y4])]⟩
theorem i_answer_f_eq (x0 : (List (Int))) (x1 : (Int)) (x2 : (List (Int))) (x3 : (ByteArray)) : i_answer_f (x0, x1, x2, x3) = (cond ((ByteArray.toList x3 == ByteArray.toList str16)) (Option.bind (i_PlaceText_f (x0, x1, x2)) fun r1 => (some r1)) (cond ((ByteArray.toList x3 == ByteArray.toList str17)) (Option.bind (i_EndsAt_f (x0, x1, x2)) fun r2 => (cond ((decide (r2 < 0))) (some str41) (Option.bind (x_strconv_ItoaG_f r2) fun r3 => (some r3)))) (cond ((ByteArray.toList x3 == ByteArray.toList str18)) (Option.bind (i_LoopOf_f (x0, x1, x2)) fun r4 => (Option.bind (i_rowText_f ([r4.1, r4.2] : List (Int))) fun r5 => (some r5))) (cond ((ByteArray.toList x3 == ByteArray.toList str19)) (Option.bind (i_CountsOf_f (x1, x2)) fun r6 => (Option.bind (i_rowText_f r6) fun r7 => (some r7))) (cond ((ByteArray.toList x3 == ByteArray.toList str20)) (Option.bind (i_PartsOf_f x0) fun r8 => (Option.bind (i_rowText_f r8) fun r9 => (some r9))) (cond ((ByteArray.toList x3 == ByteArray.toList str21)) (cond ((!(x1 == 3))) (some str40) (Option.bind (i_FlatOk_f (x0, x2)) fun r10 => (cond (r10) (some str42) (some str43)))) (cond ((ByteArray.toList x3 == ByteArray.toList str22)) (cond ((!(x1 == 3))) (some str40) (Option.bind (i_HeightRow_f (x0, x2)) fun r11 => (Option.bind (i_rowText_f r11.1) fun r12 => (some r12)))) (i_answer_j0 x3 (x1 == 3) x0 x1 x2)))))))) := by
  kernel_rfl
theorem i_answer_j0_eq (y0 : ByteArray) (y1 : Bool) (y2 : List (Int)) (y3 : Int) (y4 : List (Int)) : i_answer_j0 y0 y1 y2 y3 y4 = (Option.bind (x_strings_Cut_f (y0, str1)) fun r1 => (Option.bind (i_numberOf_f r1.2.1) fun r2 => (cond ((!r2.2)) (some str44) (cond ((ByteArray.toList r1.1 == ByteArray.toList str28)) (Option.bind (i_FiredRow_f (y2, y3, y4, r2.1)) fun r3 => (Option.bind (i_rowText_f r3) fun r4 => (some r4))) (cond ((ByteArray.toList r1.1 == ByteArray.toList str45)) (cond ((!y1)) (some str40) (Option.bind (i_TurnedRow_f (y2, y4, r2.1)) fun r5 => (Option.bind (i_rowText_f r5) fun r6 => (some r6)))) (cond ((ByteArray.toList r1.1 == ByteArray.toList str33)) (cond ((decide ((List.length y2 : Int) ≤ r2.1))) (some str40) (if r2.1 < 0 then none else (Option.bind (i_DistancesFrom_f (y2, (IntKind.i64.wrap (1 * 2 ^ min (r2.1 : Int).toNat IntKind.i64.bits)))) fun r7 => (Option.bind (i_rowText_f r7) fun r8 => (some r8))))) (some str44))))))) := by
  kernel_rfl
theorem i_answer_ent : Entb Tryz.prog 37 := ⟨Tryz.f37, by kernel_rfl, by kernel_rfl, by kernel_rfl⟩
theorem i_answer_ok : CtrOk Tryz.prog 37 ⟨i_answer_sig, i_answer_f⟩ :=
  ctr_of (fn := Tryz.f37) (by kernel_rfl) (by kernel_rfl) (fun x : Ts i_answer_sig.pc => i_answer_E) (fun x => ⟨(fn_cons ⟨i_PlaceText_ok, i_PlaceText_ent⟩ (fn_cons ⟨i_EndsAt_ok, i_EndsAt_ent⟩ (fn_cons ⟨x_strconv_ItoaG_ok, x_strconv_ItoaG_ent⟩ (fn_cons ⟨i_LoopOf_ok, i_LoopOf_ent⟩ (fn_cons ⟨i_rowText_ok, i_rowText_ent⟩ (fn_cons ⟨i_CountsOf_ok, i_CountsOf_ent⟩ (fn_cons ⟨i_PartsOf_ok, i_PartsOf_ent⟩ (fn_cons ⟨i_FlatOk_ok, i_FlatOk_ent⟩ (fn_cons ⟨i_HeightRow_ok, i_HeightRow_ent⟩ (fn_cons ⟨x_strings_Cut_ok, x_strings_Cut_ent⟩ (fn_cons ⟨i_numberOf_ok, i_numberOf_ent⟩ (fn_cons ⟨i_FiredRow_ok, i_FiredRow_ent⟩ (fn_cons ⟨i_TurnedRow_ok, i_TurnedRow_ent⟩ (fn_cons ⟨i_DistancesFrom_ok, i_DistancesFrom_ent⟩ fn_none)))))))))))))), clo_none, wr_none⟩) (fun h => by cases h) follows_ (fun _ _ => trivial)
end FN

set_option linter.unusedVariables false
namespace FN
open Go Go.Proofs
/-! loop.example/firingnets/spec.l15Answer -/
@[reducible] def s_l15Answer_sig : Sig := { ps := [some 3, none], pc := [.view .i64, .int .i64, .view .i64, .str], rs := [none], rc := [.str] }
noncomputable def s_l15Answer_E : Env' := { fn := fun f => if f = 64 then some ⟨s_l1Number_sig, s_l1Number_f⟩ else if f = 86 then some ⟨s_l1Cut_sig, s_l1Cut_f⟩ else if f = 87 then some ⟨s_l1Digits_sig, s_l1Digits_f⟩ else if f = 89 then some ⟨s_PlaceText_sig, s_PlaceText_f⟩ else if f = 90 then some ⟨s_EndsAt_sig, s_EndsAt_f⟩ else if f = 91 then some ⟨s_LoopOf_sig, s_LoopOf_f⟩ else if f = 92 then some ⟨s_l15Row_sig, s_l15Row_f⟩ else if f = 93 then some ⟨s_CountsOf_sig, s_CountsOf_f⟩ else if f = 94 then some ⟨s_PartsOf_sig, s_PartsOf_f⟩ else if f = 95 then some ⟨s_FlatOk_sig, s_FlatOk_f⟩ else if f = 96 then some ⟨s_HeightRow_sig, s_HeightRow_f⟩ else if f = 97 then some ⟨s_FiredRow_sig, s_FiredRow_f⟩ else if f = 98 then some ⟨s_TurnedRow_sig, s_TurnedRow_f⟩ else if f = 99 then some ⟨s_DistancesFrom_sig, s_DistancesFrom_f⟩ else none, ck := ckT, cuts := [(27, [1, 2])], mine := fun i => false }
noncomputable def s_l15Answer_f (x : Ts s_l15Answer_sig.pc) : Option (Ts s_l15Answer_sig.rc) := runFn Tryz.prog (s_l15Answer_E) Tryz.f41 s_l15Answer_sig x
noncomputable def s_l15Answer_j0 (y0 : ByteArray) (y1 : List (Int)) (y2 : Int) (y3 : List (Int)) : Option ((ByteArray)) := from_ Tryz.prog (s_l15Answer_E) Tryz.f41 s_l15Answer_sig [1, 1] ⟨mkT 142 [(1, .str y0), (2, .ptr 0 0)], [some (.box 25 [.row false .i64 y1, .int .i64 y2, .row false .i64 y3])]⟩
theorem s_l15Answer_f_eq (x0 : (List (Int))) (x1 : (Int)) (x2 : (List (Int))) (x3 : (ByteArray)) : s_l15Answer_f (x0, x1, x2, x3) = (cond ((ByteArray.toList x3 == ByteArray.toList str16)) (Option.bind (s_PlaceText_f (x0, x1, x2)) fun r1 => (some r1)) (cond ((ByteArray.toList x3 == ByteArray.toList str17)) (Option.bind (s_EndsAt_f (x0, x1, x2)) fun r2 => (cond ((decide (r2 < 0))) (some str41) (Option.bind (s_l1Number_f r2) fun r3 => (some r3)))) (cond ((ByteArray.toList x3 == ByteArray.toList str18)) (Option.bind (s_LoopOf_f (x0, x1, x2)) fun r4 => (Option.bind (s_l1Number_f r4.1) fun r5 => (if ByteArray.size r5 + ByteArray.size str14 ≤ 9223372036854775807 then (Option.bind (s_l1Number_f r4.2) fun r6 => (if ByteArray.size (r5 ++ str14) + ByteArray.size r6 ≤ 9223372036854775807 then (some ((r5 ++ str14) ++ r6)) else none)) else none))) (cond ((ByteArray.toList x3 == ByteArray.toList str19)) (Option.bind (s_CountsOf_f (x1, x2)) fun r7 => (Option.bind (s_l15Row_f r7) fun r8 => (some r8))) (cond ((ByteArray.toList x3 == ByteArray.toList str20)) (Option.bind (s_PartsOf_f x0) fun r9 => (Option.bind (s_l15Row_f r9) fun r10 => (some r10))) (cond ((ByteArray.toList x3 == ByteArray.toList str21)) (cond ((x1 != 3)) (some str40) (Option.bind (s_FlatOk_f (x0, x2)) fun r11 => (cond (r11) (some str42) (some str43)))) (cond ((ByteArray.toList x3 == ByteArray.toList str22)) (cond ((x1 != 3)) (some str40) (Option.bind (s_HeightRow_f (x0, x2)) fun r12 => (Option.bind (s_l15Row_f r12.1) fun r13 => (some r13)))) (s_l15Answer_j0 x3 x0 x1 x2)))))))) := by
  kernel_rfl
theorem s_l15Answer_j0_eq (y0 : ByteArray) (y1 : List (Int)) (y2 : Int) (y3 : List (Int)) : s_l15Answer_j0 y0 y1 y2 y3 = (Option.bind (s_l1Cut_f (y0, 32)) fun r1 => (cond (((List.length r1 : Int) != 2)) (some str44) (if (0 : Int) ≤ 1 ∧ 1 < (List.length r1 : Int) then (Option.bind (s_l1Digits_f (List.getD r1 (1 : Int).toNat ByteArray.empty)) fun r2 => (cond ((decide (r2 < 0))) (some str44) (if (0 : Int) ≤ 1 ∧ 1 < (List.length r1 : Int) then (Option.bind (s_l1Digits_f (List.getD r1 (1 : Int).toNat ByteArray.empty)) fun r3 => (if (0 : Int) ≤ 0 ∧ 0 < (List.length r1 : Int) then (cond ((ByteArray.toList (List.getD r1 (0 : Int).toNat ByteArray.empty) == ByteArray.toList str28)) (Option.bind (s_FiredRow_f (y1, y2, y3, r3)) fun r4 => (Option.bind (s_l15Row_f r4) fun r5 => (some r5))) (cond ((ByteArray.toList (List.getD r1 (0 : Int).toNat ByteArray.empty) == ByteArray.toList str45)) (cond ((y2 != 3)) (some str40) (Option.bind (s_TurnedRow_f (y1, y3, r3)) fun r6 => (Option.bind (s_l15Row_f r6) fun r7 => (some r7)))) (cond ((ByteArray.toList (List.getD r1 (0 : Int).toNat ByteArray.empty) == ByteArray.toList str33)) (cond ((decide ((List.length y1 : Int) ≤ r3))) (some str40) (if r3 < 0 then none else (Option.bind (s_DistancesFrom_f (y1, (IntKind.i64.wrap (1 * 2 ^ min (r3 : Int).toNat IntKind.i64.bits)))) fun r8 => (Option.bind (s_l15Row_f r8) fun r9 => (some r9))))) (some str44)))) else none)) else none))) else none))) := by
  kernel_rfl
theorem s_l15Answer_ent : Entb Tryz.prog 41 := ⟨Tryz.f41, by kernel_rfl, by kernel_rfl, by kernel_rfl⟩
theorem s_l15Answer_ok : CtrOk Tryz.prog 41 ⟨s_l15Answer_sig, s_l15Answer_f⟩ :=
  ctr_of (fn := Tryz.f41) (by kernel_rfl) (by kernel_rfl) (fun x : Ts s_l15Answer_sig.pc => s_l15Answer_E) (fun x => ⟨(fn_cons ⟨s_l1Number_ok, s_l1Number_ent⟩ (fn_cons ⟨s_l1Cut_ok, s_l1Cut_ent⟩ (fn_cons ⟨s_l1Digits_ok, s_l1Digits_ent⟩ (fn_cons ⟨s_PlaceText_ok, s_PlaceText_ent⟩ (fn_cons ⟨s_EndsAt_ok, s_EndsAt_ent⟩ (fn_cons ⟨s_LoopOf_ok, s_LoopOf_ent⟩ (fn_cons ⟨s_l15Row_ok, s_l15Row_ent⟩ (fn_cons ⟨s_CountsOf_ok, s_CountsOf_ent⟩ (fn_cons ⟨s_PartsOf_ok, s_PartsOf_ent⟩ (fn_cons ⟨s_FlatOk_ok, s_FlatOk_ent⟩ (fn_cons ⟨s_HeightRow_ok, s_HeightRow_ent⟩ (fn_cons ⟨s_FiredRow_ok, s_FiredRow_ent⟩ (fn_cons ⟨s_TurnedRow_ok, s_TurnedRow_ent⟩ (fn_cons ⟨s_DistancesFrom_ok, s_DistancesFrom_ent⟩ fn_none)))))))))))))), clo_none, wr_none⟩) (fun h => by cases h) follows_ (fun _ _ => trivial)
end FN

set_option linter.unusedVariables false
namespace FN
open Go Go.Proofs
/-! loop.example/firingnets/impl.DeskOk -/
@[reducible] def i_DeskOk_sig : Sig := { ps := [some 4], pc := [.view .i64, .int .i64, .view .i64, .view .place], rs := [none], rc := [.bool] }
noncomputable def i_DeskOk_E : Env' := { fn := fun f => if f = 44 then some ⟨i_PlaceOk_sig, i_PlaceOk_f⟩ else none, ck := ckT, cuts := [(2, [1, 6, 7, 8]), (7, [1])], mine := fun i => false }
noncomputable def i_DeskOk_f (x : Ts i_DeskOk_sig.pc) : Option (Ts i_DeskOk_sig.rc) := runFn Tryz.prog (i_DeskOk_E) Tryz.f14 i_DeskOk_sig x
noncomputable def i_DeskOk_l0 (y0 : List (List Int × Int × List Int)) (y1 : Int) (y2 : Int) (y3 : List (Int)) (y4 : Int) (y5 : List (Int)) (y6 : List (List Int × Int × List Int)) : Option ((Bool)) := from_ Tryz.prog (i_DeskOk_E) Tryz.f14 i_DeskOk_sig [1, 0, 1, 0] ⟨mkT 25 [(1, .ptr 0 0), (6, .row false .place y0), (7, .int .i64 y1), (8, .int .i64 y2)], [some (.box 28 [.row false .i64 y3, .int .i64 y4, .row false .i64 y5, .row false .place y6])]⟩
noncomputable def i_DeskOk_j1 (y0 : List (Int)) (y1 : Int) (y2 : List (Int)) (y3 : List (List Int × Int × List Int)) : Option ((Bool)) := from_ Tryz.prog (i_DeskOk_E) Tryz.f14 i_DeskOk_sig [1, 1] ⟨mkT 25 [(1, .ptr 0 0)], [some (.box 28 [.row false .i64 y0, .int .i64 y1, .row false .i64 y2, .row false .place y3])]⟩
theorem i_DeskOk_f_eq (x0 : (List (Int))) (x1 : (Int)) (x2 : (List (Int))) (x3 : (List (List Int × Int × List Int))) : i_DeskOk_f (x0, x1, x2, x3) = (i_DeskOk_l0 x3 (List.length x3 : Int) 0 x0 x1 x2 x3) := by
  kernel_rfl
theorem i_DeskOk_l0_eq (y0 : List (List Int × Int × List Int)) (y1 : Int) (y2 : Int) (y3 : List (Int)) (y4 : Int) (y5 : List (Int)) (y6 : List (List Int × Int × List Int)) : i_DeskOk_l0 y0 y1 y2 y3 y4 y5 y6 = (cond ((decide (y2 < y1))) (if (0 : Int) ≤ y2 ∧ y2 < (List.length y0 : Int) then (Option.bind (i_PlaceOk_f ((List.getD y0 (y2 : Int).toNat ([], 0, [])).1, (List.getD y0 (y2 : Int).toNat ([], 0, [])).2.1, (List.getD y0 (y2 : Int).toNat ([], 0, [])).2.2)) fun r1 => (cond ((!r1)) (some false) (i_DeskOk_l0 y0 y1 (IntKind.i64.wrap (y2 + 1)) y3 y4 y5 y6))) else none) (i_DeskOk_j1 y3 y4 y5 y6)) := by
  refine (loopK_eq Tryz.prog (i_DeskOk_E) (sub (Tryz.f14.body.getD .skip) [1, 0, 1, 0, 0]) _ _).trans ?_
  kernel_rfl
theorem i_DeskOk_j1_eq (y0 : List (Int)) (y1 : Int) (y2 : List (Int)) (y3 : List (List Int × Int × List Int)) : i_DeskOk_j1 y0 y1 y2 y3 = (Option.bind (i_PlaceOk_f (y0, y1, y2)) fun r1 => (cond (r1) (some (decide ((List.length y3 : Int) ≤ 8))) (some false))) := by
  kernel_rfl
theorem i_DeskOk_ent : Entb Tryz.prog 14 := ⟨Tryz.f14, by kernel_rfl, by kernel_rfl, by kernel_rfl⟩
theorem i_DeskOk_ok : CtrOk Tryz.prog 14 ⟨i_DeskOk_sig, i_DeskOk_f⟩ :=
  ctr_of (fn := Tryz.f14) (by kernel_rfl) (by kernel_rfl) (fun x : Ts i_DeskOk_sig.pc => i_DeskOk_E) (fun x => ⟨(fn_cons ⟨i_PlaceOk_ok, i_PlaceOk_ent⟩ fn_none), clo_none, wr_none⟩) (fun h => by cases h) follows_ (fun _ _ => trivial)
end FN

set_option linter.unusedVariables false
namespace FN
open Go Go.Proofs
/-! loop.example/firingnets/impl.copyPlace -/
@[reducible] def i_copyPlace_sig : Sig := { ps := [some 3], pc := [.view .i64, .int .i64, .view .i64], rs := [some 3], rc := [.row 3 .i64, .int .i64, .row 3 .i64] }
noncomputable def i_copyPlace_E : Env' := { fn := fun f => if f = 114 then some ⟨x_slices_Clone_int_int_sig, x_slices_Clone_int_int_f⟩ else none, ck := ckT, cuts := [], mine := fun i => i == 5 || i == 10 }
noncomputable def i_copyPlace_f (x : Ts i_copyPlace_sig.pc) : Option (Ts i_copyPlace_sig.rc) := runFn Tryz.prog (i_copyPlace_E) Tryz.f71 i_copyPlace_sig x
theorem i_copyPlace_f_eq (x0 : (List (Int))) (x1 : (Int)) (x2 : (List (Int))) : i_copyPlace_f (x0, x1, x2) = (Option.bind (x_slices_Clone_int_int_f x0) fun r1 => (Option.bind (x_slices_Clone_int_int_f x2) fun r2 => (some (r1, x1, r2)))) := by
  kernel_rfl
theorem i_copyPlace_ent : Entb Tryz.prog 71 := ⟨Tryz.f71, by kernel_rfl, by kernel_rfl, by kernel_rfl⟩
theorem i_copyPlace_ok : CtrOk Tryz.prog 71 ⟨i_copyPlace_sig, i_copyPlace_f⟩ :=
  ctr_of (fn := Tryz.f71) (by kernel_rfl) (by kernel_rfl) (fun x : Ts i_copyPlace_sig.pc => i_copyPlace_E) (fun x => ⟨(fn_cons ⟨x_slices_Clone_int_int_ok, x_slices_Clone_int_int_ent⟩ fn_none), clo_none, wr_none⟩) (fun h => by cases h) follows_ (fun _ _ => trivial)
end FN

set_option linter.unusedVariables false
namespace FN
open Go Go.Proofs
/-! loop.example/firingnets/impl.copyDesk -/
@[reducible] def i_copyDesk_sig : Sig := { ps := [some 4], pc := [.view .i64, .int .i64, .view .i64, .view .place], rs := [some 4], rc := [.row 3 .i64, .int .i64, .row 3 .i64, .row 25 .place] }
noncomputable def i_copyDesk_E : Env' := { fn := fun f => if f = 71 then some ⟨i_copyPlace_sig, i_copyPlace_f⟩ else none, ck := ckT, cuts := [(3, [2, 3, 11, 12, 13])], mine := fun i => i == 8 || i == 20 }
noncomputable def i_copyDesk_f (x : Ts i_copyDesk_sig.pc) : Option (Ts i_copyDesk_sig.rc) := runFn Tryz.prog (i_copyDesk_E) Tryz.f36 i_copyDesk_sig x
noncomputable def i_copyDesk_l0 (y0 : List (List Int × Int × List Int)) (y1 : Int) (y2 : Int) (y3 : Int) (y4 : Int) (y5 : List (Int)) (y6 : List (Int)) : Option ((List (Int)) × (Int) × (List (Int)) × (List (List Int × Int × List Int))) := from_ Tryz.prog (i_copyDesk_E) Tryz.f36 i_copyDesk_sig [1, 1, 0, 1, 0] ⟨mkT 26 [(2, .ptr 0 0), (3, .ptr 1 0), (11, .row false .place y0), (12, .int .i64 y1), (13, .int .i64 y2)], [some (.box 28 [.nilS, .int .i64 y3, .nilS, .nilS]), some (.box 28 [.own 2, .int .i64 y4, .own 3, .nilS]), some (.arr 3 true .i64 y5), some (.arr 3 true .i64 y6)]⟩
noncomputable def i_copyDesk_l1 (y0 : List (List Int × Int × List Int)) (y1 : Int) (y2 : Int) (y3 : Int) (y4 : Int) (y5 : List (Int)) (y6 : List (Int)) (y7 : List (List Int × Int × List Int)) : Option ((List (Int)) × (Int) × (List (Int)) × (List (List Int × Int × List Int))) := from_ Tryz.prog (i_copyDesk_E) Tryz.f36 i_copyDesk_sig [1, 1, 0, 1, 0] ⟨mkT 26 [(2, .ptr 0 0), (3, .ptr 1 0), (11, .row false .place y0), (12, .int .i64 y1), (13, .int .i64 y2)], [some (.box 28 [.nilS, .int .i64 y3, .nilS, .nilS]), some (.box 28 [.own 2, .int .i64 y4, .own 3, .own 4]), some (.arr 3 true .i64 y5), some (.arr 3 true .i64 y6), some (.arr 25 true .place y7)]⟩
theorem i_copyDesk_f_eq (x0 : (List (Int))) (x1 : (Int)) (x2 : (List (Int))) (x3 : (List (List Int × Int × List Int))) : i_copyDesk_f (x0, x1, x2, x3) = (Option.bind (i_copyPlace_f (x0, x1, x2)) fun r1 => (i_copyDesk_l0 x3 (List.length x3 : Int) 0 0 r1.2.1 r1.1 r1.2.2)) := by
  kernel_rfl
theorem i_copyDesk_l0_eq (y0 : List (List Int × Int × List Int)) (y1 : Int) (y2 : Int) (y3 : Int) (y4 : Int) (y5 : List (Int)) (y6 : List (Int)) : i_copyDesk_l0 y0 y1 y2 y3 y4 y5 y6 = (cond ((decide (y2 < y1))) (if (0 : Int) ≤ y2 ∧ y2 < (List.length y0 : Int) then (Option.bind (i_copyPlace_f ((List.getD y0 (y2 : Int).toNat ([], 0, [])).1, (List.getD y0 (y2 : Int).toNat ([], 0, [])).2.1, (List.getD y0 (y2 : Int).toNat ([], 0, [])).2.2)) fun r1 => (if (List.length ([] : List (List Int × Int × List Int)) + List.length ([(r1.1, r1.2.1, r1.2.2)] : List (List Int × Int × List Int))) * 56 ≤ 140737488355328 then (i_copyDesk_l1 y0 y1 (IntKind.i64.wrap (y2 + 1)) y3 y4 y5 y6 (([] : List (List Int × Int × List Int)) ++ ([(r1.1, r1.2.1, r1.2.2)] : List (List Int × Int × List Int)))) else none)) else none) (some (y5, y4, y6, []))) := by
  refine (loopK_eq Tryz.prog (i_copyDesk_E) (sub (Tryz.f36.body.getD .skip) [1, 1, 0, 1, 0, 0]) _ _).trans ?_
  kernel_rfl
theorem i_copyDesk_l1_eq (y0 : List (List Int × Int × List Int)) (y1 : Int) (y2 : Int) (y3 : Int) (y4 : Int) (y5 : List (Int)) (y6 : List (Int)) (y7 : List (List Int × Int × List Int)) : i_copyDesk_l1 y0 y1 y2 y3 y4 y5 y6 y7 = (cond ((decide (y2 < y1))) (if (0 : Int) ≤ y2 ∧ y2 < (List.length y0 : Int) then (Option.bind (i_copyPlace_f ((List.getD y0 (y2 : Int).toNat ([], 0, [])).1, (List.getD y0 (y2 : Int).toNat ([], 0, [])).2.1, (List.getD y0 (y2 : Int).toNat ([], 0, [])).2.2)) fun r1 => (if (List.length y7 + List.length ([(r1.1, r1.2.1, r1.2.2)] : List (List Int × Int × List Int))) * 56 ≤ 140737488355328 then (i_copyDesk_l1 y0 y1 (IntKind.i64.wrap (y2 + 1)) y3 y4 y5 y6 (y7 ++ ([(r1.1, r1.2.1, r1.2.2)] : List (List Int × Int × List Int)))) else none)) else none) (some (y5, y4, y6, y7))) := by
  refine (loopK_eq Tryz.prog (i_copyDesk_E) (sub (Tryz.f36.body.getD .skip) [1, 1, 0, 1, 0, 0]) _ _).trans ?_
  kernel_rfl
theorem i_copyDesk_ent : Entb Tryz.prog 36 := ⟨Tryz.f36, by kernel_rfl, by kernel_rfl, by kernel_rfl⟩
theorem i_copyDesk_ok : CtrOk Tryz.prog 36 ⟨i_copyDesk_sig, i_copyDesk_f⟩ :=
  ctr_of (fn := Tryz.f36) (by kernel_rfl) (by kernel_rfl) (fun x : Ts i_copyDesk_sig.pc => i_copyDesk_E) (fun x => ⟨(fn_cons ⟨i_copyPlace_ok, i_copyPlace_ent⟩ fn_none), clo_none, wr_none⟩) (fun h => by cases h) follows_ (fun _ _ => trivial)
end FN

set_option linter.unusedVariables false
namespace FN
open Go Go.Proofs
/-! slices.Clip[[]loop.example/firingnets/impl.Place,loop.example/firingnets/impl.Place] -/
@[reducible] def x_impl_Place_sig : Sig := { ps := [none], pc := [.view .place], rs := [none], rc := [.view .place] }
noncomputable def x_impl_Place_E : Env' := { fn := fun f => none, ck := ckT, cuts := [], mine := fun i => false }
noncomputable def x_impl_Place_f (x : Ts x_impl_Place_sig.pc) : Option (Ts x_impl_Place_sig.rc) := runFn Tryz.prog (x_impl_Place_E) Tryz.f70 x_impl_Place_sig x
theorem x_impl_Place_f_eq (x0 : (List (List Int × Int × List Int))) : x_impl_Place_f x0 = (if (0 : Int) ≤ (List.length x0 : Int) ∧ (List.length x0 : Int) ≤ (List.length x0 : Int) ∧ (List.length x0 : Int) ≤ (List.length x0 : Int) then (if (List.length x0 : Int) = 0 then (some []) else (some (List.take ((List.length x0 : Int) : Int).toNat x0))) else none) := by
  kernel_rfl
theorem x_impl_Place_ent : Entb Tryz.prog 70 := ⟨Tryz.f70, by kernel_rfl, by kernel_rfl, by kernel_rfl⟩
theorem x_impl_Place_ok : CtrOk Tryz.prog 70 ⟨x_impl_Place_sig, x_impl_Place_f⟩ :=
  ctr_of (fn := Tryz.f70) (by kernel_rfl) (by kernel_rfl) (fun x : Ts x_impl_Place_sig.pc => x_impl_Place_E) (fun x => ⟨fn_none, clo_none, wr_none⟩) (fun h => by cases h) follows_ (fun _ _ => trivial)
end FN

