/- Texts of the proof, joined: parts -/
import Derived.Test.YtbkndbgonbadaaaGreatDoorJ0
set_option linter.unusedVariables false
set_option linter.unusedSimpArgs false
set_option linter.unusedSectionVars false
set_option linter.unusedVariables false
namespace FN
open Go Go.Proofs
/-! loop.example/firingnets/impl.PlaceText -/
@[reducible] def i_PlaceText_sig : Sig := { ps := [some 3], pc := [.view .i64, .int .i64, .view .i64], rs := [none], rc := [.str] }
noncomputable def i_PlaceText_E : Env' := { fn := fun f => if f = 44 then some ⟨i_PlaceOk_sig, i_PlaceOk_f⟩ else if f = 73 then some ⟨x_strconv_Itoa_sig, x_strconv_Itoa_f⟩ else if f = 108 then some ⟨x_strings_Join_sig, x_strings_Join_f⟩ else none, ck := ckT, cuts := [(5, [1, 3, 15, 16, 17]), (8, [1, 3, 4, 5, 6, 15, 16, 17]), (13, [1, 3]), (15, [1, 3]), (17, [7, 66, 67, 68])], mine := fun i => false }
noncomputable def i_PlaceText_f (x : Ts i_PlaceText_sig.pc) : Option (Ts i_PlaceText_sig.rc) := runFn Tryz.prog (i_PlaceText_E) Tryz.f59 i_PlaceText_sig x
noncomputable def i_PlaceText_l0 (y0 : List (Int)) (y1 : Int) (y2 : Int) (y3 : List (Int)) (y4 : Int) (y5 : List (Int)) (y6 : List (ByteArray)) : Option ((ByteArray)) := from_ Tryz.prog (i_PlaceText_E) Tryz.f59 i_PlaceText_sig [1, 1, 1, 0, 1, 0] ⟨mkT 78 [(1, .ptr 0 0), (3, .own 1), (15, .row false .i64 y0), (16, .int .i64 y1), (17, .int .i64 y2)], [some (.box 25 [.row false .i64 y3, .int .i64 y4, .row false .i64 y5]), some (.arr 9 true .str y6)]⟩
noncomputable def i_PlaceText_l1 (y0 : Int) (y1 : Int) (y2 : Int) (y3 : List (Int)) (y4 : Int) (y5 : Int) (y6 : List (Int)) (y7 : Int) (y8 : List (Int)) (y9 : List (ByteArray)) : Option ((ByteArray)) := from_ Tryz.prog (i_PlaceText_E) Tryz.f59 i_PlaceText_sig [1, 1, 1, 0, 1, 0, 0, 1, 1, 0, 0, 1, 1, 0] ⟨mkT 78 [(1, .ptr 0 0), (3, .own 1), (4, .int .i64 y0), (5, .int .i64 y1), (6, .int .i64 y2), (15, .row false .i64 y3), (16, .int .i64 y4), (17, .int .i64 y5)], [some (.box 25 [.row false .i64 y6, .int .i64 y7, .row false .i64 y8]), some (.arr 9 true .str y9)]⟩
noncomputable def i_PlaceText_j2 (y0 : List (Int)) (y1 : Int) (y2 : List (Int)) (y3 : List (ByteArray)) : Option ((ByteArray)) := from_ Tryz.prog (i_PlaceText_E) Tryz.f59 i_PlaceText_sig [1, 1, 1, 1] ⟨mkT 78 [(1, .ptr 0 0), (3, .own 1)], [some (.box 25 [.row false .i64 y0, .int .i64 y1, .row false .i64 y2]), some (.arr 9 true .str y3)]⟩
noncomputable def i_PlaceText_j3 (y0 : List (Int)) (y1 : Int) (y2 : List (Int)) (y3 : List (ByteArray)) : Option ((ByteArray)) := from_ Tryz.prog (i_PlaceText_E) Tryz.f59 i_PlaceText_sig [1, 1, 1, 1, 1] ⟨mkT 78 [(1, .ptr 0 0), (3, .own 1)], [some (.box 25 [.row false .i64 y0, .int .i64 y1, .row false .i64 y2]), some (.arr 9 true .str y3)]⟩
noncomputable def i_PlaceText_l4 (y0 : ByteArray) (y1 : List (Int)) (y2 : Int) (y3 : Int) : Option ((ByteArray)) := from_ Tryz.prog (i_PlaceText_E) Tryz.f59 i_PlaceText_sig [1, 1, 1, 1, 1, 1, 0, 1, 0] ⟨mkT 78 [(7, .str y0), (66, .row false .i64 y1), (67, .int .i64 y2), (68, .int .i64 y3)], []⟩
theorem i_PlaceText_f_eq (x0 : (List (Int))) (x1 : (Int)) (x2 : (List (Int))) : i_PlaceText_f (x0, x1, x2) = (Option.bind (i_PlaceOk_f (x0, x1, x2)) fun r1 => (cond ((!r1)) (some ByteArray.empty) (i_PlaceText_l0 x0 (List.length x0 : Int) 0 x0 x1 x2 ([] : List (ByteArray))))) := by
  kernel_rfl
theorem i_PlaceText_l0_eq (y0 : List (Int)) (y1 : Int) (y2 : Int) (y3 : List (Int)) (y4 : Int) (y5 : List (Int)) (y6 : List (ByteArray)) : i_PlaceText_l0 y0 y1 y2 y3 y4 y5 y6 = (cond ((decide (y2 < y1))) (if (0 : Int) ≤ y2 ∧ y2 < (List.length y0 : Int) then (i_PlaceText_l1 y2 (List.getD y0 (y2 : Int).toNat 0) (IntKind.i64.wrap (y2 + 1)) y0 y1 y2 y3 y4 y5 y6) else none) (i_PlaceText_j2 y3 y4 y5 y6)) := by
  refine (loopK_eq Tryz.prog (i_PlaceText_E) (sub (Tryz.f59.body.getD .skip) [1, 1, 1, 0, 1, 0, 0]) _ _).trans ?_
  kernel_rfl
theorem i_PlaceText_l1_eq (y0 : Int) (y1 : Int) (y2 : Int) (y3 : List (Int)) (y4 : Int) (y5 : Int) (y6 : List (Int)) (y7 : Int) (y8 : List (Int)) (y9 : List (ByteArray)) : i_PlaceText_l1 y0 y1 y2 y3 y4 y5 y6 y7 y8 y9 = (cond ((decide (y2 < (List.length y6 : Int)))) (if y2 < 0 then none else (cond (((Go.bits .and IntKind.i64 (Int.fdiv y1 (2 ^ min (y2 : Int).toNat IntKind.i64.bits)) 1) == 1)) (Option.bind (x_strconv_Itoa_f y0) fun r1 => (Option.bind (x_strconv_Itoa_f y2) fun r2 => (if ByteArray.size r1 + ByteArray.size r2 ≤ 9223372036854775807 then (if (List.length y9 + List.length ([(r1 ++ r2)] : List (ByteArray))) * 16 ≤ 140737488355328 then (i_PlaceText_l1 y0 y1 (IntKind.i64.wrap (y2 + 1)) y3 y4 y5 y6 y7 y8 (y9 ++ ([(r1 ++ r2)] : List (ByteArray)))) else none) else none))) (i_PlaceText_l1 y0 y1 (IntKind.i64.wrap (y2 + 1)) y3 y4 y5 y6 y7 y8 y9))) (i_PlaceText_l0 y3 y4 (IntKind.i64.wrap (y5 + 1)) y6 y7 y8 y9)) := by
  refine (loopK_eq Tryz.prog (i_PlaceText_E) (sub (Tryz.f59.body.getD .skip) [1, 1, 1, 0, 1, 0, 0, 1, 1, 0, 0, 1, 1, 0, 0]) _ _).trans ?_
  kernel_rfl
theorem i_PlaceText_j2_eq (y0 : List (Int)) (y1 : Int) (y2 : List (Int)) (y3 : List (ByteArray)) : i_PlaceText_j2 y0 y1 y2 y3 = (cond (((List.length y3 : Int) == 0)) (if (List.length y3 + List.length ([str15] : List (ByteArray))) * 16 ≤ 140737488355328 then (i_PlaceText_j3 y0 y1 y2 (y3 ++ ([str15] : List (ByteArray)))) else none) (i_PlaceText_j3 y0 y1 y2 y3)) := by
  kernel_rfl
theorem i_PlaceText_j3_eq (y0 : List (Int)) (y1 : Int) (y2 : List (Int)) (y3 : List (ByteArray)) : i_PlaceText_j3 y0 y1 y2 y3 = (Option.bind (x_strconv_Itoa_f (List.length y0 : Int)) fun r1 => (if ByteArray.size r1 + ByteArray.size str1 ≤ 9223372036854775807 then (Option.bind (x_strings_Join_f (y3, str14)) fun r2 => (if ByteArray.size (r1 ++ str1) + ByteArray.size r2 ≤ 9223372036854775807 then (if ByteArray.size ((r1 ++ str1) ++ r2) + ByteArray.size str1 ≤ 9223372036854775807 then (Option.bind (x_strconv_Itoa_f y1) fun r3 => (if ByteArray.size (((r1 ++ str1) ++ r2) ++ str1) + ByteArray.size r3 ≤ 9223372036854775807 then (if ByteArray.size ((((r1 ++ str1) ++ r2) ++ str1) ++ r3) + ByteArray.size str1 ≤ 9223372036854775807 then (i_PlaceText_l4 (((((r1 ++ str1) ++ r2) ++ str1) ++ r3) ++ str1) y2 (List.length y2 : Int) 0) else none) else none)) else none) else none)) else none)) := by
  kernel_rfl
theorem i_PlaceText_l4_eq (y0 : ByteArray) (y1 : List (Int)) (y2 : Int) (y3 : Int) : i_PlaceText_l4 y0 y1 y2 y3 = (cond ((decide (y3 < y2))) (if (0 : Int) ≤ y3 ∧ y3 < (List.length y1 : Int) then (Option.bind (x_strconv_Itoa_f (List.getD y1 (y3 : Int).toNat 0)) fun r1 => (if ByteArray.size y0 + ByteArray.size r1 ≤ 9223372036854775807 then (i_PlaceText_l4 (y0 ++ r1) y1 y2 (IntKind.i64.wrap (y3 + 1))) else none)) else none) (some y0)) := by
  refine (loopK_eq Tryz.prog (i_PlaceText_E) (sub (Tryz.f59.body.getD .skip) [1, 1, 1, 1, 1, 1, 0, 1, 0, 0]) _ _).trans ?_
  kernel_rfl
theorem i_PlaceText_ent : Entb Tryz.prog 59 := ⟨Tryz.f59, by kernel_rfl, by kernel_rfl, by kernel_rfl⟩
theorem i_PlaceText_ok : CtrOk Tryz.prog 59 ⟨i_PlaceText_sig, i_PlaceText_f⟩ :=
  ctr_of (fn := Tryz.f59) (by kernel_rfl) (by kernel_rfl) (fun x : Ts i_PlaceText_sig.pc => i_PlaceText_E) (fun x => ⟨(fn_cons ⟨i_PlaceOk_ok, i_PlaceOk_ent⟩ (fn_cons ⟨x_strconv_Itoa_ok, x_strconv_Itoa_ent⟩ (fn_cons ⟨x_strings_Join_ok, x_strings_Join_ent⟩ fn_none))), clo_none, wr_none⟩) (fun h => by cases h) follows_ (fun _ _ => trivial)
end FN

