/- Texts of the proof, joined: parts -/
import Derived.Lib.AtoiErrMem
import Derived.Test.YtbkndbgonbadaaaGreatDoorJ0
import Derived.Test.YtbkndbgonbadaaaGreatDoorJ1
set_option linter.unusedVariables false
set_option linter.unusedSimpArgs false
set_option linter.unusedSectionVars false
/-! strconv.Atoi: the shelf's contracts, as one of ours: the error is told by nobody. -/
namespace FN
open Go Go.Proofs Go.RowKit
def atoiV (s : ByteArray) : Int := match Lib.atoiAll s.data.toList with
  | .ok v => v
  | .«syntax» => 0
  | .range => Lib.atoiSat s.data.toList
@[reducible] def x_strconv_Atoi_sig : Sig := { ps := [none], pc := [.str], rs := [none, none], rc := [.int .i64, .any] }
def x_strconv_Atoi_f (s : Ts x_strconv_Atoi_sig.pc) : Option (Ts x_strconv_Atoi_sig.rc) := if ByteArray.size s ≤ 281474976710656 then some (atoiV s, ()) else none
theorem x_strconv_Atoi_ent : Entb Tryz.prog 67 := ⟨Tryz.f67, by kernel_rfl, by kernel_rfl, by kernel_rfl⟩
theorem kpB {pin : Pn} {w w' : World} (h : Below w.heap.size w w') : Kp pin w.heap.size w w' := ⟨h.os, h.tape, h.output, h.size, fun k hk _ => h.block k hk⟩
theorem x_strconv_Atoi_ok : CtrOk Tryz.prog 67 ⟨x_strconv_Atoi_sig, x_strconv_Atoi_f⟩ := by
  intro w okc args bx x r hI hA hr
  obtain ⟨rfl, fl, h1, h2⟩ := (show bx = none ∧ ∃ fl, flatV [none] args.toList = some fl ∧ F2 (V1 (av w okc)) [PV.str x] fl from hA)
  obtain ⟨p, h3, rfl⟩ := flatV_one h1
  cases h2 with
  | cons hp _ =>
    have hp : p = .string x := hp
    subst hp
    have hx : (if ByteArray.size x ≤ 281474976710656 then some (atoiV x, ()) else none) = some r := hr
    split at hx
    · rename_i hc
      injection hx with hx
      subst hx
      have hargs : args = #[.string x] := by apply Array.ext'; rw [h3]
      rw [hargs]
      have fin : ∀ (e : Ending) (w' : World) (u : Value), e = .returned (.tuple #[.int .i64 (atoiV x), u]) → Below w.heap.size w w' → ∃ v, e = .returned v ∧ RetR x_strconv_Atoi_sig w w' okc (none : Option (Nat × List Int)) (atoiV x, ()) v ∧ Kp ⟨fun k => ∃ b, (none : Option (Nat × List Int)) = some (k, b), fun _ => True⟩ w.heap.size w w' := by
        intro e w' u he hb
        exact ⟨_, he, ⟨[.int .i64 (atoiV x), u], fun _ => False, ⟨_, _, rfl, rfl, ⟨_, rfl, trivial⟩⟩, fun i j u u' g hu => by simp [rowsV] at hu, fun k h => h, (fun h => Bool.noConfusion (show (false : Bool) = true from h)), [.int .i64 (atoiV x), u], rfl, rfl⟩, kpB hb⟩
      cases ha : Lib.atoiAll (ByteArray.data x).toList with
      | ok v =>
        have hv : atoiV x = v := by unfold atoiV; rw [ha]
        refine (Tryz.strconv_Atoi_ok x (Nat.le_trans hc (by decide)) v ha w).mono ?_
        rintro e w' ⟨he, hw⟩
        refine fin e w' .nilIface (by rw [hv]; exact he) ?_
        rcases hw with rfl | ⟨t, rfl⟩
        · exact Below.refl _ _
        · exact Lib.bytesWorld_below _ _ _
      | «syntax» =>
        have hv : atoiV x = 0 := by unfold atoiV; rw [ha]
        obtain ⟨ev, g1, g2⟩ := gl_syn hI
        refine (Tryz.strconv_Atoi_syntax x hc ha ev w g1 g2).mono ?_
        rintro e w' ⟨N, he, _, _, hb⟩
        exact fin e w' _ (by rw [hv]; exact he) hb
      | range =>
        have hv : atoiV x = Lib.atoiSat (ByteArray.data x).toList := by unfold atoiV; rw [ha]
        obtain ⟨ev, g1, g2⟩ := gl_ran hI
        refine (Tryz.strconv_Atoi_range x hc ha ev w g1 g2).mono ?_
        rintro e w' ⟨N, he, _, _, hb⟩
        exact fin e w' _ (by rw [hv]; exact he) hb
    · cases hx
end FN

set_option linter.unusedVariables false
namespace FN
open Go Go.Proofs
/-! slices.Index[[]string,string] -/
@[reducible] def x_slices_Index_string_string_sig : Sig := { ps := [none, none], pc := [.view .str, .str], rs := [none], rc := [.int .i64] }
noncomputable def x_slices_Index_string_string_E : Env' := { fn := fun f => none, ck := ckT, cuts := [(2, [0, 1, 7, 8])], mine := fun i => false }
noncomputable def x_slices_Index_string_string_f (x : Ts x_slices_Index_string_string_sig.pc) : Option (Ts x_slices_Index_string_string_sig.rc) := runFn Tryz.prog (x_slices_Index_string_string_E) Tryz.f66 x_slices_Index_string_string_sig x
noncomputable def x_slices_Index_string_string_l0 (y0 : List (ByteArray)) (y1 : ByteArray) (y2 : Int) (y3 : Int) : Option ((Int)) := from_ Tryz.prog (x_slices_Index_string_string_E) Tryz.f66 x_slices_Index_string_string_sig [1, 0, 1, 0] ⟨mkT 19 [(0, .row false .str y0), (1, .str y1), (7, .int .i64 y2), (8, .int .i64 y3)], []⟩
theorem x_slices_Index_string_string_f_eq (x0 : (List (ByteArray))) (x1 : (ByteArray)) : x_slices_Index_string_string_f (x0, x1) = (x_slices_Index_string_string_l0 x0 x1 (List.length x0 : Int) 0) := by
  kernel_rfl
theorem x_slices_Index_string_string_l0_eq (y0 : List (ByteArray)) (y1 : ByteArray) (y2 : Int) (y3 : Int) : x_slices_Index_string_string_l0 y0 y1 y2 y3 = (cond ((decide (y3 < y2))) (if (0 : Int) ≤ y3 ∧ y3 < (List.length y0 : Int) then (cond ((ByteArray.toList y1 == ByteArray.toList (List.getD y0 (y3 : Int).toNat ByteArray.empty))) (some y3) (x_slices_Index_string_string_l0 y0 y1 y2 (IntKind.i64.wrap (y3 + 1)))) else none) (some (-1))) := by
  refine (loopK_eq Tryz.prog (x_slices_Index_string_string_E) (sub (Tryz.f66.body.getD .skip) [1, 0, 1, 0, 0]) _ _).trans ?_
  kernel_rfl
theorem x_slices_Index_string_string_ent : Entb Tryz.prog 66 := ⟨Tryz.f66, by kernel_rfl, by kernel_rfl, by kernel_rfl⟩
theorem x_slices_Index_string_string_ok : CtrOk Tryz.prog 66 ⟨x_slices_Index_string_string_sig, x_slices_Index_string_string_f⟩ :=
  ctr_of (fn := Tryz.f66) (by kernel_rfl) (by kernel_rfl) (fun x : Ts x_slices_Index_string_string_sig.pc => x_slices_Index_string_string_E) (fun x => ⟨fn_none, clo_none, wr_none⟩) (fun h => by cases h) follows_ (fun _ _ => trivial)
end FN

set_option linter.unusedVariables false
namespace FN
open Go Go.Proofs
/-! loop.example/firingnets/impl.ReadDeed -/
@[reducible] def i_ReadDeed_sig : Sig := { ps := [none], pc := [.str], rs := [some 3, none], rc := [.int .i64, .int .i64, .int .i64, .bool] }
noncomputable def i_ReadDeed_E : Env' := { fn := fun f => if f = 58 then some ⟨x_strings_Split_sig, x_strings_Split_f⟩ else if f = 66 then some ⟨x_slices_Index_string_string_sig, x_slices_Index_string_string_f⟩ else if f = 67 then some ⟨x_strconv_Atoi_sig, x_strconv_Atoi_f⟩ else if f = 68 then some ⟨i_DeedText_sig, i_DeedText_f⟩ else none, ck := ckT, cuts := [(8, [0, 2, 4, 6]), (10, [0, 2, 6])], mine := fun i => false }
noncomputable def i_ReadDeed_f (x : Ts i_ReadDeed_sig.pc) : Option (Ts i_ReadDeed_sig.rc) := runFn Tryz.prog (i_ReadDeed_E) Tryz.f34 i_ReadDeed_sig x
noncomputable def i_ReadDeed_j0 (y0 : ByteArray) (y1 : List (ByteArray)) (y2 : Int) (y3 : Int) (y4 : Int) (y5 : Int) (y6 : Int) (y7 : Int) : Option ((Int) × (Int) × (Int) × (Bool)) := from_ Tryz.prog (i_ReadDeed_E) Tryz.f34 i_ReadDeed_sig [1, 1, 1, 1, 1, 1] ⟨mkT 55 [(0, .str y0), (2, .ptr 0 0), (4, .row true .str y1), (6, .ptr 1 0)], [some (.box 60 [.int .i64 y2, .int .i64 y3, .int .i64 y4]), some (.box 60 [.int .i64 y5, .int .i64 y6, .int .i64 y7])]⟩
noncomputable def i_ReadDeed_j1 (y0 : ByteArray) (y1 : Int) (y2 : Int) (y3 : Int) (y4 : Int) (y5 : Int) (y6 : Int) : Option ((Int) × (Int) × (Int) × (Bool)) := from_ Tryz.prog (i_ReadDeed_E) Tryz.f34 i_ReadDeed_sig [1, 1, 1, 1, 1, 1, 1] ⟨mkT 55 [(0, .str y0), (2, .ptr 0 0), (6, .ptr 1 0)], [some (.box 60 [.int .i64 y1, .int .i64 y2, .int .i64 y3]), some (.box 60 [.int .i64 y4, .int .i64 y5, .int .i64 y6])]⟩
theorem i_ReadDeed_f_eq (x0 : (ByteArray)) : i_ReadDeed_f x0 = (Option.bind (x_strings_Split_f (x0, str1)) fun r1 => (if (0 : Int) ≤ 0 ∧ 0 < (List.length r1 : Int) then (Option.bind (x_slices_Index_string_string_f (([str10, str11, str4, str12, str5] : List (ByteArray)), (List.getD r1 (0 : Int).toNat ByteArray.empty))) fun r2 => (cond ((decide (r2 < 0))) (some (0, 0, 0, false)) (cond ((decide (3 < (List.length r1 : Int)))) (some (0, 0, 0, false)) (if (0 : Int) ≤ r2 ∧ r2 < (List.length ([0, 1, 2, 3, 4] : List (Int)) : Int) then (cond ((decide (1 < (List.length r1 : Int)))) (if (0 : Int) ≤ 1 ∧ 1 < (List.length r1 : Int) then (Option.bind (x_strconv_Atoi_f (List.getD r1 (1 : Int).toNat ByteArray.empty)) fun r3 => (i_ReadDeed_j0 x0 r1 0 0 0 (List.getD ([0, 1, 2, 3, 4] : List (Int)) (r2 : Int).toNat 0) r3.1 0)) else none) (i_ReadDeed_j0 x0 r1 0 0 0 (List.getD ([0, 1, 2, 3, 4] : List (Int)) (r2 : Int).toNat 0) 0 0)) else none)))) else none)) := by
  kernel_rfl
theorem i_ReadDeed_j0_eq (y0 : ByteArray) (y1 : List (ByteArray)) (y2 : Int) (y3 : Int) (y4 : Int) (y5 : Int) (y6 : Int) (y7 : Int) : i_ReadDeed_j0 y0 y1 y2 y3 y4 y5 y6 y7 = (cond ((decide (2 < (List.length y1 : Int)))) (if (0 : Int) ≤ 2 ∧ 2 < (List.length y1 : Int) then (Option.bind (x_strconv_Atoi_f (List.getD y1 (2 : Int).toNat ByteArray.empty)) fun r1 => (i_ReadDeed_j1 y0 y2 y3 y4 y5 y6 r1.1)) else none) (i_ReadDeed_j1 y0 y2 y3 y4 y5 y6 y7)) := by
  kernel_rfl
theorem i_ReadDeed_j1_eq (y0 : ByteArray) (y1 : Int) (y2 : Int) (y3 : Int) (y4 : Int) (y5 : Int) (y6 : Int) : i_ReadDeed_j1 y0 y1 y2 y3 y4 y5 y6 = (Option.bind (i_DeedText_f (y4, y5, y6)) fun r1 => (cond ((!(ByteArray.toList r1 == ByteArray.toList y0))) (some (0, 0, 0, false)) (some (y4, y5, y6, true)))) := by
  kernel_rfl
theorem i_ReadDeed_ent : Entb Tryz.prog 34 := ⟨Tryz.f34, by kernel_rfl, by kernel_rfl, by kernel_rfl⟩
theorem i_ReadDeed_ok : CtrOk Tryz.prog 34 ⟨i_ReadDeed_sig, i_ReadDeed_f⟩ :=
  ctr_of (fn := Tryz.f34) (by kernel_rfl) (by kernel_rfl) (fun x : Ts i_ReadDeed_sig.pc => i_ReadDeed_E) (fun x => ⟨(fn_cons ⟨x_strings_Split_ok, x_strings_Split_ent⟩ (fn_cons ⟨x_slices_Index_string_string_ok, x_slices_Index_string_string_ent⟩ (fn_cons ⟨x_strconv_Atoi_ok, x_strconv_Atoi_ent⟩ (fn_cons ⟨i_DeedText_ok, i_DeedText_ent⟩ fn_none)))), clo_none, wr_none⟩) (fun h => by cases h) follows_ (fun _ _ => trivial)
end FN

set_option linter.unusedVariables false
namespace FN
open Go Go.Proofs
/-! loop.example/firingnets/spec.ReadDeed -/
@[reducible] def s_ReadDeed_sig : Sig := { ps := [none], pc := [.str], rs := [some 3, none], rc := [.int .i64, .int .i64, .int .i64, .bool] }
noncomputable def s_ReadDeed_E : Env' := { fn := fun f => if f = 65 then some ⟨s_DeedText_sig, s_DeedText_f⟩ else if f = 86 then some ⟨s_l1Cut_sig, s_l1Cut_f⟩ else if f = 87 then some ⟨s_l1Digits_sig, s_l1Digits_f⟩ else none, ck := ckT, cuts := [(6, [0, 2, 4, 5]), (8, [0, 2, 5]), (9, [0, 2, 5, 7])], mine := fun i => false }
noncomputable def s_ReadDeed_f (x : Ts s_ReadDeed_sig.pc) : Option (Ts s_ReadDeed_sig.rc) := runFn Tryz.prog (s_ReadDeed_E) Tryz.f39 s_ReadDeed_sig x
noncomputable def s_ReadDeed_j0 (y0 : ByteArray) (y1 : List (ByteArray)) (y2 : Int) (y3 : Int) (y4 : Int) (y5 : List (Int × Int × Int)) : Option ((Int) × (Int) × (Int) × (Bool)) := from_ Tryz.prog (s_ReadDeed_E) Tryz.f39 s_ReadDeed_sig [1, 1, 1, 1] ⟨mkT 64 [(0, .str y0), (2, .ptr 0 0), (4, .row true .str y1), (5, .own 1)], [some (.box 60 [.int .i64 y2, .int .i64 y3, .int .i64 y4]), some (.arr 60 true .deed y5)]⟩
noncomputable def s_ReadDeed_j1 (y0 : ByteArray) (y1 : Int) (y2 : Int) (y3 : Int) (y4 : List (Int × Int × Int)) : Option ((Int) × (Int) × (Int) × (Bool)) := from_ Tryz.prog (s_ReadDeed_E) Tryz.f39 s_ReadDeed_sig [1, 1, 1, 1, 1] ⟨mkT 64 [(0, .str y0), (2, .ptr 0 0), (5, .own 1)], [some (.box 60 [.int .i64 y1, .int .i64 y2, .int .i64 y3]), some (.arr 60 true .deed y4)]⟩
noncomputable def s_ReadDeed_l2 (y0 : ByteArray) (y1 : Int) (y2 : Int) (y3 : Int) (y4 : Int) (y5 : List (Int × Int × Int)) : Option ((Int) × (Int) × (Int) × (Bool)) := from_ Tryz.prog (s_ReadDeed_E) Tryz.f39 s_ReadDeed_sig [1, 1, 1, 1, 1, 0, 1, 0] ⟨mkT 64 [(0, .str y0), (2, .ptr 0 0), (5, .own 1), (7, .int .i64 y1)], [some (.box 60 [.int .i64 y2, .int .i64 y3, .int .i64 y4]), some (.arr 60 true .deed y5)]⟩
theorem s_ReadDeed_f_eq (x0 : (ByteArray)) : s_ReadDeed_f x0 = (Option.bind (s_l1Cut_f (x0, 32)) fun r1 => (cond (((List.length r1 : Int) == 2)) (if (0 : Int) ≤ 1 ∧ 1 < (List.length r1 : Int) then (Option.bind (s_l1Digits_f (List.getD r1 (1 : Int).toNat ByteArray.empty)) fun r2 => (if (List.length ([(2, 0, 0), (4, 0, 0)] : List (Int × Int × Int)) + List.length ([(1, r2, 0), (3, r2, 0)] : List (Int × Int × Int))) * 24 ≤ 140737488355328 then (s_ReadDeed_j0 x0 r1 0 0 0 (([(2, 0, 0), (4, 0, 0)] : List (Int × Int × Int)) ++ ([(1, r2, 0), (3, r2, 0)] : List (Int × Int × Int)))) else none)) else none) (s_ReadDeed_j0 x0 r1 0 0 0 ([(2, 0, 0), (4, 0, 0)] : List (Int × Int × Int))))) := by
  kernel_rfl
theorem s_ReadDeed_j0_eq (y0 : ByteArray) (y1 : List (ByteArray)) (y2 : Int) (y3 : Int) (y4 : Int) (y5 : List (Int × Int × Int)) : s_ReadDeed_j0 y0 y1 y2 y3 y4 y5 = (cond (((List.length y1 : Int) == 3)) (if (0 : Int) ≤ 1 ∧ 1 < (List.length y1 : Int) then (if (0 : Int) ≤ 2 ∧ 2 < (List.length y1 : Int) then (Option.bind (s_l1Digits_f (List.getD y1 (1 : Int).toNat ByteArray.empty)) fun r1 => (Option.bind (s_l1Digits_f (List.getD y1 (2 : Int).toNat ByteArray.empty)) fun r2 => (if (List.length y5 + List.length ([(0, r1, r2)] : List (Int × Int × Int))) * 24 ≤ 140737488355328 then (s_ReadDeed_j1 y0 y2 y3 y4 (y5 ++ ([(0, r1, r2)] : List (Int × Int × Int)))) else none))) else none) else none) (s_ReadDeed_j1 y0 y2 y3 y4 y5)) := by
  kernel_rfl
theorem s_ReadDeed_j1_eq (y0 : ByteArray) (y1 : Int) (y2 : Int) (y3 : Int) (y4 : List (Int × Int × Int)) : s_ReadDeed_j1 y0 y1 y2 y3 y4 = (s_ReadDeed_l2 y0 0 y1 y2 y3 y4) := by
  kernel_rfl
theorem s_ReadDeed_l2_eq (y0 : ByteArray) (y1 : Int) (y2 : Int) (y3 : Int) (y4 : Int) (y5 : List (Int × Int × Int)) : s_ReadDeed_l2 y0 y1 y2 y3 y4 y5 = (cond ((decide (y1 < (List.length y5 : Int)))) (cond ((!(ByteArray.toList y0 == ByteArray.toList ByteArray.empty))) (if (0 : Int) ≤ y1 ∧ y1 < (List.length y5 : Int) then (Option.bind (s_DeedText_f ((List.getD y5 (y1 : Int).toNat (0, 0, 0)).1, (List.getD y5 (y1 : Int).toNat (0, 0, 0)).2.1, (List.getD y5 (y1 : Int).toNat (0, 0, 0)).2.2)) fun r1 => (cond ((ByteArray.toList r1 == ByteArray.toList y0)) (if (0 : Int) ≤ y1 ∧ y1 < (List.length y5 : Int) then (some ((List.getD y5 (y1 : Int).toNat (0, 0, 0)).1, (List.getD y5 (y1 : Int).toNat (0, 0, 0)).2.1, (List.getD y5 (y1 : Int).toNat (0, 0, 0)).2.2, true)) else none) (s_ReadDeed_l2 y0 (IntKind.i64.wrap (y1 + 1)) y2 y3 y4 y5))) else none) (s_ReadDeed_l2 y0 (IntKind.i64.wrap (y1 + 1)) y2 y3 y4 y5)) (some (0, 0, 0, false))) := by
  refine (loopK_eq Tryz.prog (s_ReadDeed_E) (sub (Tryz.f39.body.getD .skip) [1, 1, 1, 1, 1, 0, 1, 0, 0]) _ _).trans ?_
  kernel_rfl
theorem s_ReadDeed_ent : Entb Tryz.prog 39 := ⟨Tryz.f39, by kernel_rfl, by kernel_rfl, by kernel_rfl⟩
theorem s_ReadDeed_ok : CtrOk Tryz.prog 39 ⟨s_ReadDeed_sig, s_ReadDeed_f⟩ :=
  ctr_of (fn := Tryz.f39) (by kernel_rfl) (by kernel_rfl) (fun x : Ts s_ReadDeed_sig.pc => s_ReadDeed_E) (fun x => ⟨(fn_cons ⟨s_DeedText_ok, s_DeedText_ent⟩ (fn_cons ⟨s_l1Cut_ok, s_l1Cut_ent⟩ (fn_cons ⟨s_l1Digits_ok, s_l1Digits_ent⟩ fn_none))), clo_none, wr_none⟩) (fun h => by cases h) follows_ (fun _ _ => trivial)
end FN

set_option linter.unusedVariables false
namespace FN
open Go Go.Proofs
/-! loop.example/firingnets/spec.DeskOk -/
@[reducible] def s_DeskOk_sig : Sig := { ps := [some 4], pc := [.view .i64, .int .i64, .view .i64, .view .place], rs := [none], rc := [.bool] }
noncomputable def s_DeskOk_E : Env' := { fn := fun f => if f = 42 then some ⟨s_PlaceOk_sig, s_PlaceOk_f⟩ else none, ck := ckT, cuts := [(2, [1, 3]), (6, [1])], mine := fun i => false }
noncomputable def s_DeskOk_f (x : Ts s_DeskOk_sig.pc) : Option (Ts s_DeskOk_sig.rc) := runFn Tryz.prog (s_DeskOk_E) Tryz.f11 s_DeskOk_sig x
noncomputable def s_DeskOk_l0 (y0 : Int) (y1 : List (Int)) (y2 : Int) (y3 : List (Int)) (y4 : List (List Int × Int × List Int)) : Option ((Bool)) := from_ Tryz.prog (s_DeskOk_E) Tryz.f11 s_DeskOk_sig [1, 0, 1, 0] ⟨mkT 27 [(1, .ptr 0 0), (3, .int .i64 y0)], [some (.box 28 [.row false .i64 y1, .int .i64 y2, .row false .i64 y3, .row false .place y4])]⟩
noncomputable def s_DeskOk_j1 (y0 : List (Int)) (y1 : Int) (y2 : List (Int)) (y3 : List (List Int × Int × List Int)) : Option ((Bool)) := from_ Tryz.prog (s_DeskOk_E) Tryz.f11 s_DeskOk_sig [1, 1] ⟨mkT 27 [(1, .ptr 0 0)], [some (.box 28 [.row false .i64 y0, .int .i64 y1, .row false .i64 y2, .row false .place y3])]⟩
theorem s_DeskOk_f_eq (x0 : (List (Int))) (x1 : (Int)) (x2 : (List (Int))) (x3 : (List (List Int × Int × List Int))) : s_DeskOk_f (x0, x1, x2, x3) = (s_DeskOk_l0 0 x0 x1 x2 x3) := by
  kernel_rfl
theorem s_DeskOk_l0_eq (y0 : Int) (y1 : List (Int)) (y2 : Int) (y3 : List (Int)) (y4 : List (List Int × Int × List Int)) : s_DeskOk_l0 y0 y1 y2 y3 y4 = (cond ((decide (y0 < (List.length y4 : Int)))) (if (0 : Int) ≤ y0 ∧ y0 < (List.length y4 : Int) then (Option.bind (s_PlaceOk_f ((List.getD y4 (y0 : Int).toNat ([], 0, [])).1, (List.getD y4 (y0 : Int).toNat ([], 0, [])).2.1, (List.getD y4 (y0 : Int).toNat ([], 0, [])).2.2)) fun r1 => (cond ((!r1)) (some false) (s_DeskOk_l0 (IntKind.i64.wrap (y0 + 1)) y1 y2 y3 y4))) else none) (s_DeskOk_j1 y1 y2 y3 y4)) := by
  refine (loopK_eq Tryz.prog (s_DeskOk_E) (sub (Tryz.f11.body.getD .skip) [1, 0, 1, 0, 0]) _ _).trans ?_
  kernel_rfl
theorem s_DeskOk_j1_eq (y0 : List (Int)) (y1 : Int) (y2 : List (Int)) (y3 : List (List Int × Int × List Int)) : s_DeskOk_j1 y0 y1 y2 y3 = (Option.bind (s_PlaceOk_f (y0, y1, y2)) fun r1 => (cond (r1) (some (decide ((List.length y3 : Int) ≤ 8))) (some false))) := by
  kernel_rfl
theorem s_DeskOk_ent : Entb Tryz.prog 11 := ⟨Tryz.f11, by kernel_rfl, by kernel_rfl, by kernel_rfl⟩
theorem s_DeskOk_ok : CtrOk Tryz.prog 11 ⟨s_DeskOk_sig, s_DeskOk_f⟩ :=
  ctr_of (fn := Tryz.f11) (by kernel_rfl) (by kernel_rfl) (fun x : Ts s_DeskOk_sig.pc => s_DeskOk_E) (fun x => ⟨(fn_cons ⟨s_PlaceOk_ok, s_PlaceOk_ent⟩ fn_none), clo_none, wr_none⟩) (fun h => by cases h) follows_ (fun _ _ => trivial)
end FN

set_option linter.unusedVariables false
namespace FN
open Go Go.Proofs
/-! loop.example/firingnets/spec.l15Place -/
@[reducible] def s_l15Place_sig : Sig := { ps := [some 3], pc := [.view .i64, .int .i64, .view .i64], rs := [some 3], rc := [.row 3 .i64, .int .i64, .row 3 .i64] }
noncomputable def s_l15Place_E : Env' := { fn := fun f => none, ck := ckT, cuts := [], mine := fun i => false }
noncomputable def s_l15Place_f (x : Ts s_l15Place_sig.pc) : Option (Ts s_l15Place_sig.rc) := runFn Tryz.prog (s_l15Place_E) Tryz.f85 s_l15Place_sig x
theorem s_l15Place_f_eq (x0 : (List (Int))) (x1 : (Int)) (x2 : (List (Int))) : s_l15Place_f (x0, x1, x2) = (if (List.length ([] : List (Int)) + List.length x0) * 8 ≤ 140737488355328 then (if (List.length ([] : List (Int)) + List.length x2) * 8 ≤ 140737488355328 then (some ((([] : List (Int)) ++ x0), x1, (([] : List (Int)) ++ x2))) else none) else none) := by
  refine Eq.trans (b := (same [(same [(if (List.length ([] : List (Int)) + List.length x0) * 8 ≤ 140737488355328 then (if (List.length ([] : List (Int)) + List.length x2) * 8 ≤ 140737488355328 then (some ((([] : List (Int)) ++ x0), x1, (([] : List (Int)) ++ x2))) else none) else none), (if (List.length ([] : List (Int)) + List.length x0) * 8 ≤ 140737488355328 then (if (List.length ([] : List (Int)) + List.length x2) * 8 ≤ 140737488355328 then (some ((([] : List (Int)) ++ x0), x1, (([] : List (Int)) ++ x2))) else none) else none)]), (if (List.length ([] : List (Int)) + List.length x0) * 8 ≤ 140737488355328 then (if (List.length ([] : List (Int)) + List.length x2) * 8 ≤ 140737488355328 then (some ((([] : List (Int)) ++ x0), x1, (([] : List (Int)) ++ x2))) else none) else none)])) (by kernel_rfl) ?_
  simp only [same2, same3, same4, same5, same6, obind_ite]
theorem s_l15Place_ent : Entb Tryz.prog 85 := ⟨Tryz.f85, by kernel_rfl, by kernel_rfl, by kernel_rfl⟩
theorem s_l15Place_ok : CtrOk Tryz.prog 85 ⟨s_l15Place_sig, s_l15Place_f⟩ :=
  ctr_of (fn := Tryz.f85) (by kernel_rfl) (by kernel_rfl) (fun x : Ts s_l15Place_sig.pc => s_l15Place_E) (fun x => ⟨fn_none, clo_none, wr_none⟩) (fun h => by cases h) follows_ (fun _ _ => trivial)
end FN

set_option linter.unusedVariables false
namespace FN
open Go Go.Proofs
/-! loop.example/firingnets/spec.l15Copy -/
@[reducible] def s_l15Copy_sig : Sig := { ps := [some 4], pc := [.view .i64, .int .i64, .view .i64, .view .place], rs := [some 4], rc := [.row 3 .i64, .int .i64, .row 3 .i64, .row 25 .place] }
noncomputable def s_l15Copy_E : Env' := { fn := fun f => if f = 85 then some ⟨s_l15Place_sig, s_l15Place_f⟩ else none, ck := ckT, cuts := [(3, [1, 2, 3, 4])], mine := fun i => i == 7 || i == 23 }
noncomputable def s_l15Copy_f (x : Ts s_l15Copy_sig.pc) : Option (Ts s_l15Copy_sig.rc) := runFn Tryz.prog (s_l15Copy_E) Tryz.f38 s_l15Copy_sig x
noncomputable def s_l15Copy_l0 (y0 : Int) (y1 : List (Int)) (y2 : Int) (y3 : List (Int)) (y4 : List (List Int × Int × List Int)) (y5 : Int) (y6 : Int) (y7 : List (Int)) (y8 : List (Int)) : Option ((List (Int)) × (Int) × (List (Int)) × (List (List Int × Int × List Int))) := from_ Tryz.prog (s_l15Copy_E) Tryz.f38 s_l15Copy_sig [1, 1, 0, 1, 0] ⟨mkT 28 [(1, .ptr 0 0), (2, .ptr 1 0), (3, .ptr 2 0), (4, .int .i64 y0)], [some (.box 28 [.row false .i64 y1, .int .i64 y2, .row false .i64 y3, .row false .place y4]), some (.box 28 [.nilS, .int .i64 y5, .nilS, .nilS]), some (.box 28 [.own 3, .int .i64 y6, .own 4, .nilS]), some (.arr 3 true .i64 y7), some (.arr 3 true .i64 y8)]⟩
noncomputable def s_l15Copy_l1 (y0 : Int) (y1 : List (Int)) (y2 : Int) (y3 : List (Int)) (y4 : List (List Int × Int × List Int)) (y5 : Int) (y6 : Int) (y7 : List (Int)) (y8 : List (Int)) (y9 : List (List Int × Int × List Int)) : Option ((List (Int)) × (Int) × (List (Int)) × (List (List Int × Int × List Int))) := from_ Tryz.prog (s_l15Copy_E) Tryz.f38 s_l15Copy_sig [1, 1, 0, 1, 0] ⟨mkT 28 [(1, .ptr 0 0), (2, .ptr 1 0), (3, .ptr 2 0), (4, .int .i64 y0)], [some (.box 28 [.row false .i64 y1, .int .i64 y2, .row false .i64 y3, .row false .place y4]), some (.box 28 [.nilS, .int .i64 y5, .nilS, .nilS]), some (.box 28 [.own 3, .int .i64 y6, .own 4, .own 5]), some (.arr 3 true .i64 y7), some (.arr 3 true .i64 y8), some (.arr 25 true .place y9)]⟩
theorem s_l15Copy_f_eq (x0 : (List (Int))) (x1 : (Int)) (x2 : (List (Int))) (x3 : (List (List Int × Int × List Int))) : s_l15Copy_f (x0, x1, x2, x3) = (Option.bind (s_l15Place_f (x0, x1, x2)) fun r1 => (s_l15Copy_l0 0 x0 x1 x2 x3 0 r1.2.1 r1.1 r1.2.2)) := by
  kernel_rfl
theorem s_l15Copy_l0_eq (y0 : Int) (y1 : List (Int)) (y2 : Int) (y3 : List (Int)) (y4 : List (List Int × Int × List Int)) (y5 : Int) (y6 : Int) (y7 : List (Int)) (y8 : List (Int)) : s_l15Copy_l0 y0 y1 y2 y3 y4 y5 y6 y7 y8 = (cond ((decide (y0 < (List.length y4 : Int)))) (if (0 : Int) ≤ y0 ∧ y0 < (List.length y4 : Int) then (Option.bind (s_l15Place_f ((List.getD y4 (y0 : Int).toNat ([], 0, [])).1, (List.getD y4 (y0 : Int).toNat ([], 0, [])).2.1, (List.getD y4 (y0 : Int).toNat ([], 0, [])).2.2)) fun r1 => (if (List.length ([] : List (List Int × Int × List Int)) + List.length ([(r1.1, r1.2.1, r1.2.2)] : List (List Int × Int × List Int))) * 56 ≤ 140737488355328 then (s_l15Copy_l1 (IntKind.i64.wrap (y0 + 1)) y1 y2 y3 y4 y5 y6 y7 y8 (([] : List (List Int × Int × List Int)) ++ ([(r1.1, r1.2.1, r1.2.2)] : List (List Int × Int × List Int)))) else none)) else none) (some (y7, y6, y8, []))) := by
  refine (loopK_eq Tryz.prog (s_l15Copy_E) (sub (Tryz.f38.body.getD .skip) [1, 1, 0, 1, 0, 0]) _ _).trans ?_
  kernel_rfl
theorem s_l15Copy_l1_eq (y0 : Int) (y1 : List (Int)) (y2 : Int) (y3 : List (Int)) (y4 : List (List Int × Int × List Int)) (y5 : Int) (y6 : Int) (y7 : List (Int)) (y8 : List (Int)) (y9 : List (List Int × Int × List Int)) : s_l15Copy_l1 y0 y1 y2 y3 y4 y5 y6 y7 y8 y9 = (cond ((decide (y0 < (List.length y4 : Int)))) (if (0 : Int) ≤ y0 ∧ y0 < (List.length y4 : Int) then (Option.bind (s_l15Place_f ((List.getD y4 (y0 : Int).toNat ([], 0, [])).1, (List.getD y4 (y0 : Int).toNat ([], 0, [])).2.1, (List.getD y4 (y0 : Int).toNat ([], 0, [])).2.2)) fun r1 => (if (List.length y9 + List.length ([(r1.1, r1.2.1, r1.2.2)] : List (List Int × Int × List Int))) * 56 ≤ 140737488355328 then (s_l15Copy_l1 (IntKind.i64.wrap (y0 + 1)) y1 y2 y3 y4 y5 y6 y7 y8 (y9 ++ ([(r1.1, r1.2.1, r1.2.2)] : List (List Int × Int × List Int)))) else none)) else none) (some (y7, y6, y8, y9))) := by
  refine (loopK_eq Tryz.prog (s_l15Copy_E) (sub (Tryz.f38.body.getD .skip) [1, 1, 0, 1, 0, 0]) _ _).trans ?_
  kernel_rfl
theorem s_l15Copy_ent : Entb Tryz.prog 38 := ⟨Tryz.f38, by kernel_rfl, by kernel_rfl, by kernel_rfl⟩
theorem s_l15Copy_ok : CtrOk Tryz.prog 38 ⟨s_l15Copy_sig, s_l15Copy_f⟩ :=
  ctr_of (fn := Tryz.f38) (by kernel_rfl) (by kernel_rfl) (fun x : Ts s_l15Copy_sig.pc => s_l15Copy_E) (fun x => ⟨(fn_cons ⟨s_l15Place_ok, s_l15Place_ent⟩ fn_none), clo_none, wr_none⟩) (fun h => by cases h) follows_ (fun _ _ => trivial)
end FN

set_option linter.unusedVariables false
namespace FN
open Go Go.Proofs
/-! loop.example/firingnets/spec.l3Step -/
@[reducible] def s_l3Step_sig : Sig := { ps := [none, none, none], pc := [.view .i64, .int .i64, .view .i64], rs := [none], rc := [.row 3 .i64] }
noncomputable def s_l3Step_E : Env' := { fn := fun f => none, ck := ckT, cuts := [(3, [0, 1, 2, 7, 8]), (7, [0, 1, 2, 7]), (9, [0, 1, 2, 7, 9, 10])], mine := fun i => false }
noncomputable def s_l3Step_f (x : Ts s_l3Step_sig.pc) : Option (Ts s_l3Step_sig.rc) := runFn Tryz.prog (s_l3Step_E) Tryz.f125 s_l3Step_sig x
noncomputable def s_l3Step_l0 (y0 : List (Int)) (y1 : Int) (y2 : List (Int)) (y3 : Int) (y4 : Int) : Option ((List (Int))) := from_ Tryz.prog (s_l3Step_E) Tryz.f125 s_l3Step_sig [1, 1, 0, 1, 0] ⟨mkT 58 [(0, .row false .i64 y0), (1, .int .i64 y1), (2, .row false .i64 y2), (7, .int .i64 y3), (8, .int .i64 y4)], []⟩
noncomputable def s_l3Step_j1 (y0 : List (Int)) (y1 : Int) (y2 : List (Int)) (y3 : Int) : Option ((List (Int))) := from_ Tryz.prog (s_l3Step_E) Tryz.f125 s_l3Step_sig [1, 1, 1] ⟨mkT 58 [(0, .row false .i64 y0), (1, .int .i64 y1), (2, .row false .i64 y2), (7, .int .i64 y3)], []⟩
noncomputable def s_l3Step_l2 (y0 : List (Int)) (y1 : Int) (y2 : List (Int)) (y3 : Int) (y4 : Int) (y5 : List (Int)) : Option ((List (Int))) := from_ Tryz.prog (s_l3Step_E) Tryz.f125 s_l3Step_sig [1, 1, 1, 1, 0, 1, 0] ⟨mkT 58 [(0, .row false .i64 y0), (1, .int .i64 y1), (2, .row false .i64 y2), (7, .int .i64 y3), (9, .own 0), (10, .int .i64 y4)], [some (.arr 3 true .i64 y5)]⟩
theorem s_l3Step_f_eq (x0 : (List (Int))) (x1 : (Int)) (x2 : (List (Int))) : s_l3Step_f (x0, x1, x2) = (s_l3Step_l0 x0 x1 x2 0 0) := by
  kernel_rfl
theorem s_l3Step_l0_eq (y0 : List (Int)) (y1 : Int) (y2 : List (Int)) (y3 : Int) (y4 : Int) : s_l3Step_l0 y0 y1 y2 y3 y4 = (cond ((decide (y4 < (List.length y2 : Int)))) (if (0 : Int) ≤ y4 ∧ y4 < (List.length y2 : Int) then (cond (((List.getD y2 (y4 : Int).toNat 0) == 1)) (if y4 < 0 then none else (s_l3Step_l0 y0 y1 y2 (Go.bits .or IntKind.i64 y3 (IntKind.i64.wrap (1 * 2 ^ min (y4 : Int).toNat IntKind.i64.bits))) (IntKind.i64.wrap (y4 + 1)))) (s_l3Step_l0 y0 y1 y2 y3 (IntKind.i64.wrap (y4 + 1)))) else none) (s_l3Step_j1 y0 y1 y2 y3)) := by
  refine (loopK_eq Tryz.prog (s_l3Step_E) (sub (Tryz.f125.body.getD .skip) [1, 1, 0, 1, 0, 0]) _ _).trans ?_
  kernel_rfl
theorem s_l3Step_j1_eq (y0 : List (Int)) (y1 : Int) (y2 : List (Int)) (y3 : Int) : s_l3Step_j1 y0 y1 y2 y3 = (s_l3Step_l2 y0 y1 y2 y3 0 ([] : List (Int))) := by
  kernel_rfl
theorem s_l3Step_l2_eq (y0 : List (Int)) (y1 : Int) (y2 : List (Int)) (y3 : Int) (y4 : Int) (y5 : List (Int)) : s_l3Step_l2 y0 y1 y2 y3 y4 y5 = (cond ((decide (y4 < (List.length y2 : Int)))) (if (0 : Int) ≤ y4 ∧ y4 < (List.length y2 : Int) then (cond ((decide (0 < (List.getD y2 (y4 : Int).toNat 0)))) (if y1 = 0 then none else (if (List.length y5 + List.length ([(Int.tmod (IntKind.i64.wrap ((List.getD y2 (y4 : Int).toNat 0) + 1)) y1)] : List (Int))) * 8 ≤ 140737488355328 then (s_l3Step_l2 y0 y1 y2 y3 (IntKind.i64.wrap (y4 + 1)) (y5 ++ ([(Int.tmod (IntKind.i64.wrap ((List.getD y2 (y4 : Int).toNat 0) + 1)) y1)] : List (Int)))) else none)) (if (0 : Int) ≤ y4 ∧ y4 < (List.length y0 : Int) then (cond (((Go.bits .and IntKind.i64 (List.getD y0 (y4 : Int).toNat 0) y3) != 0)) (if (List.length y5 + List.length ([1] : List (Int))) * 8 ≤ 140737488355328 then (s_l3Step_l2 y0 y1 y2 y3 (IntKind.i64.wrap (y4 + 1)) (y5 ++ ([1] : List (Int)))) else none) (if (List.length y5 + List.length ([(List.getD y2 (y4 : Int).toNat 0)] : List (Int))) * 8 ≤ 140737488355328 then (s_l3Step_l2 y0 y1 y2 y3 (IntKind.i64.wrap (y4 + 1)) (y5 ++ ([(List.getD y2 (y4 : Int).toNat 0)] : List (Int)))) else none)) else none)) else none) (some y5)) := by
  refine (loopK_eq Tryz.prog (s_l3Step_E) (sub (Tryz.f125.body.getD .skip) [1, 1, 1, 1, 0, 1, 0, 0]) _ _).trans ?_
  kernel_rfl
theorem s_l3Step_ent : Entb Tryz.prog 125 := ⟨Tryz.f125, by kernel_rfl, by kernel_rfl, by kernel_rfl⟩
theorem s_l3Step_ok : CtrOk Tryz.prog 125 ⟨s_l3Step_sig, s_l3Step_f⟩ :=
  ctr_of (fn := Tryz.f125) (by kernel_rfl) (by kernel_rfl) (fun x : Ts s_l3Step_sig.pc => s_l3Step_E) (fun x => ⟨fn_none, clo_none, wr_none⟩) (fun h => by cases h) follows_ (fun _ _ => trivial)
end FN

set_option linter.unusedVariables false
namespace FN
open Go Go.Proofs
/-! loop.example/firingnets/spec.l15Made -/
@[reducible] def s_l15Made_sig : Sig := { ps := [some 3, some 3], pc := [.view .i64, .int .i64, .view .i64, .int .i64, .int .i64, .int .i64], rs := [some 3], rc := [.row 3 .i64, .int .i64, .row 3 .i64] }
noncomputable def s_l15Made_E : Env' := { fn := fun f => if f = 85 then some ⟨s_l15Place_sig, s_l15Place_f⟩ else if f = 111 then some ⟨s_l1In_sig, s_l1In_f⟩ else if f = 125 then some ⟨s_l3Step_sig, s_l3Step_f⟩ else none, ck := ckT, cuts := [], mine := fun i => i == 8 || i == 25 || i == 31 || i == 81 || i == 108 }
noncomputable def s_l15Made_f (x : Ts s_l15Made_sig.pc) : Option (Ts s_l15Made_sig.rc) := runFn Tryz.prog (s_l15Made_E) Tryz.f88 s_l15Made_sig x
theorem s_l15Made_f_eq (x0 : (List (Int))) (x1 : (Int)) (x2 : (List (Int))) (x3 : (Int)) (x4 : (Int)) (x5 : (Int)) : s_l15Made_f (x0, x1, x2, x3, x4, x5) = (Option.bind (s_l15Place_f (x0, x1, x2)) fun r1 => (cond (((x3 == 0) && ((x4 == x4) && ((x5 == x5) && true)))) (Option.bind (s_l1In_f (x4, 0, (IntKind.i64.wrap ((List.length x0 : Int) - 1)))) fun r2 => (cond (r2) (Option.bind (s_l1In_f (x5, 0, (IntKind.i64.wrap ((List.length x0 : Int) - 1)))) fun r3 => (cond (r3) (cond ((x4 != x5)) (if (0 : Int) ≤ x4 ∧ x4 < (List.length r1.1 : Int) then (if x5 < 0 then none else (if (0 : Int) ≤ x4 ∧ x4 < (List.length r1.1 : Int) then (if (0 : Int) ≤ x5 ∧ x5 < (List.length (List.set r1.1 (x4 : Int).toNat (Go.bits .xor IntKind.i64 (List.getD r1.1 (x4 : Int).toNat 0) (IntKind.i64.wrap (1 * 2 ^ min (x5 : Int).toNat IntKind.i64.bits)))) : Int) then (if x4 < 0 then none else (if (0 : Int) ≤ x5 ∧ x5 < (List.length (List.set r1.1 (x4 : Int).toNat (Go.bits .xor IntKind.i64 (List.getD r1.1 (x4 : Int).toNat 0) (IntKind.i64.wrap (1 * 2 ^ min (x5 : Int).toNat IntKind.i64.bits)))) : Int) then (some ((List.set (List.set r1.1 (x4 : Int).toNat (Go.bits .xor IntKind.i64 (List.getD r1.1 (x4 : Int).toNat 0) (IntKind.i64.wrap (1 * 2 ^ min (x5 : Int).toNat IntKind.i64.bits)))) (x5 : Int).toNat (Go.bits .xor IntKind.i64 (List.getD (List.set r1.1 (x4 : Int).toNat (Go.bits .xor IntKind.i64 (List.getD r1.1 (x4 : Int).toNat 0) (IntKind.i64.wrap (1 * 2 ^ min (x5 : Int).toNat IntKind.i64.bits)))) (x5 : Int).toNat 0) (IntKind.i64.wrap (1 * 2 ^ min (x4 : Int).toNat IntKind.i64.bits)))), r1.2.1, r1.2.2)) else none)) else none) else none)) else none) (cond (((x3 == 1) && ((x4 == x4) && ((x5 == 0) && true)))) (Option.bind (s_l1In_f (x4, 0, (IntKind.i64.wrap ((List.length x0 : Int) - 1)))) fun r4 => (cond (r4) (if (0 : Int) ≤ x4 ∧ x4 < (List.length x2 : Int) then (cond (((List.getD x2 (x4 : Int).toNat 0) == 0)) (if (0 : Int) ≤ x4 ∧ x4 < (List.length r1.2.2 : Int) then (some (r1.1, r1.2.1, (List.set r1.2.2 (x4 : Int).toNat 1))) else none) (cond (((x3 == 2) && ((x4 == 0) && ((x5 == 0) && true)))) (Option.bind (s_l3Step_f (x0, x1, x2)) fun r5 => (some (r1.1, r1.2.1, r5))) (cond (((x3 == 3) && ((x4 == x4) && ((x5 == 0) && true)))) (some (r1.1, x4, r1.2.2)) (some ([], 0, []))))) else none) (cond (((x3 == 2) && ((x4 == 0) && ((x5 == 0) && true)))) (Option.bind (s_l3Step_f (x0, x1, x2)) fun r6 => (some (r1.1, r1.2.1, r6))) (cond (((x3 == 3) && ((x4 == x4) && ((x5 == 0) && true)))) (some (r1.1, x4, r1.2.2)) (some ([], 0, [])))))) (cond (((x3 == 2) && ((x4 == 0) && ((x5 == 0) && true)))) (Option.bind (s_l3Step_f (x0, x1, x2)) fun r7 => (some (r1.1, r1.2.1, r7))) (cond (((x3 == 3) && ((x4 == x4) && ((x5 == 0) && true)))) (some (r1.1, x4, r1.2.2)) (some ([], 0, [])))))) (cond (((x3 == 1) && ((x4 == x4) && ((x5 == 0) && true)))) (Option.bind (s_l1In_f (x4, 0, (IntKind.i64.wrap ((List.length x0 : Int) - 1)))) fun r8 => (cond (r8) (if (0 : Int) ≤ x4 ∧ x4 < (List.length x2 : Int) then (cond (((List.getD x2 (x4 : Int).toNat 0) == 0)) (if (0 : Int) ≤ x4 ∧ x4 < (List.length r1.2.2 : Int) then (some (r1.1, r1.2.1, (List.set r1.2.2 (x4 : Int).toNat 1))) else none) (cond (((x3 == 2) && ((x4 == 0) && ((x5 == 0) && true)))) (Option.bind (s_l3Step_f (x0, x1, x2)) fun r9 => (some (r1.1, r1.2.1, r9))) (cond (((x3 == 3) && ((x4 == x4) && ((x5 == 0) && true)))) (some (r1.1, x4, r1.2.2)) (some ([], 0, []))))) else none) (cond (((x3 == 2) && ((x4 == 0) && ((x5 == 0) && true)))) (Option.bind (s_l3Step_f (x0, x1, x2)) fun r10 => (some (r1.1, r1.2.1, r10))) (cond (((x3 == 3) && ((x4 == x4) && ((x5 == 0) && true)))) (some (r1.1, x4, r1.2.2)) (some ([], 0, [])))))) (cond (((x3 == 2) && ((x4 == 0) && ((x5 == 0) && true)))) (Option.bind (s_l3Step_f (x0, x1, x2)) fun r11 => (some (r1.1, r1.2.1, r11))) (cond (((x3 == 3) && ((x4 == x4) && ((x5 == 0) && true)))) (some (r1.1, x4, r1.2.2)) (some ([], 0, []))))))) (cond (((x3 == 1) && ((x4 == x4) && ((x5 == 0) && true)))) (Option.bind (s_l1In_f (x4, 0, (IntKind.i64.wrap ((List.length x0 : Int) - 1)))) fun r12 => (cond (r12) (if (0 : Int) ≤ x4 ∧ x4 < (List.length x2 : Int) then (cond (((List.getD x2 (x4 : Int).toNat 0) == 0)) (if (0 : Int) ≤ x4 ∧ x4 < (List.length r1.2.2 : Int) then (some (r1.1, r1.2.1, (List.set r1.2.2 (x4 : Int).toNat 1))) else none) (cond (((x3 == 2) && ((x4 == 0) && ((x5 == 0) && true)))) (Option.bind (s_l3Step_f (x0, x1, x2)) fun r13 => (some (r1.1, r1.2.1, r13))) (cond (((x3 == 3) && ((x4 == x4) && ((x5 == 0) && true)))) (some (r1.1, x4, r1.2.2)) (some ([], 0, []))))) else none) (cond (((x3 == 2) && ((x4 == 0) && ((x5 == 0) && true)))) (Option.bind (s_l3Step_f (x0, x1, x2)) fun r14 => (some (r1.1, r1.2.1, r14))) (cond (((x3 == 3) && ((x4 == x4) && ((x5 == 0) && true)))) (some (r1.1, x4, r1.2.2)) (some ([], 0, [])))))) (cond (((x3 == 2) && ((x4 == 0) && ((x5 == 0) && true)))) (Option.bind (s_l3Step_f (x0, x1, x2)) fun r15 => (some (r1.1, r1.2.1, r15))) (cond (((x3 == 3) && ((x4 == x4) && ((x5 == 0) && true)))) (some (r1.1, x4, r1.2.2)) (some ([], 0, []))))))) (cond (((x3 == 1) && ((x4 == x4) && ((x5 == 0) && true)))) (Option.bind (s_l1In_f (x4, 0, (IntKind.i64.wrap ((List.length x0 : Int) - 1)))) fun r16 => (cond (r16) (if (0 : Int) ≤ x4 ∧ x4 < (List.length x2 : Int) then (cond (((List.getD x2 (x4 : Int).toNat 0) == 0)) (if (0 : Int) ≤ x4 ∧ x4 < (List.length r1.2.2 : Int) then (some (r1.1, r1.2.1, (List.set r1.2.2 (x4 : Int).toNat 1))) else none) (cond (((x3 == 2) && ((x4 == 0) && ((x5 == 0) && true)))) (Option.bind (s_l3Step_f (x0, x1, x2)) fun r17 => (some (r1.1, r1.2.1, r17))) (cond (((x3 == 3) && ((x4 == x4) && ((x5 == 0) && true)))) (some (r1.1, x4, r1.2.2)) (some ([], 0, []))))) else none) (cond (((x3 == 2) && ((x4 == 0) && ((x5 == 0) && true)))) (Option.bind (s_l3Step_f (x0, x1, x2)) fun r18 => (some (r1.1, r1.2.1, r18))) (cond (((x3 == 3) && ((x4 == x4) && ((x5 == 0) && true)))) (some (r1.1, x4, r1.2.2)) (some ([], 0, [])))))) (cond (((x3 == 2) && ((x4 == 0) && ((x5 == 0) && true)))) (Option.bind (s_l3Step_f (x0, x1, x2)) fun r19 => (some (r1.1, r1.2.1, r19))) (cond (((x3 == 3) && ((x4 == x4) && ((x5 == 0) && true)))) (some (r1.1, x4, r1.2.2)) (some ([], 0, []))))))) := by
  kernel_rfl
theorem s_l15Made_ent : Entb Tryz.prog 88 := ⟨Tryz.f88, by kernel_rfl, by kernel_rfl, by kernel_rfl⟩
theorem s_l15Made_ok : CtrOk Tryz.prog 88 ⟨s_l15Made_sig, s_l15Made_f⟩ :=
  ctr_of (fn := Tryz.f88) (by kernel_rfl) (by kernel_rfl) (fun x : Ts s_l15Made_sig.pc => s_l15Made_E) (fun x => ⟨(fn_cons ⟨s_l15Place_ok, s_l15Place_ent⟩ (fn_cons ⟨s_l1In_ok, s_l1In_ent⟩ (fn_cons ⟨s_l3Step_ok, s_l3Step_ent⟩ fn_none))), clo_none, wr_none⟩) (fun h => by cases h) follows_ (fun _ _ => trivial)
end FN

set_option linter.unusedVariables false
namespace FN
open Go Go.Proofs
/-! loop.example/firingnets/spec.DeskDo -/
@[reducible] def s_DeskDo_sig : Sig := { ps := [some 4, some 3], pc := [.view .i64, .int .i64, .view .i64, .view .place, .int .i64, .int .i64, .int .i64], rs := [some 4, none], rc := [.view .i64, .int .i64, .view .i64, .view .place, .bool] }
noncomputable def s_DeskDo_E : Env' := { fn := fun f => if f = 11 then some ⟨s_DeskOk_sig, s_DeskOk_f⟩ else if f = 38 then some ⟨s_l15Copy_sig, s_l15Copy_f⟩ else if f = 42 then some ⟨s_PlaceOk_sig, s_PlaceOk_f⟩ else if f = 88 then some ⟨s_l15Made_sig, s_l15Made_f⟩ else if f = 89 then some ⟨s_PlaceText_sig, s_PlaceText_f⟩ else none, ck := ckT, cuts := [(15, [4, 6, 8])], mine := fun i => i == 10 || i == 14 || i == 43 || i == 45 || i == 49 || i == 52 }
noncomputable def s_DeskDo_f (x : Ts s_DeskDo_sig.pc) : Option (Ts s_DeskDo_sig.rc) := runFn Tryz.prog (s_DeskDo_E) Tryz.f40 s_DeskDo_sig x
noncomputable def s_DeskDo_j0 (y0 : Int) (y1 : Int) (y2 : List (List Int × Int × List Int)) (y3 : Int) (y4 : List (Int)) (y5 : List (Int)) : Option ((List (Int)) × (Int) × (List (Int)) × (List (List Int × Int × List Int)) × (Bool)) := from_ Tryz.prog (s_DeskDo_E) Tryz.f40 s_DeskDo_sig [1, 1, 1, 1, 1, 1, 1, 1] ⟨mkT 74 [(4, .ptr 0 0), (6, .ptr 1 0), (8, .ptr 2 0)], [some (.box 28 [.nilS, .int .i64 y0, .nilS, .nilS]), some (.box 28 [.junk, .int .i64 y1, .junk, .row true .place y2]), some (.box 25 [.own 3, .int .i64 y3, .own 4]), some (.arr 3 true .i64 y4), some (.arr 3 true .i64 y5)]⟩
noncomputable def s_DeskDo_j1 (y0 : Int) (y1 : Int) (y2 : Int) (y3 : List (List Int × Int × List Int)) (y4 : List (Int)) (y5 : List (Int)) : Option ((List (Int)) × (Int) × (List (Int)) × (List (List Int × Int × List Int)) × (Bool)) := from_ Tryz.prog (s_DeskDo_E) Tryz.f40 s_DeskDo_sig [1, 1, 1, 1, 1, 1, 1, 1] ⟨mkT 74 [(4, .ptr 0 0), (6, .ptr 1 0), (8, .ptr 2 0)], [some (.box 28 [.nilS, .int .i64 y0, .nilS, .nilS]), some (.box 28 [.junk, .int .i64 y1, .junk, .own 3]), some (.box 25 [.own 4, .int .i64 y2, .own 5]), some (.arr 25 true .place y3), some (.arr 3 true .i64 y4), some (.arr 3 true .i64 y5)]⟩
theorem s_DeskDo_f_eq (x0 : (List (Int))) (x1 : (Int)) (x2 : (List (Int))) (x3 : (List (List Int × Int × List Int))) (x4 : (Int)) (x5 : (Int)) (x6 : (Int)) : s_DeskDo_f (x0, x1, x2, x3, x4, x5, x6) = (Option.bind (s_DeskOk_f (x0, x1, x2, x3)) fun r1 => (cond ((!r1)) (some ([], 0, [], [], false)) (Option.bind (s_l15Copy_f (x0, x1, x2, x3)) fun r2 => (cond (((x4 == 4) && ((x5 == 0) && ((x6 == 0) && true)))) (cond ((decide (0 < (List.length x3 : Int)))) (if (0 : Int) ≤ (IntKind.i64.wrap ((List.length r2.2.2.2 : Int) - 1)) ∧ (IntKind.i64.wrap ((List.length r2.2.2.2 : Int) - 1)) < (List.length r2.2.2.2 : Int) then (if (0 : Int) ≤ (IntKind.i64.wrap ((List.length r2.2.2.2 : Int) - 1)) ∧ (IntKind.i64.wrap ((List.length r2.2.2.2 : Int) - 1)) ≤ (List.length r2.2.2.2 : Int) then (some ((List.getD r2.2.2.2 ((IntKind.i64.wrap ((List.length r2.2.2.2 : Int) - 1)) : Int).toNat ([], 0, [])).1, (List.getD r2.2.2.2 ((IntKind.i64.wrap ((List.length r2.2.2.2 : Int) - 1)) : Int).toNat ([], 0, [])).2.1, (List.getD r2.2.2.2 ((IntKind.i64.wrap ((List.length r2.2.2.2 : Int) - 1)) : Int).toNat ([], 0, [])).2.2, (List.drop 0 (List.take (((IntKind.i64.wrap ((List.length r2.2.2.2 : Int) - 1)) : Int).toNat) r2.2.2.2)), true)) else none) else none) (Option.bind (s_l15Made_f (x0, x1, x2, x4, x5, x6)) fun r3 => (Option.bind (s_PlaceOk_f (r3.1, r3.2.1, r3.2.2)) fun r4 => (cond ((!r4)) (some (r2.1, r2.2.1, r2.2.2.1, r2.2.2.2, false)) (Option.bind (s_PlaceText_f (r3.1, r3.2.1, r3.2.2)) fun r5 => (Option.bind (s_PlaceText_f (x0, x1, x2)) fun r6 => (cond ((ByteArray.toList r5 == ByteArray.toList r6)) (some (r2.1, r2.2.1, r2.2.2.1, r2.2.2.2, false)) (if (List.length r2.2.2.2 + List.length ([(r2.1, r2.2.1, r2.2.2.1)] : List (List Int × Int × List Int))) * 56 ≤ 140737488355328 then (cond ((decide (8 < (List.length (r2.2.2.2 ++ ([(r2.1, r2.2.1, r2.2.2.1)] : List (List Int × Int × List Int))) : Int)))) (if (0 : Int) ≤ 1 ∧ 1 ≤ (List.length (r2.2.2.2 ++ ([(r2.1, r2.2.1, r2.2.2.1)] : List (List Int × Int × List Int))) : Int) then (s_DeskDo_j0 0 r2.2.1 (List.drop (1 : Int).toNat (List.take ((List.length (r2.2.2.2 ++ ([(r2.1, r2.2.1, r2.2.2.1)] : List (List Int × Int × List Int))))) (r2.2.2.2 ++ ([(r2.1, r2.2.1, r2.2.2.1)] : List (List Int × Int × List Int))))) r3.2.1 r3.1 r3.2.2) else none) (s_DeskDo_j1 0 r2.2.1 r3.2.1 (r2.2.2.2 ++ ([(r2.1, r2.2.1, r2.2.2.1)] : List (List Int × Int × List Int))) r3.1 r3.2.2)) else none)))))))) (Option.bind (s_l15Made_f (x0, x1, x2, x4, x5, x6)) fun r7 => (Option.bind (s_PlaceOk_f (r7.1, r7.2.1, r7.2.2)) fun r8 => (cond ((!r8)) (some (r2.1, r2.2.1, r2.2.2.1, r2.2.2.2, false)) (Option.bind (s_PlaceText_f (r7.1, r7.2.1, r7.2.2)) fun r9 => (Option.bind (s_PlaceText_f (x0, x1, x2)) fun r10 => (cond ((ByteArray.toList r9 == ByteArray.toList r10)) (some (r2.1, r2.2.1, r2.2.2.1, r2.2.2.2, false)) (if (List.length r2.2.2.2 + List.length ([(r2.1, r2.2.1, r2.2.2.1)] : List (List Int × Int × List Int))) * 56 ≤ 140737488355328 then (cond ((decide (8 < (List.length (r2.2.2.2 ++ ([(r2.1, r2.2.1, r2.2.2.1)] : List (List Int × Int × List Int))) : Int)))) (if (0 : Int) ≤ 1 ∧ 1 ≤ (List.length (r2.2.2.2 ++ ([(r2.1, r2.2.1, r2.2.2.1)] : List (List Int × Int × List Int))) : Int) then (s_DeskDo_j0 0 r2.2.1 (List.drop (1 : Int).toNat (List.take ((List.length (r2.2.2.2 ++ ([(r2.1, r2.2.1, r2.2.2.1)] : List (List Int × Int × List Int))))) (r2.2.2.2 ++ ([(r2.1, r2.2.1, r2.2.2.1)] : List (List Int × Int × List Int))))) r7.2.1 r7.1 r7.2.2) else none) (s_DeskDo_j1 0 r2.2.1 r7.2.1 (r2.2.2.2 ++ ([(r2.1, r2.2.1, r2.2.2.1)] : List (List Int × Int × List Int))) r7.1 r7.2.2)) else none))))))))))) := by
  kernel_rfl
theorem s_DeskDo_j0_eq (y0 : Int) (y1 : Int) (y2 : List (List Int × Int × List Int)) (y3 : Int) (y4 : List (Int)) (y5 : List (Int)) : s_DeskDo_j0 y0 y1 y2 y3 y4 y5 = (some (y4, y3, y5, y2, true)) := by
  kernel_rfl
theorem s_DeskDo_j1_eq (y0 : Int) (y1 : Int) (y2 : Int) (y3 : List (List Int × Int × List Int)) (y4 : List (Int)) (y5 : List (Int)) : s_DeskDo_j1 y0 y1 y2 y3 y4 y5 = (some (y4, y2, y5, y3, true)) := by
  kernel_rfl
theorem s_DeskDo_ent : Entb Tryz.prog 40 := ⟨Tryz.f40, by kernel_rfl, by kernel_rfl, by kernel_rfl⟩
theorem s_DeskDo_ok : CtrOk Tryz.prog 40 ⟨s_DeskDo_sig, s_DeskDo_f⟩ :=
  ctr_of (fn := Tryz.f40) (by kernel_rfl) (by kernel_rfl) (fun x : Ts s_DeskDo_sig.pc => s_DeskDo_E) (fun x => ⟨(fn_cons ⟨s_DeskOk_ok, s_DeskOk_ent⟩ (fn_cons ⟨s_l15Copy_ok, s_l15Copy_ent⟩ (fn_cons ⟨s_PlaceOk_ok, s_PlaceOk_ent⟩ (fn_cons ⟨s_l15Made_ok, s_l15Made_ent⟩ (fn_cons ⟨s_PlaceText_ok, s_PlaceText_ent⟩ fn_none))))), clo_none, wr_none⟩) (fun h => by cases h) follows_ (fun _ _ => trivial)
end FN

