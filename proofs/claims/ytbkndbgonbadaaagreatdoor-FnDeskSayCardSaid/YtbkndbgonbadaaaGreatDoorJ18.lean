/- Texts of the proof, joined: parts -/
import Derived.Test.YtbkndbgonbadaaaGreatDoorJ16
import Derived.Test.YtbkndbgonbadaaaGreatDoorJ12
import Derived.Test.YtbkndbgonbadaaaGreatDoorJ0
import Derived.Test.YtbkndbgonbadaaaGreatDoorJ4
import Derived.Test.YtbkndbgonbadaaaGreatDoorJ17
import Derived.Test.YtbkndbgonbadaaaGreatDoorJ14
set_option linter.unusedVariables false
set_option linter.unusedSimpArgs false
set_option linter.unusedSectionVars false
set_option linter.unusedVariables false
namespace FN
open Go Go.Proofs
/-! loop.example/firingnets/impl.DeskSay -/
@[reducible] def i_DeskSay_sig : Sig := { ps := [some 4, none], pc := [.view .i64, .int .i64, .view .i64, .view .place, .view .str], rs := [some 4, none], rc := [.view .i64, .int .i64, .view .i64, .view .place, .view .str] }
noncomputable def i_DeskSay_E : Env' := { fn := fun f => if f = 8 then some ⟨i_DeskLine_sig, i_DeskLine_f⟩ else if f = 14 then some ⟨i_DeskOk_sig, i_DeskOk_f⟩ else if f = 36 then some ⟨i_copyDesk_sig, i_copyDesk_f⟩ else none, ck := ckT, cuts := [(6, [2, 4, 6, 23, 24, 25])], mine := fun i => false }
noncomputable def i_DeskSay_f (x : Ts i_DeskSay_sig.pc) : Option (Ts i_DeskSay_sig.rc) := runFn Tryz.prog (i_DeskSay_E) Tryz.f20 i_DeskSay_sig x
noncomputable def i_DeskSay_l0 (y0 : List (ByteArray)) (y1 : Int) (y2 : Int) (y3 : List (Int)) (y4 : Int) (y5 : List (Int)) (y6 : List (List Int × Int × List Int)) (y7 : Int) (y8 : List (ByteArray)) : Option ((List (Int)) × (Int) × (List (Int)) × (List (List Int × Int × List Int)) × (List (ByteArray))) := from_ Tryz.prog (i_DeskSay_E) Tryz.f20 i_DeskSay_sig [1, 1, 1, 1, 0, 1, 0] ⟨mkT 43 [(2, .ptr 0 0), (4, .ptr 1 0), (6, .own 2), (23, .row false .str y0), (24, .int .i64 y1), (25, .int .i64 y2)], [some (.box 28 [.row true .i64 y3, .int .i64 y4, .row true .i64 y5, .row true .place y6]), some (.box 28 [.nilS, .int .i64 y7, .nilS, .nilS]), some (.arr 9 true .str y8)]⟩
noncomputable def i_DeskSay_l1 (y0 : List (ByteArray)) (y1 : Int) (y2 : Int) (y3 : List (Int)) (y4 : Int) (y5 : List (Int)) (y6 : List (List Int × Int × List Int)) (y7 : Int) (y8 : List (ByteArray)) : Option ((List (Int)) × (Int) × (List (Int)) × (List (List Int × Int × List Int)) × (List (ByteArray))) := from_ Tryz.prog (i_DeskSay_E) Tryz.f20 i_DeskSay_sig [1, 1, 1, 1, 0, 1, 0] ⟨mkT 43 [(2, .ptr 0 0), (4, .ptr 1 0), (6, .own 2), (23, .row false .str y0), (24, .int .i64 y1), (25, .int .i64 y2)], [some (.box 28 [.row false .i64 y3, .int .i64 y4, .row false .i64 y5, .row false .place y6]), some (.box 28 [.nilS, .int .i64 y7, .nilS, .nilS]), some (.arr 9 true .str y8)]⟩
theorem i_DeskSay_f_eq (x0 : (List (Int))) (x1 : (Int)) (x2 : (List (Int))) (x3 : (List (List Int × Int × List Int))) (x4 : (List (ByteArray))) : i_DeskSay_f (x0, x1, x2, x3, x4) = (Option.bind (i_DeskOk_f (x0, x1, x2, x3)) fun r1 => (cond ((!r1)) (some ([], 0, [], [], [])) (cond ((decide (40 < (List.length x4 : Int)))) (some ([], 0, [], [], [])) (Option.bind (i_copyDesk_f (x0, x1, x2, x3)) fun r2 => (i_DeskSay_l0 x4 (List.length x4 : Int) 0 r2.1 r2.2.1 r2.2.2.1 r2.2.2.2 0 ([] : List (ByteArray))))))) := by
  kernel_rfl
theorem i_DeskSay_l0_eq (y0 : List (ByteArray)) (y1 : Int) (y2 : Int) (y3 : List (Int)) (y4 : Int) (y5 : List (Int)) (y6 : List (List Int × Int × List Int)) (y7 : Int) (y8 : List (ByteArray)) : i_DeskSay_l0 y0 y1 y2 y3 y4 y5 y6 y7 y8 = (cond ((decide (y2 < y1))) (if (0 : Int) ≤ y2 ∧ y2 < (List.length y0 : Int) then (Option.bind (i_DeskLine_f (y3, y4, y5, y6, (List.getD y0 (y2 : Int).toNat ByteArray.empty))) fun r1 => (if (List.length y8 + List.length ([r1.2.2.2.2] : List (ByteArray))) * 16 ≤ 140737488355328 then (i_DeskSay_l1 y0 y1 (IntKind.i64.wrap (y2 + 1)) r1.1 r1.2.1 r1.2.2.1 r1.2.2.2.1 y7 (y8 ++ ([r1.2.2.2.2] : List (ByteArray)))) else none)) else none) (some (y3, y4, y5, y6, y8))) := by
  refine (loopK_eq Tryz.prog (i_DeskSay_E) (sub (Tryz.f20.body.getD .skip) [1, 1, 1, 1, 0, 1, 0, 0]) _ _).trans ?_
  kernel_rfl
theorem i_DeskSay_l1_eq (y0 : List (ByteArray)) (y1 : Int) (y2 : Int) (y3 : List (Int)) (y4 : Int) (y5 : List (Int)) (y6 : List (List Int × Int × List Int)) (y7 : Int) (y8 : List (ByteArray)) : i_DeskSay_l1 y0 y1 y2 y3 y4 y5 y6 y7 y8 = (cond ((decide (y2 < y1))) (if (0 : Int) ≤ y2 ∧ y2 < (List.length y0 : Int) then (Option.bind (i_DeskLine_f (y3, y4, y5, y6, (List.getD y0 (y2 : Int).toNat ByteArray.empty))) fun r1 => (if (List.length y8 + List.length ([r1.2.2.2.2] : List (ByteArray))) * 16 ≤ 140737488355328 then (i_DeskSay_l1 y0 y1 (IntKind.i64.wrap (y2 + 1)) r1.1 r1.2.1 r1.2.2.1 r1.2.2.2.1 y7 (y8 ++ ([r1.2.2.2.2] : List (ByteArray)))) else none)) else none) (some (y3, y4, y5, y6, y8))) := by
  refine (loopK_eq Tryz.prog (i_DeskSay_E) (sub (Tryz.f20.body.getD .skip) [1, 1, 1, 1, 0, 1, 0, 0]) _ _).trans ?_
  kernel_rfl
theorem i_DeskSay_ent : Entb Tryz.prog 20 := ⟨Tryz.f20, by kernel_rfl, by kernel_rfl, by kernel_rfl⟩
theorem i_DeskSay_ok : CtrOk Tryz.prog 20 ⟨i_DeskSay_sig, i_DeskSay_f⟩ :=
  ctr_of (fn := Tryz.f20) (by kernel_rfl) (by kernel_rfl) (fun x : Ts i_DeskSay_sig.pc => i_DeskSay_E) (fun x => ⟨(fn_cons ⟨i_DeskLine_ok, i_DeskLine_ent⟩ (fn_cons ⟨i_DeskOk_ok, i_DeskOk_ent⟩ (fn_cons ⟨i_copyDesk_ok, i_copyDesk_ent⟩ fn_none))), clo_none, wr_none⟩) (fun h => by cases h) follows_ (fun _ _ => trivial)
end FN

set_option linter.unusedVariables false
namespace FN
open Go Go.Proofs
/-! loop.example/firingnets/spec.DeskSay -/
@[reducible] def s_DeskSay_sig : Sig := { ps := [some 4, none], pc := [.view .i64, .int .i64, .view .i64, .view .place, .view .str], rs := [some 4, none], rc := [.view .i64, .int .i64, .view .i64, .view .place, .view .str] }
noncomputable def s_DeskSay_E : Env' := { fn := fun f => if f = 9 then some ⟨s_DeskLine_sig, s_DeskLine_f⟩ else if f = 11 then some ⟨s_DeskOk_sig, s_DeskOk_f⟩ else if f = 38 then some ⟨s_l15Copy_sig, s_l15Copy_f⟩ else none, ck := ckT, cuts := [(6, [1, 4, 6, 7, 8])], mine := fun i => false }
noncomputable def s_DeskSay_f (x : Ts s_DeskSay_sig.pc) : Option (Ts s_DeskSay_sig.rc) := runFn Tryz.prog (s_DeskSay_E) Tryz.f17 s_DeskSay_sig x
noncomputable def s_DeskSay_l0 (y0 : List (ByteArray)) (y1 : Int) (y2 : Int) (y3 : List (ByteArray)) (y4 : List (Int)) (y5 : Int) (y6 : List (Int)) (y7 : List (List Int × Int × List Int)) : Option ((List (Int)) × (Int) × (List (Int)) × (List (List Int × Int × List Int)) × (List (ByteArray))) := from_ Tryz.prog (s_DeskSay_E) Tryz.f17 s_DeskSay_sig [1, 1, 1, 1, 0, 1, 0] ⟨mkT 46 [(1, .row false .str y0), (4, .ptr 0 0), (6, .own 1), (7, .ptr 2 0), (8, .int .i64 y1)], [some (.box 28 [.nilS, .int .i64 y2, .nilS, .nilS]), some (.arr 9 true .str y3), some (.box 28 [.row true .i64 y4, .int .i64 y5, .row true .i64 y6, .row true .place y7])]⟩
noncomputable def s_DeskSay_l1 (y0 : List (ByteArray)) (y1 : Int) (y2 : Int) (y3 : List (ByteArray)) (y4 : List (Int)) (y5 : Int) (y6 : List (Int)) (y7 : List (List Int × Int × List Int)) : Option ((List (Int)) × (Int) × (List (Int)) × (List (List Int × Int × List Int)) × (List (ByteArray))) := from_ Tryz.prog (s_DeskSay_E) Tryz.f17 s_DeskSay_sig [1, 1, 1, 1, 0, 1, 0] ⟨mkT 46 [(1, .row false .str y0), (4, .ptr 0 0), (6, .own 1), (7, .ptr 2 0), (8, .int .i64 y1)], [some (.box 28 [.nilS, .int .i64 y2, .nilS, .nilS]), some (.arr 9 true .str y3), some (.box 28 [.row false .i64 y4, .int .i64 y5, .row false .i64 y6, .row false .place y7])]⟩
theorem s_DeskSay_f_eq (x0 : (List (Int))) (x1 : (Int)) (x2 : (List (Int))) (x3 : (List (List Int × Int × List Int))) (x4 : (List (ByteArray))) : s_DeskSay_f (x0, x1, x2, x3, x4) = (Option.bind (s_DeskOk_f (x0, x1, x2, x3)) fun r1 => (cond ((!r1)) (some ([], 0, [], [], ([] : List (ByteArray)))) (cond ((decide (40 < (List.length x4 : Int)))) (some ([], 0, [], [], ([] : List (ByteArray)))) (Option.bind (s_l15Copy_f (x0, x1, x2, x3)) fun r2 => (s_DeskSay_l0 x4 0 0 ([] : List (ByteArray)) r2.1 r2.2.1 r2.2.2.1 r2.2.2.2))))) := by
  kernel_rfl
theorem s_DeskSay_l0_eq (y0 : List (ByteArray)) (y1 : Int) (y2 : Int) (y3 : List (ByteArray)) (y4 : List (Int)) (y5 : Int) (y6 : List (Int)) (y7 : List (List Int × Int × List Int)) : s_DeskSay_l0 y0 y1 y2 y3 y4 y5 y6 y7 = (cond ((decide (y1 < (List.length y0 : Int)))) (if (0 : Int) ≤ y1 ∧ y1 < (List.length y0 : Int) then (Option.bind (s_DeskLine_f (y4, y5, y6, y7, (List.getD y0 (y1 : Int).toNat ByteArray.empty))) fun r1 => (if (List.length y3 + List.length ([r1.2.2.2.2] : List (ByteArray))) * 16 ≤ 140737488355328 then (s_DeskSay_l1 y0 (IntKind.i64.wrap (y1 + 1)) y2 (y3 ++ ([r1.2.2.2.2] : List (ByteArray))) r1.1 r1.2.1 r1.2.2.1 r1.2.2.2.1) else none)) else none) (some (y4, y5, y6, y7, y3))) := by
  refine (loopK_eq Tryz.prog (s_DeskSay_E) (sub (Tryz.f17.body.getD .skip) [1, 1, 1, 1, 0, 1, 0, 0]) _ _).trans ?_
  refine Eq.trans (b := (cond ((decide (y1 < (List.length y0 : Int)))) (if (0 : Int) ≤ y1 ∧ y1 < (List.length y0 : Int) then (same [(Option.bind (s_DeskLine_f (y4, y5, y6, y7, (List.getD y0 (y1 : Int).toNat ByteArray.empty))) fun r1 => (if (List.length y3 + List.length ([r1.2.2.2.2] : List (ByteArray))) * 16 ≤ 140737488355328 then (s_DeskSay_l1 y0 (IntKind.i64.wrap (y1 + 1)) y2 (y3 ++ ([r1.2.2.2.2] : List (ByteArray))) r1.1 r1.2.1 r1.2.2.1 r1.2.2.2.1) else none)), (Option.bind (s_DeskLine_f (y4, y5, y6, y7, (List.getD y0 (y1 : Int).toNat ByteArray.empty))) fun r1 => (if (List.length y3 + List.length ([r1.2.2.2.2] : List (ByteArray))) * 16 ≤ 140737488355328 then (s_DeskSay_l1 y0 (IntKind.i64.wrap (y1 + 1)) y2 (y3 ++ ([r1.2.2.2.2] : List (ByteArray))) r1.1 r1.2.1 r1.2.2.1 r1.2.2.2.1) else none))]) else none) (some (y4, y5, y6, y7, y3)))) (by kernel_rfl) ?_
  simp only [same2, same3, same4, same5, same6, obind_ite]
theorem s_DeskSay_l1_eq (y0 : List (ByteArray)) (y1 : Int) (y2 : Int) (y3 : List (ByteArray)) (y4 : List (Int)) (y5 : Int) (y6 : List (Int)) (y7 : List (List Int × Int × List Int)) : s_DeskSay_l1 y0 y1 y2 y3 y4 y5 y6 y7 = (cond ((decide (y1 < (List.length y0 : Int)))) (if (0 : Int) ≤ y1 ∧ y1 < (List.length y0 : Int) then (Option.bind (s_DeskLine_f (y4, y5, y6, y7, (List.getD y0 (y1 : Int).toNat ByteArray.empty))) fun r1 => (if (List.length y3 + List.length ([r1.2.2.2.2] : List (ByteArray))) * 16 ≤ 140737488355328 then (s_DeskSay_l1 y0 (IntKind.i64.wrap (y1 + 1)) y2 (y3 ++ ([r1.2.2.2.2] : List (ByteArray))) r1.1 r1.2.1 r1.2.2.1 r1.2.2.2.1) else none)) else none) (some (y4, y5, y6, y7, y3))) := by
  refine (loopK_eq Tryz.prog (s_DeskSay_E) (sub (Tryz.f17.body.getD .skip) [1, 1, 1, 1, 0, 1, 0, 0]) _ _).trans ?_
  refine Eq.trans (b := (cond ((decide (y1 < (List.length y0 : Int)))) (if (0 : Int) ≤ y1 ∧ y1 < (List.length y0 : Int) then (same [(Option.bind (s_DeskLine_f (y4, y5, y6, y7, (List.getD y0 (y1 : Int).toNat ByteArray.empty))) fun r1 => (if (List.length y3 + List.length ([r1.2.2.2.2] : List (ByteArray))) * 16 ≤ 140737488355328 then (s_DeskSay_l1 y0 (IntKind.i64.wrap (y1 + 1)) y2 (y3 ++ ([r1.2.2.2.2] : List (ByteArray))) r1.1 r1.2.1 r1.2.2.1 r1.2.2.2.1) else none)), (Option.bind (s_DeskLine_f (y4, y5, y6, y7, (List.getD y0 (y1 : Int).toNat ByteArray.empty))) fun r1 => (if (List.length y3 + List.length ([r1.2.2.2.2] : List (ByteArray))) * 16 ≤ 140737488355328 then (s_DeskSay_l1 y0 (IntKind.i64.wrap (y1 + 1)) y2 (y3 ++ ([r1.2.2.2.2] : List (ByteArray))) r1.1 r1.2.1 r1.2.2.1 r1.2.2.2.1) else none))]) else none) (some (y4, y5, y6, y7, y3)))) (by kernel_rfl) ?_
  simp only [same2, same3, same4, same5, same6, obind_ite]
theorem s_DeskSay_ent : Entb Tryz.prog 17 := ⟨Tryz.f17, by kernel_rfl, by kernel_rfl, by kernel_rfl⟩
theorem s_DeskSay_ok : CtrOk Tryz.prog 17 ⟨s_DeskSay_sig, s_DeskSay_f⟩ :=
  ctr_of (fn := Tryz.f17) (by kernel_rfl) (by kernel_rfl) (fun x : Ts s_DeskSay_sig.pc => s_DeskSay_E) (fun x => ⟨(fn_cons ⟨s_DeskLine_ok, s_DeskLine_ent⟩ (fn_cons ⟨s_DeskOk_ok, s_DeskOk_ent⟩ (fn_cons ⟨s_l15Copy_ok, s_l15Copy_ent⟩ fn_none))), clo_none, wr_none⟩) (fun h => by cases h) follows_ (fun _ _ => trivial)
end FN

set_option linter.unusedVariables false
namespace FN
open Go Go.Proofs
/-! loop.example/firingnets/spec.DrawDeskLine -/
@[reducible] def s_DrawDeskLine_sig : Sig := { ps := [none], pc := [.view .u8], rs := [some 4, none], rc := [.fview .i64, .int .i64, .fview .i64, .row 25 .place, .str] }
noncomputable def s_DrawDeskLine_E : Env' := { fn := fun f => if f = 31 then some ⟨s_l20Open_sig, s_l20Open_f⟩ else if f = 32 then some ⟨s_l20Desk_sig, s_l20Desk_f⟩ else if f = 33 then some ⟨s_l20Line_sig, s_l20Line_f⟩ else none, ck := ckT, cuts := [], mine := fun i => i == 7 || i == 9 || i == 14 }
noncomputable def s_DrawDeskLine_f (x : Ts s_DrawDeskLine_sig.pc) : Option (Ts s_DrawDeskLine_sig.rc) := runFn Tryz.prog (s_DrawDeskLine_E) Tryz.f7 s_DrawDeskLine_sig x
end FN

set_option linter.unusedVariables false
namespace FN
open Go Go.Proofs
/-! loop.example/firingnets/laws.FnDeskLine -/
@[reducible] def w_FnDeskLine_sig : Sig := { ps := [none], pc := [.view .u8], rs := [none], rc := [.bool] }
noncomputable def w_FnDeskLine_E : Env' := { fn := fun f => if f = 7 then some ⟨s_DrawDeskLine_sig, s_DrawDeskLine_f⟩ else if f = 8 then some ⟨i_DeskLine_sig, i_DeskLine_f⟩ else if f = 9 then some ⟨s_DeskLine_sig, s_DeskLine_f⟩ else if f = 10 then some ⟨w_sameDesk_sig, w_sameDesk_f⟩ else if f = 11 then some ⟨s_DeskOk_sig, s_DeskOk_f⟩ else if f = 12 then some ⟨w_noDesk_sig, w_noDesk_f⟩ else if f = 13 then some ⟨w_alive_sig, w_alive_f⟩ else if f = 14 then some ⟨i_DeskOk_sig, i_DeskOk_f⟩ else none, ck := ckT, cuts := [], mine := fun i => false }
end FN

set_option linter.unusedVariables false
namespace FN
open Go Go.Proofs
/-! loop.example/firingnets/spec.DrawDeskSay -/
@[reducible] def s_DrawDeskSay_sig : Sig := { ps := [none], pc := [.view .u8], rs := [some 4, none], rc := [.fview .i64, .int .i64, .fview .i64, .row 25 .place, .row 9 .str] }
noncomputable def s_DrawDeskSay_E : Env' := { fn := fun f => if f = 31 then some ⟨s_l20Open_sig, s_l20Open_f⟩ else if f = 32 then some ⟨s_l20Desk_sig, s_l20Desk_f⟩ else if f = 33 then some ⟨s_l20Line_sig, s_l20Line_f⟩ else if f = 56 then some ⟨r_pick_sig, r_pick_f⟩ else if f = 57 then some ⟨r_odd_sig, r_odd_f⟩ else none, ck := ckT, cuts := [(5, [2, 4, 5, 6, 7]), (8, [2, 4, 5, 6])], mine := fun i => i == 9 || i == 11 || i == 14 || i == 23 || i == 27 }
noncomputable def s_DrawDeskSay_f (x : Ts s_DrawDeskSay_sig.pc) : Option (Ts s_DrawDeskSay_sig.rc) := runFn Tryz.prog (s_DrawDeskSay_E) Tryz.f27 s_DrawDeskSay_sig x
noncomputable def s_DrawDeskSay_l0 (y0 : Int) (y1 : Int) (y2 : List (Int)) (y3 : Int) (y4 : List (Int)) (y5 : Int) (y6 : List (Int)) (y7 : List (ByteArray)) (y8 : List (List Int × Int × List Int)) : Option ((List (Int)) × (Int) × (List (Int)) × (List (List Int × Int × List Int)) × (List (ByteArray))) := from_ Tryz.prog (s_DrawDeskSay_E) Tryz.f27 s_DrawDeskSay_sig [1, 1, 1, 1, 0, 1, 0] ⟨mkT 31 [(2, .ptr 0 0), (4, .ptr 1 0), (5, .ptr 2 0), (6, .own 3), (7, .int .i64 y0)], [some (.box 28 [.nilS, .int .i64 y1, .nilS, .nilS]), some (.box 83 [.row false .u8 y2, .int .i64 y3]), some (.box 28 [.row true .i64 y4, .int .i64 y5, .row true .i64 y6, .own 4]), some (.arr 9 true .str y7), some (.arr 25 true .place y8)]⟩
noncomputable def s_DrawDeskSay_j1 (y0 : Int) (y1 : List (Int)) (y2 : Int) (y3 : List (Int)) (y4 : Int) (y5 : List (Int)) (y6 : List (ByteArray)) (y7 : List (List Int × Int × List Int)) : Option ((List (Int)) × (Int) × (List (Int)) × (List (List Int × Int × List Int)) × (List (ByteArray))) := from_ Tryz.prog (s_DrawDeskSay_E) Tryz.f27 s_DrawDeskSay_sig [1, 1, 1, 1, 1] ⟨mkT 31 [(2, .ptr 0 0), (4, .ptr 1 0), (5, .ptr 2 0), (6, .own 3)], [some (.box 28 [.nilS, .int .i64 y0, .nilS, .nilS]), some (.box 83 [.row false .u8 y1, .int .i64 y2]), some (.box 28 [.row true .i64 y3, .int .i64 y4, .row true .i64 y5, .own 4]), some (.arr 9 true .str y6), some (.arr 25 true .place y7)]⟩
theorem s_DrawDeskSay_f_eq (x0 : (List (Int))) : s_DrawDeskSay_f x0 = (Option.bind (s_l20Open_f x0) fun r1 => (Option.bind (s_l20Desk_f (r1.1, r1.2, 12)) fun r2 => (Option.bind (r_pick_f (r1.1, r2.2.2.2.2, 6)) fun r3 => (s_DrawDeskSay_l0 r3.1 0 r1.1 r3.2 r2.1 r2.2.1 r2.2.2.1 ([] : List (ByteArray)) r2.2.2.2.1)))) := by
  kernel_rfl
theorem s_DrawDeskSay_l0_eq (y0 : Int) (y1 : Int) (y2 : List (Int)) (y3 : Int) (y4 : List (Int)) (y5 : Int) (y6 : List (Int)) (y7 : List (ByteArray)) (y8 : List (List Int × Int × List Int)) : s_DrawDeskSay_l0 y0 y1 y2 y3 y4 y5 y6 y7 y8 = (cond ((decide (0 < y0))) (Option.bind (s_l20Line_f (y2, y3, y4, y5, y6)) fun r1 => (if (List.length y7 + List.length ([r1.1] : List (ByteArray))) * 16 ≤ 140737488355328 then (s_DrawDeskSay_l0 (IntKind.i64.wrap (y0 - 1)) y1 y2 r1.2 y4 y5 y6 (y7 ++ ([r1.1] : List (ByteArray))) y8) else none)) (s_DrawDeskSay_j1 y1 y2 y3 y4 y5 y6 y7 y8)) := by
  refine (loopK_eq Tryz.prog (s_DrawDeskSay_E) (sub (Tryz.f27.body.getD .skip) [1, 1, 1, 1, 0, 1, 0, 0]) _ _).trans ?_
  kernel_rfl
theorem s_DrawDeskSay_j1_eq (y0 : Int) (y1 : List (Int)) (y2 : Int) (y3 : List (Int)) (y4 : Int) (y5 : List (Int)) (y6 : List (ByteArray)) (y7 : List (List Int × Int × List Int)) : s_DrawDeskSay_j1 y0 y1 y2 y3 y4 y5 y6 y7 = (Option.bind (r_odd_f (y1, y2, 30)) fun r1 => (cond (r1.1) (if (0 : Int) ≤ 41 ∧ 41 * 16 ≤ 140737488355328 ∧ 41 ≤ 140737488355328 then (some (y3, y4, y5, y7, (List.replicate (41 : Int).toNat ByteArray.empty : List (ByteArray)))) else none) (some (y3, y4, y5, y7, y6)))) := by
  kernel_rfl
theorem s_DrawDeskSay_ent : Entb Tryz.prog 27 := ⟨Tryz.f27, by kernel_rfl, by kernel_rfl, by kernel_rfl⟩
theorem s_DrawDeskSay_ok : CtrOk Tryz.prog 27 ⟨s_DrawDeskSay_sig, s_DrawDeskSay_f⟩ :=
  ctr_of (fn := Tryz.f27) (by kernel_rfl) (by kernel_rfl) (fun x : Ts s_DrawDeskSay_sig.pc => s_DrawDeskSay_E) (fun x => ⟨(fn_cons ⟨s_l20Open_ok, s_l20Open_ent⟩ (fn_cons ⟨s_l20Desk_ok, s_l20Desk_ent⟩ (fn_cons ⟨s_l20Line_ok, s_l20Line_ent⟩ (fn_cons ⟨r_pick_ok, r_pick_ent⟩ (fn_cons ⟨r_odd_ok, r_odd_ent⟩ fn_none))))), clo_none, wr_none⟩) (fun h => by cases h) follows_ (fun _ _ => trivial)
end FN

set_option linter.unusedVariables false
namespace FN
open Go Go.Proofs
/-! loop.example/firingnets/laws.sameTexts -/
@[reducible] def w_sameTexts_sig : Sig := { ps := [none, none], pc := [.view .str, .view .str], rs := [none], rc := [.bool] }
noncomputable def w_sameTexts_E : Env' := { fn := fun f => none, ck := ckT, cuts := [(4, [0, 1, 5])], mine := fun i => false }
noncomputable def w_sameTexts_f (x : Ts w_sameTexts_sig.pc) : Option (Ts w_sameTexts_sig.rc) := runFn Tryz.prog (w_sameTexts_E) Tryz.f28 w_sameTexts_sig x
noncomputable def w_sameTexts_l0 (y0 : List (ByteArray)) (y1 : List (ByteArray)) (y2 : Int) : Option ((Bool)) := from_ Tryz.prog (w_sameTexts_E) Tryz.f28 w_sameTexts_sig [1, 1, 0, 1, 0] ⟨mkT 26 [(0, .row false .str y0), (1, .row false .str y1), (5, .int .i64 y2)], []⟩
theorem w_sameTexts_f_eq (x0 : (List (ByteArray))) (x1 : (List (ByteArray))) : w_sameTexts_f (x0, x1) = (cond (((List.length x0 : Int) != (List.length x1 : Int))) (some false) (w_sameTexts_l0 x0 x1 0)) := by
  kernel_rfl
theorem w_sameTexts_l0_eq (y0 : List (ByteArray)) (y1 : List (ByteArray)) (y2 : Int) : w_sameTexts_l0 y0 y1 y2 = (cond ((decide (y2 < (List.length y0 : Int)))) (if (0 : Int) ≤ y2 ∧ y2 < (List.length y0 : Int) then (if (0 : Int) ≤ y2 ∧ y2 < (List.length y1 : Int) then (cond ((!(ByteArray.toList (List.getD y0 (y2 : Int).toNat ByteArray.empty) == ByteArray.toList (List.getD y1 (y2 : Int).toNat ByteArray.empty)))) (some false) (w_sameTexts_l0 y0 y1 (IntKind.i64.wrap (y2 + 1)))) else none) else none) (some true)) := by
  refine (loopK_eq Tryz.prog (w_sameTexts_E) (sub (Tryz.f28.body.getD .skip) [1, 1, 0, 1, 0, 0]) _ _).trans ?_
  kernel_rfl
theorem w_sameTexts_ent : Entb Tryz.prog 28 := ⟨Tryz.f28, by kernel_rfl, by kernel_rfl, by kernel_rfl⟩
theorem w_sameTexts_ok : CtrOk Tryz.prog 28 ⟨w_sameTexts_sig, w_sameTexts_f⟩ :=
  ctr_of (fn := Tryz.f28) (by kernel_rfl) (by kernel_rfl) (fun x : Ts w_sameTexts_sig.pc => w_sameTexts_E) (fun x => ⟨fn_none, clo_none, wr_none⟩) (fun h => by cases h) follows_ (fun _ _ => trivial)
end FN

