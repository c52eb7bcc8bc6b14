/- Texts of the proof, joined: parts -/
import Derived.Test.YtbkndbgonbadaaaGreatDoorJ4
import Derived.Test.YtbkndbgonbadaaaGreatDoorJ1
import Derived.Test.YtbkndbgonbadaaaGreatDoorJ0
import Derived.Test.YtbkndbgonbadaaaGreatDoorJ14
import Derived.Test.YtbkndbgonbadaaaGreatDoorJ15
import Derived.Test.YtbkndbgonbadaaaGreatDoorJ13
import Derived.Test.YtbkndbgonbadaaaGreatDoorJ12
set_option linter.unusedVariables false
set_option linter.unusedSimpArgs false
set_option linter.unusedSectionVars false
set_option linter.unusedVariables false
namespace FN
open Go Go.Proofs
/-! loop.example/firingnets/spec.DeskDo -/
@[reducible] def s_DeskDoO_sig : Sig := { ps := [some 4, some 3], pc := [.view .i64, .int .i64, .view .i64, .view .place, .int .i64, .int .i64, .int .i64], rs := [some 4, none], rc := [.fview .i64, .int .i64, .fview .i64, .row 25 .place, .bool] }
noncomputable def s_DeskDoO_E : Env' := { fn := fun f => if f = 11 then some ⟨s_DeskOk_sig, s_DeskOk_f⟩ else if f = 38 then some ⟨s_l15Copy_sig, s_l15Copy_f⟩ else if f = 42 then some ⟨s_PlaceOk_sig, s_PlaceOk_f⟩ else if f = 88 then some ⟨s_l15Made_sig, s_l15Made_f⟩ else if f = 89 then some ⟨s_PlaceText_sig, s_PlaceText_f⟩ else none, ck := ckT, cuts := [(15, [4, 6, 8])], mine := fun i => i == 10 || i == 14 || i == 37 || i == 43 || i == 45 || i == 49 || i == 52 || i == 69 }
noncomputable def s_DeskDoO_f (x : Ts s_DeskDoO_sig.pc) : Option (Ts s_DeskDoO_sig.rc) := runFn Tryz.prog (s_DeskDoO_E) Tryz.f40 s_DeskDoO_sig x
noncomputable def s_DeskDoO_j0 (y0 : Int) (y1 : Int) (y2 : List (List Int × Int × List Int)) (y3 : Int) (y4 : List (Int)) (y5 : List (Int)) : Option ((List (Int)) × (Int) × (List (Int)) × (List (List Int × Int × List Int)) × (Bool)) := from_ Tryz.prog (s_DeskDoO_E) Tryz.f40 s_DeskDoO_sig [1, 1, 1, 1, 1, 1, 1, 1] ⟨mkT 74 [(4, .ptr 0 0), (6, .ptr 1 0), (8, .ptr 2 0)], [some (.box 28 [.nilS, .int .i64 y0, .nilS, .nilS]), some (.box 28 [.junk, .int .i64 y1, .junk, .row true .place y2]), some (.box 25 [.own 3, .int .i64 y3, .own 4]), some (.arr 3 true .i64 y4), some (.arr 3 true .i64 y5)]⟩
noncomputable def s_DeskDoO_j1 (y0 : Int) (y1 : Int) (y2 : Int) (y3 : List (List Int × Int × List Int)) (y4 : List (Int)) (y5 : List (Int)) : Option ((List (Int)) × (Int) × (List (Int)) × (List (List Int × Int × List Int)) × (Bool)) := from_ Tryz.prog (s_DeskDoO_E) Tryz.f40 s_DeskDoO_sig [1, 1, 1, 1, 1, 1, 1, 1] ⟨mkT 74 [(4, .ptr 0 0), (6, .ptr 1 0), (8, .ptr 2 0)], [some (.box 28 [.nilS, .int .i64 y0, .nilS, .nilS]), some (.box 28 [.junk, .int .i64 y1, .junk, .own 3]), some (.box 25 [.own 4, .int .i64 y2, .own 5]), some (.arr 25 true .place y3), some (.arr 3 true .i64 y4), some (.arr 3 true .i64 y5)]⟩
theorem s_DeskDoO_f_eq (x0 : (List (Int))) (x1 : (Int)) (x2 : (List (Int))) (x3 : (List (List Int × Int × List Int))) (x4 : (Int)) (x5 : (Int)) (x6 : (Int)) : s_DeskDoO_f (x0, x1, x2, x3, x4, x5, x6) = (Option.bind (s_DeskOk_f (x0, x1, x2, x3)) fun r1 => (cond ((!r1)) (some ([], 0, [], [], false)) (Option.bind (s_l15Copy_f (x0, x1, x2, x3)) fun r2 => (cond (((x4 == 4) && ((x5 == 0) && ((x6 == 0) && true)))) (cond ((decide (0 < (List.length x3 : Int)))) (if (0 : Int) ≤ (IntKind.i64.wrap ((List.length r2.2.2.2 : Int) - 1)) ∧ (IntKind.i64.wrap ((List.length r2.2.2.2 : Int) - 1)) < (List.length r2.2.2.2 : Int) then (if (0 : Int) ≤ (IntKind.i64.wrap ((List.length r2.2.2.2 : Int) - 1)) ∧ (IntKind.i64.wrap ((List.length r2.2.2.2 : Int) - 1)) ≤ (List.length r2.2.2.2 : Int) then (some ((List.getD r2.2.2.2 ((IntKind.i64.wrap ((List.length r2.2.2.2 : Int) - 1)) : Int).toNat ([], 0, [])).1, (List.getD r2.2.2.2 ((IntKind.i64.wrap ((List.length r2.2.2.2 : Int) - 1)) : Int).toNat ([], 0, [])).2.1, (List.getD r2.2.2.2 ((IntKind.i64.wrap ((List.length r2.2.2.2 : Int) - 1)) : Int).toNat ([], 0, [])).2.2, (List.take ((IntKind.i64.wrap ((List.length r2.2.2.2 : Int) - 1)) : Int).toNat r2.2.2.2), true)) else none) else none) (Option.bind (s_l15Made_f (x0, x1, x2, x4, x5, x6)) fun r3 => (Option.bind (s_PlaceOk_f (r3.1, r3.2.1, r3.2.2)) fun r4 => (cond ((!r4)) (some (r2.1, r2.2.1, r2.2.2.1, r2.2.2.2, false)) (Option.bind (s_PlaceText_f (r3.1, r3.2.1, r3.2.2)) fun r5 => (Option.bind (s_PlaceText_f (x0, x1, x2)) fun r6 => (cond ((ByteArray.toList r5 == ByteArray.toList r6)) (some (r2.1, r2.2.1, r2.2.2.1, r2.2.2.2, false)) (if (List.length r2.2.2.2 + List.length ([(r2.1, r2.2.1, r2.2.2.1)] : List (List Int × Int × List Int))) * 56 ≤ 140737488355328 then (cond ((decide (8 < (List.length (r2.2.2.2 ++ ([(r2.1, r2.2.1, r2.2.2.1)] : List (List Int × Int × List Int))) : Int)))) (if (0 : Int) ≤ 1 ∧ 1 ≤ (List.length (r2.2.2.2 ++ ([(r2.1, r2.2.1, r2.2.2.1)] : List (List Int × Int × List Int))) : Int) then (s_DeskDoO_j0 0 r2.2.1 (List.drop (1 : Int).toNat (List.take ((List.length (r2.2.2.2 ++ ([(r2.1, r2.2.1, r2.2.2.1)] : List (List Int × Int × List Int))))) (r2.2.2.2 ++ ([(r2.1, r2.2.1, r2.2.2.1)] : List (List Int × Int × List Int))))) r3.2.1 r3.1 r3.2.2) else none) (s_DeskDoO_j1 0 r2.2.1 r3.2.1 (r2.2.2.2 ++ ([(r2.1, r2.2.1, r2.2.2.1)] : List (List Int × Int × List Int))) r3.1 r3.2.2)) else none)))))))) (Option.bind (s_l15Made_f (x0, x1, x2, x4, x5, x6)) fun r7 => (Option.bind (s_PlaceOk_f (r7.1, r7.2.1, r7.2.2)) fun r8 => (cond ((!r8)) (some (r2.1, r2.2.1, r2.2.2.1, r2.2.2.2, false)) (Option.bind (s_PlaceText_f (r7.1, r7.2.1, r7.2.2)) fun r9 => (Option.bind (s_PlaceText_f (x0, x1, x2)) fun r10 => (cond ((ByteArray.toList r9 == ByteArray.toList r10)) (some (r2.1, r2.2.1, r2.2.2.1, r2.2.2.2, false)) (if (List.length r2.2.2.2 + List.length ([(r2.1, r2.2.1, r2.2.2.1)] : List (List Int × Int × List Int))) * 56 ≤ 140737488355328 then (cond ((decide (8 < (List.length (r2.2.2.2 ++ ([(r2.1, r2.2.1, r2.2.2.1)] : List (List Int × Int × List Int))) : Int)))) (if (0 : Int) ≤ 1 ∧ 1 ≤ (List.length (r2.2.2.2 ++ ([(r2.1, r2.2.1, r2.2.2.1)] : List (List Int × Int × List Int))) : Int) then (s_DeskDoO_j0 0 r2.2.1 (List.drop (1 : Int).toNat (List.take ((List.length (r2.2.2.2 ++ ([(r2.1, r2.2.1, r2.2.2.1)] : List (List Int × Int × List Int))))) (r2.2.2.2 ++ ([(r2.1, r2.2.1, r2.2.2.1)] : List (List Int × Int × List Int))))) r7.2.1 r7.1 r7.2.2) else none) (s_DeskDoO_j1 0 r2.2.1 r7.2.1 (r2.2.2.2 ++ ([(r2.1, r2.2.1, r2.2.2.1)] : List (List Int × Int × List Int))) r7.1 r7.2.2)) else none))))))))))) := by
  kernel_rfl
theorem s_DeskDoO_j1_eq (y0 : Int) (y1 : Int) (y2 : Int) (y3 : List (List Int × Int × List Int)) (y4 : List (Int)) (y5 : List (Int)) : s_DeskDoO_j1 y0 y1 y2 y3 y4 y5 = (some (y4, y2, y5, y3, true)) := by
  kernel_rfl
theorem s_DeskDoO_ent : Entb Tryz.prog 40 := ⟨Tryz.f40, by kernel_rfl, by kernel_rfl, by kernel_rfl⟩
theorem s_DeskDoO_ok : CtrOk Tryz.prog 40 ⟨s_DeskDoO_sig, s_DeskDoO_f⟩ :=
  ctr_of (fn := Tryz.f40) (by kernel_rfl) (by kernel_rfl) (fun x : Ts s_DeskDoO_sig.pc => s_DeskDoO_E) (fun x => ⟨(fn_cons ⟨s_DeskOk_ok, s_DeskOk_ent⟩ (fn_cons ⟨s_l15Copy_ok, s_l15Copy_ent⟩ (fn_cons ⟨s_PlaceOk_ok, s_PlaceOk_ent⟩ (fn_cons ⟨s_l15Made_ok, s_l15Made_ent⟩ (fn_cons ⟨s_PlaceText_ok, s_PlaceText_ent⟩ fn_none))))), clo_none, wr_none⟩) (fun h => by cases h) follows_ (fun _ _ => trivial)
end FN

set_option linter.unusedVariables false
namespace FN
open Go Go.Proofs
/-! loop.example/firingnets/spec.DeskNew -/
@[reducible] def s_DeskNew_sig : Sig := { ps := [some 3], pc := [.view .i64, .int .i64, .view .i64], rs := [some 4, none], rc := [.fview .i64, .int .i64, .fview .i64, .row 25 .place, .bool] }
noncomputable def s_DeskNew_E : Env' := { fn := fun f => if f = 42 then some ⟨s_PlaceOk_sig, s_PlaceOk_f⟩ else if f = 85 then some ⟨s_l15Place_sig, s_l15Place_f⟩ else none, ck := ckT, cuts := [], mine := fun i => false }
noncomputable def s_DeskNew_f (x : Ts s_DeskNew_sig.pc) : Option (Ts s_DeskNew_sig.rc) := runFn Tryz.prog (s_DeskNew_E) Tryz.f61 s_DeskNew_sig x
theorem s_DeskNew_f_eq (x0 : (List (Int))) (x1 : (Int)) (x2 : (List (Int))) : s_DeskNew_f (x0, x1, x2) = (Option.bind (s_PlaceOk_f (x0, x1, x2)) fun r1 => (cond ((!r1)) (some ([], 0, [], [], false)) (Option.bind (s_l15Place_f (x0, x1, x2)) fun r2 => (some (r2.1, r2.2.1, r2.2.2, [], true))))) := by
  kernel_rfl
theorem s_DeskNew_ent : Entb Tryz.prog 61 := ⟨Tryz.f61, by kernel_rfl, by kernel_rfl, by kernel_rfl⟩
theorem s_DeskNew_ok : CtrOk Tryz.prog 61 ⟨s_DeskNew_sig, s_DeskNew_f⟩ :=
  ctr_of (fn := Tryz.f61) (by kernel_rfl) (by kernel_rfl) (fun x : Ts s_DeskNew_sig.pc => s_DeskNew_E) (fun x => ⟨(fn_cons ⟨s_PlaceOk_ok, s_PlaceOk_ent⟩ (fn_cons ⟨s_l15Place_ok, s_l15Place_ent⟩ fn_none)), clo_none, wr_none⟩) (fun h => by cases h) follows_ (fun _ _ => trivial)
end FN

set_option linter.unusedVariables false
namespace FN
open Go Go.Proofs
/-! loop.example/firingnets/spec.l20Desk -/
@[reducible] def s_l20Desk_sig : Sig := { rd := some 83, ps := [none], pc := [.view .u8, .int .i64, .int .i64], rs := [some 4], rc := [.fview .i64, .int .i64, .fview .i64, .row 25 .place, .int .i64] }
noncomputable def s_l20Desk_E (b : List Int) : Env' := { keep := [0], rdb := b, fn := fun f => if f = 40 then some ⟨s_DeskDoO_sig, s_DeskDoO_f⟩ else if f = 56 then some ⟨r_pick_sig, r_pick_f⟩ else if f = 57 then some ⟨r_odd_sig, r_odd_f⟩ else if f = 61 then some ⟨s_DeskNew_sig, s_DeskNew_f⟩ else if f = 62 then some ⟨s_l20Place_sig, s_l20Place_f⟩ else if f = 63 then some ⟨s_l20Deed_sig, s_l20Deed_f⟩ else none, ck := ckT, cuts := [(3, [0, 1, 4, 5, 7]), (8, [0, 1, 4, 5])], mine := fun i => i == 12 || i == 13 || i == 17 || i == 27 || i == 28 || i == 35 || i == 37 }
noncomputable def s_l20Desk_f (x : Ts s_l20Desk_sig.pc) : Option (Ts s_l20Desk_sig.rc) := runFn Tryz.prog (s_l20Desk_E x.1) Tryz.f32 s_l20Desk_sig x
noncomputable def s_l20Desk_l0 (b : List Int) (y0 : Int) (y1 : Int) (y2 : List (Int)) (y3 : Int) (y4 : Int) (y5 : List (Int)) (y6 : Int) (y7 : List (Int)) (y8 : List (List Int × Int × List Int)) : Option ((List (Int)) × (Int) × (List (Int)) × (List (List Int × Int × List Int)) × (Int)) := from_ Tryz.prog (s_l20Desk_E b) Tryz.f32 s_l20Desk_sig [1, 1, 0, 1, 0] ⟨mkT 52 [(0, .ptr 0 0), (1, .int .i64 y0), (4, .ptr 1 0), (5, .ptr 2 0), (7, .int .i64 y1)], [some (.box 83 [.row false .u8 y2, .int .i64 y3]), some (.box 28 [.nilS, .int .i64 y4, .nilS, .nilS]), some (.box 28 [.row true .i64 y5, .int .i64 y6, .row true .i64 y7, .own 3]), some (.arr 25 true .place y8)]⟩
noncomputable def s_l20Desk_j1 (b : List Int) (y0 : Int) (y1 : List (Int)) (y2 : Int) (y3 : Int) (y4 : List (Int)) (y5 : Int) (y6 : List (Int)) (y7 : List (List Int × Int × List Int)) : Option ((List (Int)) × (Int) × (List (Int)) × (List (List Int × Int × List Int)) × (Int)) := from_ Tryz.prog (s_l20Desk_E b) Tryz.f32 s_l20Desk_sig [1, 1, 1] ⟨mkT 52 [(0, .ptr 0 0), (1, .int .i64 y0), (4, .ptr 1 0), (5, .ptr 2 0)], [some (.box 83 [.row false .u8 y1, .int .i64 y2]), some (.box 28 [.nilS, .int .i64 y3, .nilS, .nilS]), some (.box 28 [.row true .i64 y4, .int .i64 y5, .row true .i64 y6, .own 3]), some (.arr 25 true .place y7)]⟩
theorem s_l20Desk_f_eq (x0 : (List (Int))) (x1 : (Int)) (x2 : (Int)) : s_l20Desk_f (x0, x1, x2) = (Option.bind (s_l20Place_f (x0, x1, 0)) fun r1 => (Option.bind (s_DeskNew_f (r1.1, r1.2.1, r1.2.2.1)) fun r2 => (Option.bind (r_pick_f (x0, r1.2.2.2, 5)) fun r3 => (s_l20Desk_l0 x0 x2 r3.1 x0 r3.2 0 r2.1 r2.2.1 r2.2.2.1 r2.2.2.2.1)))) := by
  kernel_rfl
theorem s_l20Desk_l0_eq (b : List Int) (y0 : Int) (y1 : Int) (y2 : List (Int)) (y3 : Int) (y4 : Int) (y5 : List (Int)) (y6 : Int) (y7 : List (Int)) (y8 : List (List Int × Int × List Int)) : s_l20Desk_l0 b y0 y1 y2 y3 y4 y5 y6 y7 y8 = (cond ((decide (0 < y1))) (Option.bind (s_l20Deed_f (y2, y3, y5, y6, y7)) fun r1 => (Option.bind (s_DeskDoO_f (y5, y6, y7, y8, r1.1, r1.2.1, r1.2.2.1)) fun r2 => (cond (r2.2.2.2.2) (s_l20Desk_l0 b y0 (IntKind.i64.wrap (y1 - 1)) y2 r1.2.2.2 y4 r2.1 r2.2.1 r2.2.2.1 r2.2.2.2.1) (s_l20Desk_l0 b y0 (IntKind.i64.wrap (y1 - 1)) y2 r1.2.2.2 y4 y5 y6 y7 y8)))) (s_l20Desk_j1 b y0 y2 y3 y4 y5 y6 y7 y8)) := by
  refine (loopK_eq Tryz.prog (s_l20Desk_E b) (sub (Tryz.f32.body.getD .skip) [1, 1, 0, 1, 0, 0]) _ _).trans ?_
  refine Eq.trans (b := (cond ((decide (0 < y1))) (same [(Option.bind (s_l20Deed_f (y2, y3, y5, y6, y7)) fun r1 => (same [(Option.bind (s_DeskDoO_f (y5, y6, y7, y8, r1.1, r1.2.1, r1.2.2.1)) fun r2 => (cond (r2.2.2.2.2) (s_l20Desk_l0 b y0 (IntKind.i64.wrap (y1 - 1)) y2 r1.2.2.2 y4 r2.1 r2.2.1 r2.2.2.1 r2.2.2.2.1) (s_l20Desk_l0 b y0 (IntKind.i64.wrap (y1 - 1)) y2 r1.2.2.2 y4 y5 y6 y7 y8))), (Option.bind (s_DeskDoO_f (y5, y6, y7, y8, r1.1, r1.2.1, r1.2.2.1)) fun r2 => (cond (r2.2.2.2.2) (s_l20Desk_l0 b y0 (IntKind.i64.wrap (y1 - 1)) y2 r1.2.2.2 y4 r2.1 r2.2.1 r2.2.2.1 r2.2.2.2.1) (s_l20Desk_l0 b y0 (IntKind.i64.wrap (y1 - 1)) y2 r1.2.2.2 y4 y5 y6 y7 y8)))])), (Option.bind (s_l20Deed_f (y2, y3, y5, y6, y7)) fun r1 => (Option.bind (s_DeskDoO_f (y5, y6, y7, y8, r1.1, r1.2.1, r1.2.2.1)) fun r2 => (cond (r2.2.2.2.2) (s_l20Desk_l0 b y0 (IntKind.i64.wrap (y1 - 1)) y2 r1.2.2.2 y4 r2.1 r2.2.1 r2.2.2.1 r2.2.2.2.1) (s_l20Desk_l0 b y0 (IntKind.i64.wrap (y1 - 1)) y2 r1.2.2.2 y4 y5 y6 y7 y8))))]) (s_l20Desk_j1 b y0 y2 y3 y4 y5 y6 y7 y8))) (by kernel_rfl) ?_
  simp only [same2, same3, same4, same5, same6, obind_ite]
theorem s_l20Desk_j1_eq (b : List Int) (y0 : Int) (y1 : List (Int)) (y2 : Int) (y3 : Int) (y4 : List (Int)) (y5 : Int) (y6 : List (Int)) (y7 : List (List Int × Int × List Int)) : s_l20Desk_j1 b y0 y1 y2 y3 y4 y5 y6 y7 = (Option.bind (r_odd_f (y1, y2, y0)) fun r1 => (cond (r1.1) (Option.bind (r_pick_f (y1, r1.2, 3)) fun r2 => (cond ((r2.1 == 0)) (if 83 = 83 ∧ y1 = b then (some (y4, 2, y6, y7, r2.2)) else none) (cond ((r2.1 == 1)) (if (List.length y7 + List.length ([([], 0, [])] : List (List Int × Int × List Int))) * 56 ≤ 140737488355328 then (if 83 = 83 ∧ y1 = b then (some (y4, y5, y6, (y7 ++ ([([], 0, [])] : List (List Int × Int × List Int))), r2.2)) else none) else none) (if 83 = 83 ∧ y1 = b then (some ([], 0, [], [], r2.2)) else none)))) (if 83 = 83 ∧ y1 = b then (some (y4, y5, y6, y7, r1.2)) else none))) := by
  kernel_rfl
theorem s_l20Desk_ent : Entb Tryz.prog 32 := ⟨Tryz.f32, by kernel_rfl, by kernel_rfl, by kernel_rfl⟩
theorem s_l20Desk_ok : CtrOk Tryz.prog 32 ⟨s_l20Desk_sig, s_l20Desk_f⟩ :=
  ctr_of (fn := Tryz.f32) (by kernel_rfl) (by kernel_rfl) (fun x : Ts s_l20Desk_sig.pc => s_l20Desk_E x.1) (fun x => ⟨(fn_cons ⟨s_DeskDoO_ok, s_DeskDoO_ent⟩ (fn_cons ⟨r_pick_ok, r_pick_ent⟩ (fn_cons ⟨r_odd_ok, r_odd_ent⟩ (fn_cons ⟨s_DeskNew_ok, s_DeskNew_ent⟩ (fn_cons ⟨s_l20Place_ok, s_l20Place_ent⟩ (fn_cons ⟨s_l20Deed_ok, s_l20Deed_ent⟩ fn_none)))))), clo_none, wr_none⟩) (fun _ x => ⟨rfl, fun b ps h => rd_head h⟩) follows_ (fun _ _ => trivial)
end FN

set_option linter.unusedVariables false
namespace FN
open Go Go.Proofs
/-! loop.example/firingnets/laws.sameDesk -/
@[reducible] def w_sameDesk_sig : Sig := { ps := [some 4, some 4], pc := [.view .i64, .int .i64, .view .i64, .view .place, .view .i64, .int .i64, .view .i64, .view .place], rs := [none], rc := [.bool] }
noncomputable def w_sameDesk_E : Env' := { fn := fun f => if f = 30 then some ⟨w_samePlace_sig, w_samePlace_f⟩ else none, ck := ckT, cuts := [(4, [2, 3, 5])], mine := fun i => false }
noncomputable def w_sameDesk_f (x : Ts w_sameDesk_sig.pc) : Option (Ts w_sameDesk_sig.rc) := runFn Tryz.prog (w_sameDesk_E) Tryz.f10 w_sameDesk_sig x
noncomputable def w_sameDesk_l0 (y0 : Int) (y1 : List (Int)) (y2 : Int) (y3 : List (Int)) (y4 : List (List Int × Int × List Int)) (y5 : List (Int)) (y6 : Int) (y7 : List (Int)) (y8 : List (List Int × Int × List Int)) : Option ((Bool)) := from_ Tryz.prog (w_sameDesk_E) Tryz.f10 w_sameDesk_sig [1, 1, 0, 1, 0] ⟨mkT 40 [(2, .ptr 0 0), (3, .ptr 1 0), (5, .int .i64 y0)], [some (.box 28 [.row false .i64 y1, .int .i64 y2, .row false .i64 y3, .row false .place y4]), some (.box 28 [.row false .i64 y5, .int .i64 y6, .row false .i64 y7, .row false .place y8])]⟩
theorem w_sameDesk_f_eq (x0 : (List (Int))) (x1 : (Int)) (x2 : (List (Int))) (x3 : (List (List Int × Int × List Int))) (x4 : (List (Int))) (x5 : (Int)) (x6 : (List (Int))) (x7 : (List (List Int × Int × List Int))) : w_sameDesk_f (x0, x1, x2, x3, x4, x5, x6, x7) = (Option.bind (w_samePlace_f (x0, x1, x2, x4, x5, x6)) fun r1 => (cond ((!r1)) (some false) (cond (((List.length x3 : Int) != (List.length x7 : Int))) (some false) (w_sameDesk_l0 0 x0 x1 x2 x3 x4 x5 x6 x7)))) := by
  kernel_rfl
theorem w_sameDesk_l0_eq (y0 : Int) (y1 : List (Int)) (y2 : Int) (y3 : List (Int)) (y4 : List (List Int × Int × List Int)) (y5 : List (Int)) (y6 : Int) (y7 : List (Int)) (y8 : List (List Int × Int × List Int)) : w_sameDesk_l0 y0 y1 y2 y3 y4 y5 y6 y7 y8 = (cond ((decide (y0 < (List.length y4 : Int)))) (if (0 : Int) ≤ y0 ∧ y0 < (List.length y4 : Int) then (if (0 : Int) ≤ y0 ∧ y0 < (List.length y8 : Int) then (Option.bind (w_samePlace_f ((List.getD y4 (y0 : Int).toNat ([], 0, [])).1, (List.getD y4 (y0 : Int).toNat ([], 0, [])).2.1, (List.getD y4 (y0 : Int).toNat ([], 0, [])).2.2, (List.getD y8 (y0 : Int).toNat ([], 0, [])).1, (List.getD y8 (y0 : Int).toNat ([], 0, [])).2.1, (List.getD y8 (y0 : Int).toNat ([], 0, [])).2.2)) fun r1 => (cond ((!r1)) (some false) (w_sameDesk_l0 (IntKind.i64.wrap (y0 + 1)) y1 y2 y3 y4 y5 y6 y7 y8))) else none) else none) (some true)) := by
  refine (loopK_eq Tryz.prog (w_sameDesk_E) (sub (Tryz.f10.body.getD .skip) [1, 1, 0, 1, 0, 0]) _ _).trans ?_
  kernel_rfl
theorem w_sameDesk_ent : Entb Tryz.prog 10 := ⟨Tryz.f10, by kernel_rfl, by kernel_rfl, by kernel_rfl⟩
theorem w_sameDesk_ok : CtrOk Tryz.prog 10 ⟨w_sameDesk_sig, w_sameDesk_f⟩ :=
  ctr_of (fn := Tryz.f10) (by kernel_rfl) (by kernel_rfl) (fun x : Ts w_sameDesk_sig.pc => w_sameDesk_E) (fun x => ⟨(fn_cons ⟨w_samePlace_ok, w_samePlace_ent⟩ fn_none), clo_none, wr_none⟩) (fun h => by cases h) follows_ (fun _ _ => trivial)
end FN

set_option linter.unusedVariables false
namespace FN
open Go Go.Proofs
/-! loop.example/firingnets/laws.noDesk -/
@[reducible] def w_noDesk_sig : Sig := { ps := [some 4], pc := [.view .i64, .int .i64, .view .i64, .view .place], rs := [none], rc := [.bool] }
noncomputable def w_noDesk_E : Env' := { fn := fun f => if f = 10 then some ⟨w_sameDesk_sig, w_sameDesk_f⟩ else none, ck := ckT, cuts := [], mine := fun i => false }
noncomputable def w_noDesk_f (x : Ts w_noDesk_sig.pc) : Option (Ts w_noDesk_sig.rc) := runFn Tryz.prog (w_noDesk_E) Tryz.f12 w_noDesk_sig x
theorem w_noDesk_f_eq (x0 : (List (Int))) (x1 : (Int)) (x2 : (List (Int))) (x3 : (List (List Int × Int × List Int))) : w_noDesk_f (x0, x1, x2, x3) = (Option.bind (w_sameDesk_f (x0, x1, x2, x3, [], 0, [], [])) fun r1 => (some r1)) := by
  kernel_rfl
theorem w_noDesk_ent : Entb Tryz.prog 12 := ⟨Tryz.f12, by kernel_rfl, by kernel_rfl, by kernel_rfl⟩
theorem w_noDesk_ok : CtrOk Tryz.prog 12 ⟨w_noDesk_sig, w_noDesk_f⟩ :=
  ctr_of (fn := Tryz.f12) (by kernel_rfl) (by kernel_rfl) (fun x : Ts w_noDesk_sig.pc => w_noDesk_E) (fun x => ⟨(fn_cons ⟨w_sameDesk_ok, w_sameDesk_ent⟩ fn_none), clo_none, wr_none⟩) (fun h => by cases h) follows_ (fun _ _ => trivial)
end FN

set_option linter.unusedVariables false
namespace FN
open Go Go.Proofs
/-! loop.example/firingnets/impl.DeskLine -/
@[reducible] def i_DeskLine_sig : Sig := { ps := [some 4, none], pc := [.view .i64, .int .i64, .view .i64, .view .place, .str], rs := [some 4, none], rc := [.view .i64, .int .i64, .view .i64, .view .place, .str] }
noncomputable def i_DeskLine_E : Env' := { fn := fun f => if f = 14 then some ⟨i_DeskOk_sig, i_DeskOk_f⟩ else if f = 34 then some ⟨i_ReadDeed_sig, i_ReadDeed_f⟩ else if f = 35 then some ⟨i_DeskDo_sig, i_DeskDo_f⟩ else if f = 36 then some ⟨i_copyDesk_sig, i_copyDesk_f⟩ else if f = 37 then some ⟨i_answer_sig, i_answer_f⟩ else none, ck := ckT, cuts := [], mine := fun i => false }
noncomputable def i_DeskLine_f (x : Ts i_DeskLine_sig.pc) : Option (Ts i_DeskLine_sig.rc) := runFn Tryz.prog (i_DeskLine_E) Tryz.f8 i_DeskLine_sig x
theorem i_DeskLine_f_eq (x0 : (List (Int))) (x1 : (Int)) (x2 : (List (Int))) (x3 : (List (List Int × Int × List Int))) (x4 : (ByteArray)) : i_DeskLine_f (x0, x1, x2, x3, x4) = (Option.bind (i_DeskOk_f (x0, x1, x2, x3)) fun r1 => (cond ((!r1)) (some ([], 0, [], [], ByteArray.empty)) (Option.bind (i_ReadDeed_f x4) fun r2 => (cond (r2.2.2.2) (Option.bind (i_DeskDo_f (x0, x1, x2, x3, r2.1, r2.2.1, r2.2.2.1)) fun r3 => (cond ((!r3.2.2.2.2)) (some (r3.1, r3.2.1, r3.2.2.1, r3.2.2.2.1, str46)) (some (r3.1, r3.2.1, r3.2.2.1, r3.2.2.2.1, str47)))) (Option.bind (i_copyDesk_f (x0, x1, x2, x3)) fun r4 => (Option.bind (i_answer_f (x0, x1, x2, x4)) fun r5 => (some (r4.1, r4.2.1, r4.2.2.1, r4.2.2.2, r5)))))))) := by
  kernel_rfl
theorem i_DeskLine_ent : Entb Tryz.prog 8 := ⟨Tryz.f8, by kernel_rfl, by kernel_rfl, by kernel_rfl⟩
theorem i_DeskLine_ok : CtrOk Tryz.prog 8 ⟨i_DeskLine_sig, i_DeskLine_f⟩ :=
  ctr_of (fn := Tryz.f8) (by kernel_rfl) (by kernel_rfl) (fun x : Ts i_DeskLine_sig.pc => i_DeskLine_E) (fun x => ⟨(fn_cons ⟨i_DeskOk_ok, i_DeskOk_ent⟩ (fn_cons ⟨i_ReadDeed_ok, i_ReadDeed_ent⟩ (fn_cons ⟨i_DeskDo_ok, i_DeskDo_ent⟩ (fn_cons ⟨i_copyDesk_ok, i_copyDesk_ent⟩ (fn_cons ⟨i_answer_ok, i_answer_ent⟩ fn_none))))), clo_none, wr_none⟩) (fun h => by cases h) follows_ (fun _ _ => trivial)
end FN

set_option linter.unusedVariables false
namespace FN
open Go Go.Proofs
/-! loop.example/firingnets/spec.DeskLine -/
@[reducible] def s_DeskLine_sig : Sig := { ps := [some 4, none], pc := [.view .i64, .int .i64, .view .i64, .view .place, .str], rs := [some 4, none], rc := [.view .i64, .int .i64, .view .i64, .view .place, .str] }
noncomputable def s_DeskLine_E : Env' := { fn := fun f => if f = 11 then some ⟨s_DeskOk_sig, s_DeskOk_f⟩ else if f = 38 then some ⟨s_l15Copy_sig, s_l15Copy_f⟩ else if f = 39 then some ⟨s_ReadDeed_sig, s_ReadDeed_f⟩ else if f = 40 then some ⟨s_DeskDo_sig, s_DeskDo_f⟩ else if f = 41 then some ⟨s_l15Answer_sig, s_l15Answer_f⟩ else none, ck := ckT, cuts := [], mine := fun i => false }
noncomputable def s_DeskLine_f (x : Ts s_DeskLine_sig.pc) : Option (Ts s_DeskLine_sig.rc) := runFn Tryz.prog (s_DeskLine_E) Tryz.f9 s_DeskLine_sig x
theorem s_DeskLine_f_eq (x0 : (List (Int))) (x1 : (Int)) (x2 : (List (Int))) (x3 : (List (List Int × Int × List Int))) (x4 : (ByteArray)) : s_DeskLine_f (x0, x1, x2, x3, x4) = (Option.bind (s_DeskOk_f (x0, x1, x2, x3)) fun r1 => (cond ((!r1)) (some ([], 0, [], [], ByteArray.empty)) (Option.bind (s_l15Copy_f (x0, x1, x2, x3)) fun r2 => (Option.bind (s_ReadDeed_f x4) fun r3 => (cond (r3.2.2.2) (Option.bind (s_DeskDo_f (x0, x1, x2, x3, r3.1, r3.2.1, r3.2.2.1)) fun r4 => (cond ((!r4.2.2.2.2)) (some (r4.1, r4.2.1, r4.2.2.1, r4.2.2.2.1, str46)) (some (r4.1, r4.2.1, r4.2.2.1, r4.2.2.2.1, str47)))) (Option.bind (s_l15Answer_f (x0, x1, x2, x4)) fun r5 => (some (r2.1, r2.2.1, r2.2.2.1, r2.2.2.2, r5)))))))) := by
  kernel_rfl
theorem s_DeskLine_ent : Entb Tryz.prog 9 := ⟨Tryz.f9, by kernel_rfl, by kernel_rfl, by kernel_rfl⟩
theorem s_DeskLine_ok : CtrOk Tryz.prog 9 ⟨s_DeskLine_sig, s_DeskLine_f⟩ :=
  ctr_of (fn := Tryz.f9) (by kernel_rfl) (by kernel_rfl) (fun x : Ts s_DeskLine_sig.pc => s_DeskLine_E) (fun x => ⟨(fn_cons ⟨s_DeskOk_ok, s_DeskOk_ent⟩ (fn_cons ⟨s_l15Copy_ok, s_l15Copy_ent⟩ (fn_cons ⟨s_ReadDeed_ok, s_ReadDeed_ent⟩ (fn_cons ⟨s_DeskDo_ok, s_DeskDo_ent⟩ (fn_cons ⟨s_l15Answer_ok, s_l15Answer_ent⟩ fn_none))))), clo_none, wr_none⟩) (fun h => by cases h) follows_ (fun _ _ => trivial)
end FN

