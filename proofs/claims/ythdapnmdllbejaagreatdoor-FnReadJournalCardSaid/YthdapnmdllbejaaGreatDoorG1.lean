/- Texts of the proof, joined: The functions, their equations and contracts. -/
import Derived.Test.YthdapnmdllbejaaGreatDoorG0
set_option linter.unusedVariables false
set_option linter.unusedSimpArgs false
set_option linter.unusedSectionVars false
set_option linter.unusedVariables false
namespace FN
open Go Go.Proofs
/-! loop.example/firingnets/spec.l20Desk -/
@[reducible] def s_l20Desk_sig : Sig := { rd := some 69, ps := [none], pc := [.view .u8, .int .i64, .int .i64], rs := [some 4], rc := [.fview .i64, .int .i64, .fview .i64, .row 30 .place, .int .i64] }
noncomputable def s_l20Desk_E (b : List Int) : Env' := { keep := [0], rdb := b, fn := fun f => if f = 19 then some ⟨r_pick_sig, r_pick_f⟩ else if f = 25 then some ⟨r_odd_sig, r_odd_f⟩ else if f = 37 then some ⟨s_l20Place_sig, s_l20Place_f⟩ else if f = 44 then some ⟨s_DeskNew_sig, s_DeskNew_f⟩ else if f = 45 then some ⟨s_DeskDoO_sig, s_DeskDoO_f⟩ else if f = 46 then some ⟨s_l20Deed_sig, s_l20Deed_f⟩ else none, ck := ckT, cuts := [(3, [0, 1, 4, 5, 7]), (8, [0, 1, 4, 5])], mine := fun i => i == 12 || i == 13 || i == 17 || i == 27 || i == 28 || i == 35 || i == 37 }
noncomputable def s_l20Desk_f (x : Ts s_l20Desk_sig.pc) : Option (Ts s_l20Desk_sig.rc) := runFn Tryz.prog (s_l20Desk_E x.1) Tryz.f24 s_l20Desk_sig x
noncomputable def s_l20Desk_l0 (b : List Int) (y0 : Int) (y1 : Int) (y2 : List (Int)) (y3 : Int) (y4 : Int) (y5 : List (Int)) (y6 : Int) (y7 : List (Int)) (y8 : List (List Int × Int × List Int)) : Option ((List (Int)) × (Int) × (List (Int)) × (List (List Int × Int × List Int)) × (Int)) := from_ Tryz.prog (s_l20Desk_E b) Tryz.f24 s_l20Desk_sig [1, 1, 0, 1, 0] ⟨mkT 52 [(0, .ptr 0 0), (1, .int .i64 y0), (4, .ptr 1 0), (5, .ptr 2 0), (7, .int .i64 y1)], [some (.box 69 [.row false .u8 y2, .int .i64 y3]), some (.box 33 [.nilS, .int .i64 y4, .nilS, .nilS]), some (.box 33 [.row true .i64 y5, .int .i64 y6, .row true .i64 y7, .own 3]), some (.arr 30 true .place y8)]⟩
noncomputable def s_l20Desk_j1 (b : List Int) (y0 : Int) (y1 : List (Int)) (y2 : Int) (y3 : Int) (y4 : List (Int)) (y5 : Int) (y6 : List (Int)) (y7 : List (List Int × Int × List Int)) : Option ((List (Int)) × (Int) × (List (Int)) × (List (List Int × Int × List Int)) × (Int)) := from_ Tryz.prog (s_l20Desk_E b) Tryz.f24 s_l20Desk_sig [1, 1, 1] ⟨mkT 52 [(0, .ptr 0 0), (1, .int .i64 y0), (4, .ptr 1 0), (5, .ptr 2 0)], [some (.box 69 [.row false .u8 y1, .int .i64 y2]), some (.box 33 [.nilS, .int .i64 y3, .nilS, .nilS]), some (.box 33 [.row true .i64 y4, .int .i64 y5, .row true .i64 y6, .own 3]), some (.arr 30 true .place y7)]⟩
theorem s_l20Desk_f_eq (x0 : (List (Int))) (x1 : (Int)) (x2 : (Int)) : s_l20Desk_f (x0, x1, x2) = (Option.bind (s_l20Place_f (x0, x1, 0)) fun r1 => (Option.bind (s_DeskNew_f (r1.1, r1.2.1, r1.2.2.1)) fun r2 => (Option.bind (r_pick_f (x0, r1.2.2.2, 5)) fun r3 => (s_l20Desk_l0 x0 x2 r3.1 x0 r3.2 0 r2.1 r2.2.1 r2.2.2.1 r2.2.2.2.1)))) := by
  kernel_rfl
theorem s_l20Desk_l0_eq (b : List Int) (y0 : Int) (y1 : Int) (y2 : List (Int)) (y3 : Int) (y4 : Int) (y5 : List (Int)) (y6 : Int) (y7 : List (Int)) (y8 : List (List Int × Int × List Int)) : s_l20Desk_l0 b y0 y1 y2 y3 y4 y5 y6 y7 y8 = (cond ((decide (0 < y1))) (Option.bind (s_l20Deed_f (y2, y3, y5, y6, y7)) fun r1 => (Option.bind (s_DeskDoO_f (y5, y6, y7, y8, r1.1, r1.2.1, r1.2.2.1)) fun r2 => (cond (r2.2.2.2.2) (s_l20Desk_l0 b y0 (IntKind.i64.wrap (y1 - 1)) y2 r1.2.2.2 y4 r2.1 r2.2.1 r2.2.2.1 r2.2.2.2.1) (s_l20Desk_l0 b y0 (IntKind.i64.wrap (y1 - 1)) y2 r1.2.2.2 y4 y5 y6 y7 y8)))) (s_l20Desk_j1 b y0 y2 y3 y4 y5 y6 y7 y8)) := by
  refine (loopK_eq Tryz.prog (s_l20Desk_E b) (sub (Tryz.f24.body.getD .skip) [1, 1, 0, 1, 0, 0]) _ _).trans ?_
  refine Eq.trans (b := (cond ((decide (0 < y1))) (same [(Option.bind (s_l20Deed_f (y2, y3, y5, y6, y7)) fun r1 => (same [(Option.bind (s_DeskDoO_f (y5, y6, y7, y8, r1.1, r1.2.1, r1.2.2.1)) fun r2 => (cond (r2.2.2.2.2) (s_l20Desk_l0 b y0 (IntKind.i64.wrap (y1 - 1)) y2 r1.2.2.2 y4 r2.1 r2.2.1 r2.2.2.1 r2.2.2.2.1) (s_l20Desk_l0 b y0 (IntKind.i64.wrap (y1 - 1)) y2 r1.2.2.2 y4 y5 y6 y7 y8))), (Option.bind (s_DeskDoO_f (y5, y6, y7, y8, r1.1, r1.2.1, r1.2.2.1)) fun r2 => (cond (r2.2.2.2.2) (s_l20Desk_l0 b y0 (IntKind.i64.wrap (y1 - 1)) y2 r1.2.2.2 y4 r2.1 r2.2.1 r2.2.2.1 r2.2.2.2.1) (s_l20Desk_l0 b y0 (IntKind.i64.wrap (y1 - 1)) y2 r1.2.2.2 y4 y5 y6 y7 y8)))])), (Option.bind (s_l20Deed_f (y2, y3, y5, y6, y7)) fun r1 => (Option.bind (s_DeskDoO_f (y5, y6, y7, y8, r1.1, r1.2.1, r1.2.2.1)) fun r2 => (cond (r2.2.2.2.2) (s_l20Desk_l0 b y0 (IntKind.i64.wrap (y1 - 1)) y2 r1.2.2.2 y4 r2.1 r2.2.1 r2.2.2.1 r2.2.2.2.1) (s_l20Desk_l0 b y0 (IntKind.i64.wrap (y1 - 1)) y2 r1.2.2.2 y4 y5 y6 y7 y8))))]) (s_l20Desk_j1 b y0 y2 y3 y4 y5 y6 y7 y8))) (by kernel_rfl) ?_
  simp only [same2, same3, same4, same5, same6, obind_ite]
theorem s_l20Desk_j1_eq (b : List Int) (y0 : Int) (y1 : List (Int)) (y2 : Int) (y3 : Int) (y4 : List (Int)) (y5 : Int) (y6 : List (Int)) (y7 : List (List Int × Int × List Int)) : s_l20Desk_j1 b y0 y1 y2 y3 y4 y5 y6 y7 = (Option.bind (r_odd_f (y1, y2, y0)) fun r1 => (cond (r1.1) (Option.bind (r_pick_f (y1, r1.2, 3)) fun r2 => (cond ((r2.1 == 0)) (if 69 = 69 ∧ y1 = b then (some (y4, 2, y6, y7, r2.2)) else none) (cond ((r2.1 == 1)) (if (List.length y7 + List.length ([([], 0, [])] : List (List Int × Int × List Int))) * 56 ≤ 140737488355328 then (if 69 = 69 ∧ y1 = b then (some (y4, y5, y6, (y7 ++ ([([], 0, [])] : List (List Int × Int × List Int))), r2.2)) else none) else none) (if 69 = 69 ∧ y1 = b then (some ([], 0, [], [], r2.2)) else none)))) (if 69 = 69 ∧ y1 = b then (some (y4, y5, y6, y7, r1.2)) else none))) := by
  kernel_rfl
theorem s_l20Desk_ent : Entb Tryz.prog 24 := ⟨Tryz.f24, by kernel_rfl, by kernel_rfl, by kernel_rfl⟩
theorem s_l20Desk_ok : CtrOk Tryz.prog 24 ⟨s_l20Desk_sig, s_l20Desk_f⟩ :=
  ctr_of (fn := Tryz.f24) (by kernel_rfl) (by kernel_rfl) (fun x : Ts s_l20Desk_sig.pc => s_l20Desk_E x.1) (fun x => ⟨(fn_cons ⟨r_pick_ok, r_pick_ent⟩ (fn_cons ⟨r_odd_ok, r_odd_ent⟩ (fn_cons ⟨s_l20Place_ok, s_l20Place_ent⟩ (fn_cons ⟨s_DeskNew_ok, s_DeskNew_ent⟩ (fn_cons ⟨s_DeskDoO_ok, s_DeskDoO_ent⟩ (fn_cons ⟨s_l20Deed_ok, s_l20Deed_ent⟩ fn_none)))))), clo_none, wr_none⟩) (fun _ x => ⟨rfl, fun b ps h => rd_head h⟩) follows_ (fun _ _ => trivial)
end FN
set_option linter.unusedVariables false
namespace FN
open Go Go.Proofs
/-! loop.example/firingnets/spec.l20Deeds -/
@[reducible] def s_l20Deeds_sig : Sig := { rd := some 69, ps := [some 3], pc := [.view .u8, .int .i64, .view .i64, .int .i64, .view .i64], rs := [none], rc := [.row 41 .deed, .int .i64] }
noncomputable def s_l20Deeds_E (b : List Int) : Env' := { keep := [0], rdb := b, fn := fun f => if f = 19 then some ⟨r_pick_sig, r_pick_f⟩ else if f = 46 then some ⟨s_l20Deed_sig, s_l20Deed_f⟩ else none, ck := ckT, cuts := [(3, [0, 3, 5, 6])], mine := fun i => false }
noncomputable def s_l20Deeds_f (x : Ts s_l20Deeds_sig.pc) : Option (Ts s_l20Deeds_sig.rc) := runFn Tryz.prog (s_l20Deeds_E x.1) Tryz.f26 s_l20Deeds_sig x
noncomputable def s_l20Deeds_l0 (b : List Int) (y0 : Int) (y1 : List (Int)) (y2 : Int) (y3 : List (Int)) (y4 : Int) (y5 : List (Int)) (y6 : List (Int × Int × Int)) : Option ((List (Int × Int × Int)) × (Int)) := from_ Tryz.prog (s_l20Deeds_E b) Tryz.f26 s_l20Deeds_sig [1, 1, 0, 1, 0] ⟨mkT 21 [(0, .ptr 0 0), (3, .ptr 1 0), (5, .own 2), (6, .int .i64 y0)], [some (.box 69 [.row false .u8 y1, .int .i64 y2]), some (.box 30 [.row false .i64 y3, .int .i64 y4, .row false .i64 y5]), some (.arr 41 true .deed y6)]⟩
theorem s_l20Deeds_f_eq (x0 : (List (Int))) (x1 : (Int)) (x2 : (List (Int))) (x3 : (Int)) (x4 : (List (Int))) : s_l20Deeds_f (x0, x1, x2, x3, x4) = (Option.bind (r_pick_f (x0, x1, 6)) fun r1 => (s_l20Deeds_l0 x0 r1.1 x0 r1.2 x2 x3 x4 ([] : List (Int × Int × Int)))) := by
  kernel_rfl
theorem s_l20Deeds_l0_eq (b : List Int) (y0 : Int) (y1 : List (Int)) (y2 : Int) (y3 : List (Int)) (y4 : Int) (y5 : List (Int)) (y6 : List (Int × Int × Int)) : s_l20Deeds_l0 b y0 y1 y2 y3 y4 y5 y6 = (cond ((decide (0 < y0))) (Option.bind (s_l20Deed_f (y1, y2, y3, y4, y5)) fun r1 => (if (List.length y6 + List.length ([(r1.1, r1.2.1, r1.2.2.1)] : List (Int × Int × Int))) * 24 ≤ 140737488355328 then (s_l20Deeds_l0 b (IntKind.i64.wrap (y0 - 1)) y1 r1.2.2.2 y3 y4 y5 (y6 ++ ([(r1.1, r1.2.1, r1.2.2.1)] : List (Int × Int × Int)))) else none)) (if 69 = 69 ∧ y1 = b then (some (y6, y2)) else none)) := by
  refine (loopK_eq Tryz.prog (s_l20Deeds_E b) (sub (Tryz.f26.body.getD .skip) [1, 1, 0, 1, 0, 0]) _ _).trans ?_
  kernel_rfl
theorem s_l20Deeds_ent : Entb Tryz.prog 26 := ⟨Tryz.f26, by kernel_rfl, by kernel_rfl, by kernel_rfl⟩
theorem s_l20Deeds_ok : CtrOk Tryz.prog 26 ⟨s_l20Deeds_sig, s_l20Deeds_f⟩ :=
  ctr_of (fn := Tryz.f26) (by kernel_rfl) (by kernel_rfl) (fun x : Ts s_l20Deeds_sig.pc => s_l20Deeds_E x.1) (fun x => ⟨(fn_cons ⟨r_pick_ok, r_pick_ent⟩ (fn_cons ⟨s_l20Deed_ok, s_l20Deed_ent⟩ fn_none)), clo_none, wr_none⟩) (fun _ x => ⟨rfl, fun b ps h => rd_head h⟩) follows_ (fun _ _ => trivial)
end FN
set_option linter.unusedVariables false
namespace FN
open Go Go.Proofs
/-! loop.example/firingnets/spec.DrawDeskRun -/
@[reducible] def s_DrawDeskRun_sig : Sig := { ps := [none], pc := [.view .u8], rs := [some 4, none], rc := [.fview .i64, .int .i64, .fview .i64, .row 30 .place, .row 41 .deed] }
noncomputable def s_DrawDeskRun_E : Env' := { fn := fun f => if f = 16 then some ⟨s_l20Open_sig, s_l20Open_f⟩ else if f = 24 then some ⟨s_l20Desk_sig, s_l20Desk_f⟩ else if f = 25 then some ⟨r_odd_sig, r_odd_f⟩ else if f = 26 then some ⟨s_l20Deeds_sig, s_l20Deeds_f⟩ else none, ck := ckT, cuts := [], mine := fun i => i == 7 || i == 9 || i == 11 || i == 18 }
noncomputable def s_DrawDeskRun_f (x : Ts s_DrawDeskRun_sig.pc) : Option (Ts s_DrawDeskRun_sig.rc) := runFn Tryz.prog (s_DrawDeskRun_E) Tryz.f8 s_DrawDeskRun_sig x
theorem s_DrawDeskRun_f_eq (x0 : (List (Int))) : s_DrawDeskRun_f x0 = (Option.bind (s_l20Open_f x0) fun r1 => (Option.bind (s_l20Desk_f (r1.1, r1.2, 12)) fun r2 => (Option.bind (r_odd_f (r1.1, r2.2.2.2.2, 30)) fun r3 => (cond (r3.1) (if (0 : Int) ≤ 41 ∧ 41 * 24 ≤ 140737488355328 ∧ 41 ≤ 140737488355328 then (some (r2.1, r2.2.1, r2.2.2.1, r2.2.2.2.1, (List.replicate (41 : Int).toNat (0, 0, 0) : List (Int × Int × Int)))) else none) (Option.bind (s_l20Deeds_f (r1.1, r3.2, r2.1, r2.2.1, r2.2.2.1)) fun r4 => (some (r2.1, r2.2.1, r2.2.2.1, r2.2.2.2.1, r4.1))))))) := by
  refine Eq.trans (b := (Option.bind (s_l20Open_f x0) fun r1 => (Option.bind (s_l20Desk_f (r1.1, r1.2, 12)) fun r2 => (Option.bind (r_odd_f (r1.1, r2.2.2.2.2, 30)) fun r3 => (cond (r3.1) (same [(if (0 : Int) ≤ 41 ∧ 41 * 24 ≤ 140737488355328 ∧ 41 ≤ 140737488355328 then (some (r2.1, r2.2.1, r2.2.2.1, r2.2.2.2.1, (List.replicate (41 : Int).toNat (0, 0, 0) : List (Int × Int × Int)))) else none), (if (0 : Int) ≤ 41 ∧ 41 * 24 ≤ 140737488355328 ∧ 41 ≤ 140737488355328 then (some (r2.1, r2.2.1, r2.2.2.1, r2.2.2.2.1, (List.replicate (41 : Int).toNat (0, 0, 0) : List (Int × Int × Int)))) else none)]) (Option.bind (s_l20Deeds_f (r1.1, r3.2, r2.1, r2.2.1, r2.2.2.1)) fun r4 => (some (r2.1, r2.2.1, r2.2.2.1, r2.2.2.2.1, r4.1)))))))) (by kernel_rfl) ?_
  simp only [same2, same3, same4, same5, same6, obind_ite]
theorem s_DrawDeskRun_ent : Entb Tryz.prog 8 := ⟨Tryz.f8, by kernel_rfl, by kernel_rfl, by kernel_rfl⟩
theorem s_DrawDeskRun_ok : CtrOk Tryz.prog 8 ⟨s_DrawDeskRun_sig, s_DrawDeskRun_f⟩ :=
  ctr_of (fn := Tryz.f8) (by kernel_rfl) (by kernel_rfl) (fun x : Ts s_DrawDeskRun_sig.pc => s_DrawDeskRun_E) (fun x => ⟨(fn_cons ⟨s_l20Open_ok, s_l20Open_ent⟩ (fn_cons ⟨s_l20Desk_ok, s_l20Desk_ent⟩ (fn_cons ⟨r_odd_ok, r_odd_ent⟩ (fn_cons ⟨s_l20Deeds_ok, s_l20Deeds_ent⟩ fn_none)))), clo_none, wr_none⟩) (fun h => by cases h) follows_ (fun _ _ => trivial)
end FN
/-! strings.Cut: the shelf's contract, as one of ours. -/
namespace FN
open Go Go.Proofs Go.RowKit
def cut3 (s sep : ByteArray) : ByteArray × ByteArray × Bool := (⟨(Lib.cut s.data.toList sep.data.toList).1.toArray⟩, ⟨(Lib.cut s.data.toList sep.data.toList).2.1.toArray⟩, (Lib.cut s.data.toList sep.data.toList).2.2)
@[reducible] def x_strings_Cut_sig : Sig := { ps := [none, none], pc := [.str, .str], rs := [none, none, none], rc := [.str, .str, .bool] }
def x_strings_Cut_f (x : Ts x_strings_Cut_sig.pc) : Option (Ts x_strings_Cut_sig.rc) := if x.1.size < 4294967281 then some (cut3 x.1 x.2) else none
theorem x_strings_Cut_ent : Entb Tryz.prog 21 := ⟨Tryz.f21, by kernel_rfl, by kernel_rfl, by kernel_rfl⟩
theorem x_strings_Cut_ok : CtrOk Tryz.prog 21 ⟨x_strings_Cut_sig, x_strings_Cut_f⟩ := by
  intro w okc args bx x r hI hA hr
  obtain ⟨rfl, fl, h1, h2⟩ := (show bx = none ∧ ∃ fl, flatV [none, none] args.toList = some fl ∧ F2 (V1 (av w okc)) [PV.str x.1, PV.str x.2] fl from hA)
  obtain ⟨p, q, h3, rfl⟩ := flatV_two h1
  obtain ⟨m, hm⟩ := gl_cell hI
  have hx : (if x.1.size < 4294967281 then some (cut3 x.1 x.2) else none) = some r := hr
  split at hx
  · rename_i hc
    injection hx with hx
    subst hx
    cases h2 with
    | cons hp h2 => cases h2 with
      | cons hq _ =>
        have hp : p = .string x.1 := hp
        have hq : q = .string x.2 := hq
        subst hp; subst hq
        have hargs : args = #[.string x.1, .string x.2] := by apply Array.ext'; rw [h3]
        rw [hargs]
        refine (Tryz.strings_Cut x.1 x.2 m w hc hm).mono ?_
        rintro e w' ⟨rfl, n, rfl⟩
        exact ⟨_, rfl, ⟨[.string (cut3 x.1 x.2).1, .string (cut3 x.1 x.2).2.1, .bool (cut3 x.1 x.2).2.2], fun _ => False, ⟨_, _, rfl, rfl, ⟨_, _, rfl, rfl, ⟨_, rfl, rfl⟩⟩⟩, fun i j u u' g hu => by simp [rowsV] at hu, fun k h => h, (fun h => Bool.noConfusion (show (false : Bool) = true from h)), [.string (cut3 x.1 x.2).1, .string (cut3 x.1 x.2).2.1, .bool (cut3 x.1 x.2).2.2], rfl, rfl⟩, ⟨rfl, rfl, rfl, Nat.le_refl _, fun _ _ _ => rfl⟩⟩
  · cases hx
end FN
set_option linter.unusedVariables false
namespace FN
open Go Go.Proofs
/-! loop.example/firingnets/impl.ReadJournal -/
@[reducible] def i_ReadJournal_sig : Sig := { ps := [none], pc := [.str], rs := [none, none], rc := [.row 41 .deed, .int .i64] }
noncomputable def i_ReadJournal_E : Env' := { fn := fun f => if f = 21 then some ⟨x_strings_Cut_sig, x_strings_Cut_f⟩ else if f = 22 then some ⟨i_ReadDeed_sig, i_ReadDeed_f⟩ else none, ck := ckT, cuts := [(3, [0, 4, 5])], mine := fun i => false }
noncomputable def i_ReadJournal_f (x : Ts i_ReadJournal_sig.pc) : Option (Ts i_ReadJournal_sig.rc) := runFn Tryz.prog (i_ReadJournal_E) Tryz.f5 i_ReadJournal_sig x
noncomputable def i_ReadJournal_l0 (y0 : ByteArray) (y1 : Int) (y2 : List (Int × Int × Int)) : Option ((List (Int × Int × Int)) × (Int)) := from_ Tryz.prog (i_ReadJournal_E) Tryz.f5 i_ReadJournal_sig [1, 1, 1, 0] ⟨mkT 42 [(0, .str y0), (4, .own 0), (5, .int .i64 y1)], [some (.arr 41 true .deed y2)]⟩
theorem i_ReadJournal_f_eq (x0 : (ByteArray)) : i_ReadJournal_f x0 = (i_ReadJournal_l0 x0 0 ([] : List (Int × Int × Int))) := by
  kernel_rfl
theorem i_ReadJournal_l0_eq (y0 : ByteArray) (y1 : Int) (y2 : List (Int × Int × Int)) : i_ReadJournal_l0 y0 y1 y2 = (if (0 : Int) ≤ y1 ∧ y1 ≤ (ByteArray.size y0 : Int) then (Option.bind (x_strings_Cut_f ((ByteArray.extract y0 (y1 : Int).toNat (ByteArray.size y0)), str13)) fun r1 => (Option.bind (i_ReadDeed_f r1.1) fun r2 => (cond ((!r1.2.2)) (some (y2, y1)) (cond ((!r2.2.2.2)) (some (y2, y1)) (if (List.length y2 + List.length ([(r2.1, r2.2.1, r2.2.2.1)] : List (Int × Int × Int))) * 24 ≤ 140737488355328 then (i_ReadJournal_l0 y0 (IntKind.i64.wrap (y1 + (IntKind.i64.wrap ((ByteArray.size r1.1 : Int) + 1)))) (y2 ++ ([(r2.1, r2.2.1, r2.2.2.1)] : List (Int × Int × Int)))) else none))))) else none) := by
  refine (loopK_eq Tryz.prog (i_ReadJournal_E) (sub (Tryz.f5.body.getD .skip) [1, 1, 1, 0, 0]) _ _).trans ?_
  kernel_rfl
theorem i_ReadJournal_ent : Entb Tryz.prog 5 := ⟨Tryz.f5, by kernel_rfl, by kernel_rfl, by kernel_rfl⟩
theorem i_ReadJournal_ok : CtrOk Tryz.prog 5 ⟨i_ReadJournal_sig, i_ReadJournal_f⟩ :=
  ctr_of (fn := Tryz.f5) (by kernel_rfl) (by kernel_rfl) (fun x : Ts i_ReadJournal_sig.pc => i_ReadJournal_E) (fun x => ⟨(fn_cons ⟨x_strings_Cut_ok, x_strings_Cut_ent⟩ (fn_cons ⟨i_ReadDeed_ok, i_ReadDeed_ent⟩ fn_none)), clo_none, wr_none⟩) (fun h => by cases h) follows_ (fun _ _ => trivial)
end FN
set_option linter.unusedVariables false
namespace FN
open Go Go.Proofs
/-! loop.example/firingnets/spec.ReadJournal -/
@[reducible] def s_ReadJournal_sig : Sig := { ps := [none], pc := [.str], rs := [none, none], rc := [.row 41 .deed, .int .i64] }
noncomputable def s_ReadJournal_E : Env' := { fn := fun f => if f = 23 then some ⟨s_ReadDeed_sig, s_ReadDeed_f⟩ else none, ck := ckT, cuts := [(4, [0, 4, 5, 6])], mine := fun i => false }
noncomputable def s_ReadJournal_f (x : Ts s_ReadJournal_sig.pc) : Option (Ts s_ReadJournal_sig.rc) := runFn Tryz.prog (s_ReadJournal_E) Tryz.f6 s_ReadJournal_sig x
noncomputable def s_ReadJournal_l0 (y0 : ByteArray) (y1 : Int) (y2 : Int) (y3 : List (Int × Int × Int)) : Option ((List (Int × Int × Int)) × (Int)) := from_ Tryz.prog (s_ReadJournal_E) Tryz.f6 s_ReadJournal_sig [1, 1, 1, 0, 1, 0] ⟨mkT 40 [(0, .str y0), (4, .own 0), (5, .int .i64 y1), (6, .int .i64 y2)], [some (.arr 41 true .deed y3)]⟩
theorem s_ReadJournal_f_eq (x0 : (ByteArray)) : s_ReadJournal_f x0 = (s_ReadJournal_l0 x0 0 0 ([] : List (Int × Int × Int))) := by
  kernel_rfl
theorem s_ReadJournal_l0_eq (y0 : ByteArray) (y1 : Int) (y2 : Int) (y3 : List (Int × Int × Int)) : s_ReadJournal_l0 y0 y1 y2 y3 = (cond ((decide (y2 < (ByteArray.size y0 : Int)))) (if (0 : Int) ≤ y2 ∧ y2 < (ByteArray.size y0 : Int) then (cond ((((List.getD (ByteArray.data y0).toList (y2 : Int).toNat 0).toNat : Int) == 10)) (if (0 : Int) ≤ y2 ∧ y2 ≤ (ByteArray.size y0 : Int) then (if (0 : Int) ≤ y1 ∧ y1 ≤ y2 then (Option.bind (s_ReadDeed_f (ByteArray.extract y0 (y1 : Int).toNat (y2 : Int).toNat)) fun r1 => (cond ((!r1.2.2.2)) (some (y3, y1)) (if (List.length y3 + List.length ([(r1.1, r1.2.1, r1.2.2.1)] : List (Int × Int × Int))) * 24 ≤ 140737488355328 then (s_ReadJournal_l0 y0 (IntKind.i64.wrap (y2 + 1)) (IntKind.i64.wrap (y2 + 1)) (y3 ++ ([(r1.1, r1.2.1, r1.2.2.1)] : List (Int × Int × Int)))) else none))) else none) else none) (s_ReadJournal_l0 y0 y1 (IntKind.i64.wrap (y2 + 1)) y3)) else none) (some (y3, y1))) := by
  refine (loopK_eq Tryz.prog (s_ReadJournal_E) (sub (Tryz.f6.body.getD .skip) [1, 1, 1, 0, 1, 0, 0]) _ _).trans ?_
  kernel_rfl
theorem s_ReadJournal_ent : Entb Tryz.prog 6 := ⟨Tryz.f6, by kernel_rfl, by kernel_rfl, by kernel_rfl⟩
theorem s_ReadJournal_ok : CtrOk Tryz.prog 6 ⟨s_ReadJournal_sig, s_ReadJournal_f⟩ :=
  ctr_of (fn := Tryz.f6) (by kernel_rfl) (by kernel_rfl) (fun x : Ts s_ReadJournal_sig.pc => s_ReadJournal_E) (fun x => ⟨(fn_cons ⟨s_ReadDeed_ok, s_ReadDeed_ent⟩ fn_none), clo_none, wr_none⟩) (fun h => by cases h) follows_ (fun _ _ => trivial)
end FN
set_option linter.unusedVariables false
namespace FN
open Go Go.Proofs
/-! loop.example/firingnets/impl.JournalText -/
@[reducible] def i_JournalText_sig : Sig := { ps := [none], pc := [.view .deed], rs := [none], rc := [.str] }
noncomputable def i_JournalText_E : Env' := { fn := fun f => if f = 11 then some ⟨i_DeedText_sig, i_DeedText_f⟩ else none, ck := ckT, cuts := [(3, [3, 7, 8, 9])], mine := fun i => false }
noncomputable def i_JournalText_f (x : Ts i_JournalText_sig.pc) : Option (Ts i_JournalText_sig.rc) := runFn Tryz.prog (i_JournalText_E) Tryz.f13 i_JournalText_sig x
noncomputable def i_JournalText_l0 (y0 : ByteArray) (y1 : List (Int × Int × Int)) (y2 : Int) (y3 : Int) : Option ((ByteArray)) := from_ Tryz.prog (i_JournalText_E) Tryz.f13 i_JournalText_sig [1, 1, 0, 1, 0] ⟨mkT 23 [(3, .str y0), (7, .row false .deed y1), (8, .int .i64 y2), (9, .int .i64 y3)], []⟩
theorem i_JournalText_f_eq (x0 : (List (Int × Int × Int))) : i_JournalText_f x0 = (i_JournalText_l0 ByteArray.empty x0 (List.length x0 : Int) 0) := by
  kernel_rfl
theorem i_JournalText_l0_eq (y0 : ByteArray) (y1 : List (Int × Int × Int)) (y2 : Int) (y3 : Int) : i_JournalText_l0 y0 y1 y2 y3 = (cond ((decide (y3 < y2))) (if (0 : Int) ≤ y3 ∧ y3 < (List.length y1 : Int) then (Option.bind (i_DeedText_f ((List.getD y1 (y3 : Int).toNat (0, 0, 0)).1, (List.getD y1 (y3 : Int).toNat (0, 0, 0)).2.1, (List.getD y1 (y3 : Int).toNat (0, 0, 0)).2.2)) fun r1 => (cond ((ByteArray.toList r1 == ByteArray.toList ByteArray.empty)) (some ByteArray.empty) (if ByteArray.size r1 + ByteArray.size str13 ≤ 9223372036854775807 then (if ByteArray.size y0 + ByteArray.size (r1 ++ str13) ≤ 9223372036854775807 then (i_JournalText_l0 (y0 ++ (r1 ++ str13)) y1 y2 (IntKind.i64.wrap (y3 + 1))) else none) else none))) else none) (some y0)) := by
  refine (loopK_eq Tryz.prog (i_JournalText_E) (sub (Tryz.f13.body.getD .skip) [1, 1, 0, 1, 0, 0]) _ _).trans ?_
  kernel_rfl
theorem i_JournalText_ent : Entb Tryz.prog 13 := ⟨Tryz.f13, by kernel_rfl, by kernel_rfl, by kernel_rfl⟩
theorem i_JournalText_ok : CtrOk Tryz.prog 13 ⟨i_JournalText_sig, i_JournalText_f⟩ :=
  ctr_of (fn := Tryz.f13) (by kernel_rfl) (by kernel_rfl) (fun x : Ts i_JournalText_sig.pc => i_JournalText_E) (fun x => ⟨(fn_cons ⟨i_DeedText_ok, i_DeedText_ent⟩ fn_none), clo_none, wr_none⟩) (fun h => by cases h) follows_ (fun _ _ => trivial)
end FN
set_option linter.unusedVariables false
namespace FN
open Go Go.Proofs
/-! loop.example/firingnets/spec.JournalText -/
@[reducible] def s_JournalText_sig : Sig := { ps := [none], pc := [.view .deed], rs := [none], rc := [.str] }
noncomputable def s_JournalText_E : Env' := { fn := fun f => if f = 36 then some ⟨s_DeedText_sig, s_DeedText_f⟩ else none, ck := ckT, cuts := [(3, [0, 3, 4])], mine := fun i => false }
noncomputable def s_JournalText_f (x : Ts s_JournalText_sig.pc) : Option (Ts s_JournalText_sig.rc) := runFn Tryz.prog (s_JournalText_E) Tryz.f17 s_JournalText_sig x
noncomputable def s_JournalText_l0 (y0 : List (Int × Int × Int)) (y1 : ByteArray) (y2 : Int) : Option ((ByteArray)) := from_ Tryz.prog (s_JournalText_E) Tryz.f17 s_JournalText_sig [1, 1, 0, 1, 0] ⟨mkT 26 [(0, .row false .deed y0), (3, .str y1), (4, .int .i64 y2)], []⟩
theorem s_JournalText_f_eq (x0 : (List (Int × Int × Int))) : s_JournalText_f x0 = (s_JournalText_l0 x0 ByteArray.empty 0) := by
  kernel_rfl
theorem s_JournalText_l0_eq (y0 : List (Int × Int × Int)) (y1 : ByteArray) (y2 : Int) : s_JournalText_l0 y0 y1 y2 = (cond ((decide (y2 < (List.length y0 : Int)))) (if (0 : Int) ≤ y2 ∧ y2 < (List.length y0 : Int) then (Option.bind (s_DeedText_f ((List.getD y0 (y2 : Int).toNat (0, 0, 0)).1, (List.getD y0 (y2 : Int).toNat (0, 0, 0)).2.1, (List.getD y0 (y2 : Int).toNat (0, 0, 0)).2.2)) fun r1 => (cond ((ByteArray.toList r1 == ByteArray.toList ByteArray.empty)) (some ByteArray.empty) (if (0 : Int) ≤ y2 ∧ y2 < (List.length y0 : Int) then (Option.bind (s_DeedText_f ((List.getD y0 (y2 : Int).toNat (0, 0, 0)).1, (List.getD y0 (y2 : Int).toNat (0, 0, 0)).2.1, (List.getD y0 (y2 : Int).toNat (0, 0, 0)).2.2)) fun r2 => (if ByteArray.size y1 + ByteArray.size r2 ≤ 9223372036854775807 then (if ByteArray.size (y1 ++ r2) + ByteArray.size str13 ≤ 9223372036854775807 then (s_JournalText_l0 y0 ((y1 ++ r2) ++ str13) (IntKind.i64.wrap (y2 + 1))) else none) else none)) else none))) else none) (some y1)) := by
  refine (loopK_eq Tryz.prog (s_JournalText_E) (sub (Tryz.f17.body.getD .skip) [1, 1, 0, 1, 0, 0]) _ _).trans ?_
  kernel_rfl
theorem s_JournalText_ent : Entb Tryz.prog 17 := ⟨Tryz.f17, by kernel_rfl, by kernel_rfl, by kernel_rfl⟩
theorem s_JournalText_ok : CtrOk Tryz.prog 17 ⟨s_JournalText_sig, s_JournalText_f⟩ :=
  ctr_of (fn := Tryz.f17) (by kernel_rfl) (by kernel_rfl) (fun x : Ts s_JournalText_sig.pc => s_JournalText_E) (fun x => ⟨(fn_cons ⟨s_DeedText_ok, s_DeedText_ent⟩ fn_none), clo_none, wr_none⟩) (fun h => by cases h) follows_ (fun _ _ => trivial)
end FN
set_option linter.unusedVariables false
namespace FN
open Go Go.Proofs
/-! loop.example/firingnets/laws.sameDeeds -/
@[reducible] def w_sameDeeds_sig : Sig := { ps := [none, none], pc := [.view .deed, .view .deed], rs := [none], rc := [.bool] }
noncomputable def w_sameDeeds_E : Env' := { fn := fun f => none, ck := ckT, cuts := [(4, [0, 1, 5])], mine := fun i => false }
noncomputable def w_sameDeeds_f (x : Ts w_sameDeeds_sig.pc) : Option (Ts w_sameDeeds_sig.rc) := runFn Tryz.prog (w_sameDeeds_E) Tryz.f7 w_sameDeeds_sig x
noncomputable def w_sameDeeds_l0 (y0 : List (Int × Int × Int)) (y1 : List (Int × Int × Int)) (y2 : Int) : Option ((Bool)) := from_ Tryz.prog (w_sameDeeds_E) Tryz.f7 w_sameDeeds_sig [1, 1, 0, 1, 0] ⟨mkT 26 [(0, .row false .deed y0), (1, .row false .deed y1), (5, .int .i64 y2)], []⟩
theorem w_sameDeeds_f_eq (x0 : (List (Int × Int × Int))) (x1 : (List (Int × Int × Int))) : w_sameDeeds_f (x0, x1) = (cond (((List.length x0 : Int) != (List.length x1 : Int))) (some false) (w_sameDeeds_l0 x0 x1 0)) := by
  kernel_rfl
theorem w_sameDeeds_l0_eq (y0 : List (Int × Int × Int)) (y1 : List (Int × Int × Int)) (y2 : Int) : w_sameDeeds_l0 y0 y1 y2 = (cond ((decide (y2 < (List.length y0 : Int)))) (if (0 : Int) ≤ y2 ∧ y2 < (List.length y0 : Int) then (if (0 : Int) ≤ y2 ∧ y2 < (List.length y1 : Int) then (cond ((!(((List.getD y0 (y2 : Int).toNat (0, 0, 0)).1 == (List.getD y1 (y2 : Int).toNat (0, 0, 0)).1) && (((List.getD y0 (y2 : Int).toNat (0, 0, 0)).2.1 == (List.getD y1 (y2 : Int).toNat (0, 0, 0)).2.1) && (((List.getD y0 (y2 : Int).toNat (0, 0, 0)).2.2 == (List.getD y1 (y2 : Int).toNat (0, 0, 0)).2.2) && true))))) (some false) (w_sameDeeds_l0 y0 y1 (IntKind.i64.wrap (y2 + 1)))) else none) else none) (some true)) := by
  refine (loopK_eq Tryz.prog (w_sameDeeds_E) (sub (Tryz.f7.body.getD .skip) [1, 1, 0, 1, 0, 0]) _ _).trans ?_
  kernel_rfl
theorem w_sameDeeds_ent : Entb Tryz.prog 7 := ⟨Tryz.f7, by kernel_rfl, by kernel_rfl, by kernel_rfl⟩
theorem w_sameDeeds_ok : CtrOk Tryz.prog 7 ⟨w_sameDeeds_sig, w_sameDeeds_f⟩ :=
  ctr_of (fn := Tryz.f7) (by kernel_rfl) (by kernel_rfl) (fun x : Ts w_sameDeeds_sig.pc => w_sameDeeds_E) (fun x => ⟨fn_none, clo_none, wr_none⟩) (fun h => by cases h) follows_ (fun _ _ => trivial)
end FN
set_option linter.unusedVariables false
namespace FN
open Go Go.Proofs
/-! loop.example/firingnets/laws.sameDesk -/
@[reducible] def w_sameDesk_sig : Sig := { ps := [some 4, some 4], pc := [.view .i64, .int .i64, .view .i64, .view .place, .view .i64, .int .i64, .view .i64, .view .place], rs := [none], rc := [.bool] }
noncomputable def w_sameDesk_E : Env' := { fn := fun f => if f = 34 then some ⟨w_samePlace_sig, w_samePlace_f⟩ else none, ck := ckT, cuts := [(4, [2, 3, 5])], mine := fun i => false }
noncomputable def w_sameDesk_f (x : Ts w_sameDesk_sig.pc) : Option (Ts w_sameDesk_sig.rc) := runFn Tryz.prog (w_sameDesk_E) Tryz.f14 w_sameDesk_sig x
noncomputable def w_sameDesk_l0 (y0 : Int) (y1 : List (Int)) (y2 : Int) (y3 : List (Int)) (y4 : List (List Int × Int × List Int)) (y5 : List (Int)) (y6 : Int) (y7 : List (Int)) (y8 : List (List Int × Int × List Int)) : Option ((Bool)) := from_ Tryz.prog (w_sameDesk_E) Tryz.f14 w_sameDesk_sig [1, 1, 0, 1, 0] ⟨mkT 40 [(2, .ptr 0 0), (3, .ptr 1 0), (5, .int .i64 y0)], [some (.box 33 [.row false .i64 y1, .int .i64 y2, .row false .i64 y3, .row false .place y4]), some (.box 33 [.row false .i64 y5, .int .i64 y6, .row false .i64 y7, .row false .place y8])]⟩
theorem w_sameDesk_f_eq (x0 : (List (Int))) (x1 : (Int)) (x2 : (List (Int))) (x3 : (List (List Int × Int × List Int))) (x4 : (List (Int))) (x5 : (Int)) (x6 : (List (Int))) (x7 : (List (List Int × Int × List Int))) : w_sameDesk_f (x0, x1, x2, x3, x4, x5, x6, x7) = (Option.bind (w_samePlace_f (x0, x1, x2, x4, x5, x6)) fun r1 => (cond ((!r1)) (some false) (cond (((List.length x3 : Int) != (List.length x7 : Int))) (some false) (w_sameDesk_l0 0 x0 x1 x2 x3 x4 x5 x6 x7)))) := by
  kernel_rfl
theorem w_sameDesk_l0_eq (y0 : Int) (y1 : List (Int)) (y2 : Int) (y3 : List (Int)) (y4 : List (List Int × Int × List Int)) (y5 : List (Int)) (y6 : Int) (y7 : List (Int)) (y8 : List (List Int × Int × List Int)) : w_sameDesk_l0 y0 y1 y2 y3 y4 y5 y6 y7 y8 = (cond ((decide (y0 < (List.length y4 : Int)))) (if (0 : Int) ≤ y0 ∧ y0 < (List.length y4 : Int) then (if (0 : Int) ≤ y0 ∧ y0 < (List.length y8 : Int) then (Option.bind (w_samePlace_f ((List.getD y4 (y0 : Int).toNat ([], 0, [])).1, (List.getD y4 (y0 : Int).toNat ([], 0, [])).2.1, (List.getD y4 (y0 : Int).toNat ([], 0, [])).2.2, (List.getD y8 (y0 : Int).toNat ([], 0, [])).1, (List.getD y8 (y0 : Int).toNat ([], 0, [])).2.1, (List.getD y8 (y0 : Int).toNat ([], 0, [])).2.2)) fun r1 => (cond ((!r1)) (some false) (w_sameDesk_l0 (IntKind.i64.wrap (y0 + 1)) y1 y2 y3 y4 y5 y6 y7 y8))) else none) else none) (some true)) := by
  refine (loopK_eq Tryz.prog (w_sameDesk_E) (sub (Tryz.f14.body.getD .skip) [1, 1, 0, 1, 0, 0]) _ _).trans ?_
  kernel_rfl
theorem w_sameDesk_ent : Entb Tryz.prog 14 := ⟨Tryz.f14, by kernel_rfl, by kernel_rfl, by kernel_rfl⟩
theorem w_sameDesk_ok : CtrOk Tryz.prog 14 ⟨w_sameDesk_sig, w_sameDesk_f⟩ :=
  ctr_of (fn := Tryz.f14) (by kernel_rfl) (by kernel_rfl) (fun x : Ts w_sameDesk_sig.pc => w_sameDesk_E) (fun x => ⟨(fn_cons ⟨w_samePlace_ok, w_samePlace_ent⟩ fn_none), clo_none, wr_none⟩) (fun h => by cases h) follows_ (fun _ _ => trivial)
end FN
set_option linter.unusedVariables false
namespace FN
open Go Go.Proofs
/-! loop.example/firingnets/impl.DeskRun -/
@[reducible] def i_DeskRun_sig : Sig := { ps := [some 4, none], pc := [.view .i64, .int .i64, .view .i64, .view .place, .view .deed], rs := [some 4, none], rc := [.view .i64, .int .i64, .view .i64, .view .place, .int .i64] }
noncomputable def i_DeskRun_E : Env' := { fn := fun f => if f = 28 then some ⟨i_DeskOk_sig, i_DeskOk_f⟩ else if f = 33 then some ⟨i_doAll_sig, i_doAll_f⟩ else none, ck := ckT, cuts := [], mine := fun i => false }
noncomputable def i_DeskRun_f (x : Ts i_DeskRun_sig.pc) : Option (Ts i_DeskRun_sig.rc) := runFn Tryz.prog (i_DeskRun_E) Tryz.f12 i_DeskRun_sig x
theorem i_DeskRun_f_eq (x0 : (List (Int))) (x1 : (Int)) (x2 : (List (Int))) (x3 : (List (List Int × Int × List Int))) (x4 : (List (Int × Int × Int))) : i_DeskRun_f (x0, x1, x2, x3, x4) = (Option.bind (i_DeskOk_f (x0, x1, x2, x3)) fun r1 => (cond ((!r1)) (some ([], 0, [], [], 0)) (cond ((decide (40 < (List.length x4 : Int)))) (some ([], 0, [], [], 0)) (Option.bind (i_doAll_f (x0, x1, x2, x3, x4)) fun r2 => (some (r2.1, r2.2.1, r2.2.2.1, r2.2.2.2.1, r2.2.2.2.2)))))) := by
  kernel_rfl
theorem i_DeskRun_ent : Entb Tryz.prog 12 := ⟨Tryz.f12, by kernel_rfl, by kernel_rfl, by kernel_rfl⟩
theorem i_DeskRun_ok : CtrOk Tryz.prog 12 ⟨i_DeskRun_sig, i_DeskRun_f⟩ :=
  ctr_of (fn := Tryz.f12) (by kernel_rfl) (by kernel_rfl) (fun x : Ts i_DeskRun_sig.pc => i_DeskRun_E) (fun x => ⟨(fn_cons ⟨i_DeskOk_ok, i_DeskOk_ent⟩ (fn_cons ⟨i_doAll_ok, i_doAll_ent⟩ fn_none)), clo_none, wr_none⟩) (fun h => by cases h) follows_ (fun _ _ => trivial)
end FN
/-! answer: nothing is said of what it answers. -/
namespace FN
open Go Go.Proofs
@[reducible] def i_answer_sig : Sig := { ps := [some 3, none], pc := [.view .i64, .int .i64, .view .i64, .str], rs := [none], rc := [.str] }
def i_answer_f (_ : Ts i_answer_sig.pc) : Option (Ts i_answer_sig.rc) := none
theorem i_answer_f_eq (x0 : List Int) (x1 : Int) (x2 : List Int) (x3 : ByteArray) : i_answer_f (x0, x1, x2, x3) = none := rfl
theorem i_answer_ent : Entb Tryz.prog 31 := ⟨Tryz.f31, by kernel_rfl, by kernel_rfl, by kernel_rfl⟩
theorem i_answer_ok : CtrOk Tryz.prog 31 ⟨i_answer_sig, i_answer_f⟩ := by
  intro w okc args bx x r hI hA hr
  cases hr
end FN
set_option linter.unusedVariables false
namespace FN
open Go Go.Proofs
/-! loop.example/firingnets/impl.DeskLine -/
@[reducible] def i_DeskLine_sig : Sig := { ps := [some 4, none], pc := [.view .i64, .int .i64, .view .i64, .view .place, .str], rs := [some 4, none], rc := [.view .i64, .int .i64, .view .i64, .view .place, .str] }
noncomputable def i_DeskLine_E : Env' := { fn := fun f => if f = 22 then some ⟨i_ReadDeed_sig, i_ReadDeed_f⟩ else if f = 28 then some ⟨i_DeskOk_sig, i_DeskOk_f⟩ else if f = 29 then some ⟨i_DeskDo_sig, i_DeskDo_f⟩ else if f = 30 then some ⟨i_copyDesk_sig, i_copyDesk_f⟩ else if f = 31 then some ⟨i_answer_sig, i_answer_f⟩ else none, ck := ckT, cuts := [], mine := fun i => false }
noncomputable def i_DeskLine_f (x : Ts i_DeskLine_sig.pc) : Option (Ts i_DeskLine_sig.rc) := runFn Tryz.prog (i_DeskLine_E) Tryz.f10 i_DeskLine_sig x
theorem i_DeskLine_f_eq (x0 : (List (Int))) (x1 : (Int)) (x2 : (List (Int))) (x3 : (List (List Int × Int × List Int))) (x4 : (ByteArray)) : i_DeskLine_f (x0, x1, x2, x3, x4) = (Option.bind (i_DeskOk_f (x0, x1, x2, x3)) fun r1 => (cond ((!r1)) (some ([], 0, [], [], ByteArray.empty)) (Option.bind (i_ReadDeed_f x4) fun r2 => (cond (r2.2.2.2) (Option.bind (i_DeskDo_f (x0, x1, x2, x3, r2.1, r2.2.1, r2.2.2.1)) fun r3 => (cond ((!r3.2.2.2.2)) (some (r3.1, r3.2.1, r3.2.2.1, r3.2.2.2.1, str19)) (some (r3.1, r3.2.1, r3.2.2.1, r3.2.2.2.1, str20)))) (Option.bind (i_copyDesk_f (x0, x1, x2, x3)) fun r4 => (Option.bind (i_answer_f (x0, x1, x2, x4)) fun r5 => (some (r4.1, r4.2.1, r4.2.2.1, r4.2.2.2, r5)))))))) := by
  kernel_rfl
theorem i_DeskLine_ent : Entb Tryz.prog 10 := ⟨Tryz.f10, by kernel_rfl, by kernel_rfl, by kernel_rfl⟩
theorem i_DeskLine_ok : CtrOk Tryz.prog 10 ⟨i_DeskLine_sig, i_DeskLine_f⟩ :=
  ctr_of (fn := Tryz.f10) (by kernel_rfl) (by kernel_rfl) (fun x : Ts i_DeskLine_sig.pc => i_DeskLine_E) (fun x => ⟨(fn_cons ⟨i_ReadDeed_ok, i_ReadDeed_ent⟩ (fn_cons ⟨i_DeskOk_ok, i_DeskOk_ent⟩ (fn_cons ⟨i_DeskDo_ok, i_DeskDo_ent⟩ (fn_cons ⟨i_copyDesk_ok, i_copyDesk_ent⟩ (fn_cons ⟨i_answer_ok, i_answer_ent⟩ fn_none))))), clo_none, wr_none⟩) (fun h => by cases h) follows_ (fun _ _ => trivial)
end FN
set_option linter.unusedVariables false
namespace FN
open Go Go.Proofs
/-! loop.example/firingnets/spec.l20Written -/
@[reducible] def s_l20Written_sig : Sig := { rd := some 69, ps := [], pc := [.view .u8, .int .i64], rs := [none], rc := [.row 41 .deed, .int .i64] }
noncomputable def s_l20Written_E (b : List Int) : Env' := { keep := [0], rdb := b, fn := fun f => if f = 26 then some ⟨s_l20Deeds_sig, s_l20Deeds_f⟩ else if f = 36 then some ⟨s_DeedText_sig, s_DeedText_f⟩ else if f = 37 then some ⟨s_l20Place_sig, s_l20Place_f⟩ else none, ck := ckT, cuts := [(4, [0, 3, 4, 5])], mine := fun i => false }
noncomputable def s_l20Written_f (x : Ts s_l20Written_sig.pc) : Option (Ts s_l20Written_sig.rc) := runFn Tryz.prog (s_l20Written_E x.1) Tryz.f18 s_l20Written_sig x
noncomputable def s_l20Written_l0 (b : List Int) (y0 : List (Int × Int × Int)) (y1 : Int) (y2 : List (Int)) (y3 : Int) (y4 : List (Int × Int × Int)) : Option ((List (Int × Int × Int)) × (Int)) := from_ Tryz.prog (s_l20Written_E b) Tryz.f18 s_l20Written_sig [1, 1, 1, 0, 1, 0] ⟨mkT 31 [(0, .ptr 0 0), (3, .own 1), (4, .row true .deed y0), (5, .int .i64 y1)], [some (.box 69 [.row false .u8 y2, .int .i64 y3]), some (.arr 41 true .deed y4)]⟩
theorem s_l20Written_f_eq (x0 : (List (Int))) (x1 : (Int)) : s_l20Written_f (x0, x1) = (Option.bind (s_l20Place_f (x0, x1, 0)) fun r1 => (Option.bind (s_l20Deeds_f (x0, r1.2.2.2, r1.1, r1.2.1, r1.2.2.1)) fun r2 => (s_l20Written_l0 x0 r2.1 0 x0 r2.2 ([] : List (Int × Int × Int))))) := by
  kernel_rfl
theorem s_l20Written_l0_eq (b : List Int) (y0 : List (Int × Int × Int)) (y1 : Int) (y2 : List (Int)) (y3 : Int) (y4 : List (Int × Int × Int)) : s_l20Written_l0 b y0 y1 y2 y3 y4 = (cond ((decide (y1 < (List.length y0 : Int)))) (if (0 : Int) ≤ y1 ∧ y1 < (List.length y0 : Int) then (Option.bind (s_DeedText_f ((List.getD y0 (y1 : Int).toNat (0, 0, 0)).1, (List.getD y0 (y1 : Int).toNat (0, 0, 0)).2.1, (List.getD y0 (y1 : Int).toNat (0, 0, 0)).2.2)) fun r1 => (cond ((!(ByteArray.toList r1 == ByteArray.toList ByteArray.empty))) (if (0 : Int) ≤ y1 ∧ y1 < (List.length y0 : Int) then (if (List.length y4 + List.length ([((List.getD y0 (y1 : Int).toNat (0, 0, 0)).1, (List.getD y0 (y1 : Int).toNat (0, 0, 0)).2.1, (List.getD y0 (y1 : Int).toNat (0, 0, 0)).2.2)] : List (Int × Int × Int))) * 24 ≤ 140737488355328 then (s_l20Written_l0 b y0 (IntKind.i64.wrap (y1 + 1)) y2 y3 (y4 ++ ([((List.getD y0 (y1 : Int).toNat (0, 0, 0)).1, (List.getD y0 (y1 : Int).toNat (0, 0, 0)).2.1, (List.getD y0 (y1 : Int).toNat (0, 0, 0)).2.2)] : List (Int × Int × Int)))) else none) else none) (s_l20Written_l0 b y0 (IntKind.i64.wrap (y1 + 1)) y2 y3 y4))) else none) (if 69 = 69 ∧ y2 = b then (some (y4, y3)) else none)) := by
  refine (loopK_eq Tryz.prog (s_l20Written_E b) (sub (Tryz.f18.body.getD .skip) [1, 1, 1, 0, 1, 0, 0]) _ _).trans ?_
  kernel_rfl
theorem s_l20Written_ent : Entb Tryz.prog 18 := ⟨Tryz.f18, by kernel_rfl, by kernel_rfl, by kernel_rfl⟩
theorem s_l20Written_ok : CtrOk Tryz.prog 18 ⟨s_l20Written_sig, s_l20Written_f⟩ :=
  ctr_of (fn := Tryz.f18) (by kernel_rfl) (by kernel_rfl) (fun x : Ts s_l20Written_sig.pc => s_l20Written_E x.1) (fun x => ⟨(fn_cons ⟨s_l20Deeds_ok, s_l20Deeds_ent⟩ (fn_cons ⟨s_DeedText_ok, s_DeedText_ent⟩ (fn_cons ⟨s_l20Place_ok, s_l20Place_ent⟩ fn_none))), clo_none, wr_none⟩) (fun _ x => ⟨rfl, fun b ps h => rd_head h⟩) follows_ (fun _ _ => trivial)
end FN
set_option linter.unusedVariables false
namespace FN
open Go Go.Proofs
/-! loop.example/firingnets/spec.DrawReadJournal -/
@[reducible] def s_DrawReadJournal_sig : Sig := { ps := [none], pc := [.view .u8], rs := [none], rc := [.str] }
noncomputable def s_DrawReadJournal_E : Env' := { fn := fun f => if f = 16 then some ⟨s_l20Open_sig, s_l20Open_f⟩ else if f = 17 then some ⟨s_JournalText_sig, s_JournalText_f⟩ else if f = 18 then some ⟨s_l20Written_sig, s_l20Written_f⟩ else if f = 19 then some ⟨r_pick_sig, r_pick_f⟩ else if f = 20 then some ⟨s_l20Spoil_sig, s_l20Spoil_f⟩ else none, ck := ckT, cuts := [], mine := fun i => false }
noncomputable def s_DrawReadJournal_f (x : Ts s_DrawReadJournal_sig.pc) : Option (Ts s_DrawReadJournal_sig.rc) := runFn Tryz.prog (s_DrawReadJournal_E) Tryz.f4 s_DrawReadJournal_sig x
theorem s_DrawReadJournal_f_eq (x0 : (List (Int))) : s_DrawReadJournal_f x0 = (Option.bind (s_l20Open_f x0) fun r1 => (Option.bind (s_l20Written_f (r1.1, r1.2)) fun r2 => (Option.bind (s_JournalText_f r2.1) fun r3 => (Option.bind (r_pick_f (r1.1, r2.2, 3)) fun r4 => (cond ((r4.1 == 0)) (Option.bind (s_l20Spoil_f (r1.1, r4.2, r3)) fun r5 => (some r5.1)) (cond ((r4.1 == 1)) (Option.bind (r_pick_f (r1.1, r4.2, (IntKind.i64.wrap ((ByteArray.size r3 : Int) + 1)))) fun r6 => (if (0 : Int) ≤ r6.1 ∧ r6.1 ≤ (ByteArray.size r3 : Int) then (some (ByteArray.extract r3 0 (r6.1 : Int).toNat)) else none)) (some r3))))))) := by
  kernel_rfl
theorem s_DrawReadJournal_ent : Entb Tryz.prog 4 := ⟨Tryz.f4, by kernel_rfl, by kernel_rfl, by kernel_rfl⟩
theorem s_DrawReadJournal_ok : CtrOk Tryz.prog 4 ⟨s_DrawReadJournal_sig, s_DrawReadJournal_f⟩ :=
  ctr_of (fn := Tryz.f4) (by kernel_rfl) (by kernel_rfl) (fun x : Ts s_DrawReadJournal_sig.pc => s_DrawReadJournal_E) (fun x => ⟨(fn_cons ⟨s_l20Open_ok, s_l20Open_ent⟩ (fn_cons ⟨s_JournalText_ok, s_JournalText_ent⟩ (fn_cons ⟨s_l20Written_ok, s_l20Written_ent⟩ (fn_cons ⟨r_pick_ok, r_pick_ent⟩ (fn_cons ⟨s_l20Spoil_ok, s_l20Spoil_ent⟩ fn_none))))), clo_none, wr_none⟩) (fun h => by cases h) follows_ (fun _ _ => trivial)
end FN
set_option linter.unusedVariables false
namespace FN
open Go Go.Proofs
/-! loop.example/firingnets/laws.FnReadJournal -/
@[reducible] def w_FnReadJournal_sig : Sig := { ps := [none, none], pc := [.view .u8, .view .u8], rs := [none], rc := [.bool] }
noncomputable def w_FnReadJournal_E : Env' := { fn := fun f => if f = 4 then some ⟨s_DrawReadJournal_sig, s_DrawReadJournal_f⟩ else if f = 5 then some ⟨i_ReadJournal_sig, i_ReadJournal_f⟩ else if f = 6 then some ⟨s_ReadJournal_sig, s_ReadJournal_f⟩ else if f = 7 then some ⟨w_sameDeeds_sig, w_sameDeeds_f⟩ else if f = 8 then some ⟨s_DrawDeskRun_sig, s_DrawDeskRun_f⟩ else if f = 9 then some ⟨s_DeskOk_sig, s_DeskOk_f⟩ else if f = 10 then some ⟨i_DeskLine_sig, i_DeskLine_f⟩ else if f = 11 then some ⟨i_DeedText_sig, i_DeedText_f⟩ else if f = 12 then some ⟨i_DeskRun_sig, i_DeskRun_f⟩ else if f = 13 then some ⟨i_JournalText_sig, i_JournalText_f⟩ else if f = 14 then some ⟨w_sameDesk_sig, w_sameDesk_f⟩ else if f = 15 then some ⟨w_alive_sig, w_alive_f⟩ else none, ck := ckT, cuts := [(9, [1, 5, 6, 7, 10]), (14, [1, 5, 6, 7]), (17, [5, 6, 7, 13, 15, 16]), (23, [5, 6, 7, 13, 15])], mine := fun i => false }
noncomputable def w_FnReadJournal_f (x : Ts w_FnReadJournal_sig.pc) : Option (Ts w_FnReadJournal_sig.rc) := runFn Tryz.prog (w_FnReadJournal_E) Tryz.f3 w_FnReadJournal_sig x
noncomputable def w_FnReadJournal_l0 (y0 : List (Int)) (y1 : ByteArray) (y2 : List (Int × Int × Int)) (y3 : Int) (y4 : Int) : Option ((Bool)) := from_ Tryz.prog (w_FnReadJournal_E) Tryz.f3 w_FnReadJournal_sig [1, 1, 1, 1, 1, 1, 0, 1, 0] ⟨mkT 154 [(1, .row false .u8 y0), (5, .str y1), (6, .row true .deed y2), (7, .int .i64 y3), (10, .int .i64 y4)], []⟩
noncomputable def w_FnReadJournal_j1 (y0 : List (Int)) (y1 : ByteArray) (y2 : List (Int × Int × Int)) (y3 : Int) : Option ((Bool)) := from_ Tryz.prog (w_FnReadJournal_E) Tryz.f3 w_FnReadJournal_sig [1, 1, 1, 1, 1, 1, 1] ⟨mkT 154 [(1, .row false .u8 y0), (5, .str y1), (6, .row true .deed y2), (7, .int .i64 y3)], []⟩
noncomputable def w_FnReadJournal_l2 (y0 : ByteArray) (y1 : List (Int × Int × Int)) (y2 : Int) (y3 : Int) (y4 : List (Int)) (y5 : Int) (y6 : List (Int)) (y7 : List (List Int × Int × List Int)) (y8 : List (Int)) (y9 : Int) (y10 : List (Int)) (y11 : List (List Int × Int × List Int)) : Option ((Bool)) := from_ Tryz.prog (w_FnReadJournal_E) Tryz.f3 w_FnReadJournal_sig [1, 1, 1, 1, 1, 1, 1, 1, 1, 0, 1, 0] ⟨mkT 154 [(5, .str y0), (6, .row true .deed y1), (7, .int .i64 y2), (13, .ptr 0 0), (15, .ptr 1 0), (16, .int .i64 y3)], [some (.box 33 [.row true .i64 y4, .int .i64 y5, .row true .i64 y6, .row true .place y7]), some (.box 33 [.row true .i64 y8, .int .i64 y9, .row true .i64 y10, .row true .place y11])]⟩
noncomputable def w_FnReadJournal_l3 (y0 : ByteArray) (y1 : List (Int × Int × Int)) (y2 : Int) (y3 : Int) (y4 : List (Int)) (y5 : Int) (y6 : List (Int)) (y7 : List (List Int × Int × List Int)) (y8 : List (Int)) (y9 : Int) (y10 : List (Int)) (y11 : List (List Int × Int × List Int)) : Option ((Bool)) := from_ Tryz.prog (w_FnReadJournal_E) Tryz.f3 w_FnReadJournal_sig [1, 1, 1, 1, 1, 1, 1, 1, 1, 0, 1, 0] ⟨mkT 154 [(5, .str y0), (6, .row true .deed y1), (7, .int .i64 y2), (13, .ptr 0 0), (15, .ptr 1 0), (16, .int .i64 y3)], [some (.box 33 [.row true .i64 y4, .int .i64 y5, .row true .i64 y6, .row true .place y7]), some (.box 33 [.row false .i64 y8, .int .i64 y9, .row false .i64 y10, .row false .place y11])]⟩
noncomputable def w_FnReadJournal_j4 (y0 : ByteArray) (y1 : List (Int × Int × Int)) (y2 : Int) (y3 : List (Int)) (y4 : Int) (y5 : List (Int)) (y6 : List (List Int × Int × List Int)) (y7 : List (Int)) (y8 : Int) (y9 : List (Int)) (y10 : List (List Int × Int × List Int)) : Option ((Bool)) := from_ Tryz.prog (w_FnReadJournal_E) Tryz.f3 w_FnReadJournal_sig [1, 1, 1, 1, 1, 1, 1, 1, 1, 1] ⟨mkT 154 [(5, .str y0), (6, .row true .deed y1), (7, .int .i64 y2), (13, .ptr 0 0), (15, .ptr 1 0)], [some (.box 33 [.row true .i64 y3, .int .i64 y4, .row true .i64 y5, .row true .place y6]), some (.box 33 [.row true .i64 y7, .int .i64 y8, .row true .i64 y9, .row true .place y10])]⟩
noncomputable def w_FnReadJournal_j5 (y0 : ByteArray) (y1 : List (Int × Int × Int)) (y2 : Int) (y3 : List (Int)) (y4 : Int) (y5 : List (Int)) (y6 : List (List Int × Int × List Int)) (y7 : List (Int)) (y8 : Int) (y9 : List (Int)) (y10 : List (List Int × Int × List Int)) : Option ((Bool)) := from_ Tryz.prog (w_FnReadJournal_E) Tryz.f3 w_FnReadJournal_sig [1, 1, 1, 1, 1, 1, 1, 1, 1, 1] ⟨mkT 154 [(5, .str y0), (6, .row true .deed y1), (7, .int .i64 y2), (13, .ptr 0 0), (15, .ptr 1 0)], [some (.box 33 [.row true .i64 y3, .int .i64 y4, .row true .i64 y5, .row true .place y6]), some (.box 33 [.row false .i64 y7, .int .i64 y8, .row false .i64 y9, .row false .place y10])]⟩
theorem w_FnReadJournal_f_eq (x0 : (List (Int))) (x1 : (List (Int))) : w_FnReadJournal_f (x0, x1) = (cond ((decide (1048576 < (List.length x0 : Int)))) (some true) (cond ((decide (1048576 < (List.length x1 : Int)))) (some true) (Option.bind (s_DrawReadJournal_f x0) fun r1 => (Option.bind (i_ReadJournal_f r1) fun r2 => (Option.bind (s_ReadJournal_f r1) fun r3 => (Option.bind (w_sameDeeds_f (r2.1, r3.1)) fun r4 => (cond ((!r4)) (some false) (cond ((r2.2 != r3.2)) (some false) (w_FnReadJournal_l0 x1 r1 r2.1 r2.2 0))))))))) := by
  kernel_rfl
theorem w_FnReadJournal_l0_eq (y0 : List (Int)) (y1 : ByteArray) (y2 : List (Int × Int × Int)) (y3 : Int) (y4 : Int) : w_FnReadJournal_l0 y0 y1 y2 y3 y4 = (cond ((decide (y4 ≤ (ByteArray.size y1 : Int)))) (if (0 : Int) ≤ y4 ∧ y4 ≤ (ByteArray.size y1 : Int) then (Option.bind (i_ReadJournal_f (ByteArray.extract y1 0 (y4 : Int).toNat)) fun r1 => (cond ((decide ((List.length y2 : Int) < (List.length r1.1 : Int)))) (some false) (if (0 : Int) ≤ (if (List.length y2 : Int) < (List.length r1.1 : Int) then (List.length y2 : Int) else (List.length r1.1 : Int)) ∧ (if (List.length y2 : Int) < (List.length r1.1 : Int) then (List.length y2 : Int) else (List.length r1.1 : Int)) ≤ (List.length y2 : Int) then (Option.bind (w_sameDeeds_f (r1.1, (List.drop 0 (List.take (((if (List.length y2 : Int) < (List.length r1.1 : Int) then (List.length y2 : Int) else (List.length r1.1 : Int)) : Int).toNat) y2)))) fun r2 => (cond ((!r2)) (some false) (cond ((decide (y4 < r1.2))) (some false) (w_FnReadJournal_l0 y0 y1 y2 y3 (IntKind.i64.wrap (y4 + 1)))))) else none))) else none) (w_FnReadJournal_j1 y0 y1 y2 y3)) := by
  refine (loopK_eq Tryz.prog (w_FnReadJournal_E) (sub (Tryz.f3.body.getD .skip) [1, 1, 1, 1, 1, 1, 0, 1, 0, 0]) _ _).trans ?_
  kernel_rfl
theorem w_FnReadJournal_j1_eq (y0 : List (Int)) (y1 : ByteArray) (y2 : List (Int × Int × Int)) (y3 : Int) : w_FnReadJournal_j1 y0 y1 y2 y3 = (Option.bind (s_DrawDeskRun_f y0) fun r1 => (w_FnReadJournal_l2 y1 y2 y3 0 r1.1 r1.2.1 r1.2.2.1 r1.2.2.2.1 r1.1 r1.2.1 r1.2.2.1 r1.2.2.2.1)) := by
  kernel_rfl
theorem w_FnReadJournal_l2_eq (y0 : ByteArray) (y1 : List (Int × Int × Int)) (y2 : Int) (y3 : Int) (y4 : List (Int)) (y5 : Int) (y6 : List (Int)) (y7 : List (List Int × Int × List Int)) (y8 : List (Int)) (y9 : Int) (y10 : List (Int)) (y11 : List (List Int × Int × List Int)) : w_FnReadJournal_l2 y0 y1 y2 y3 y4 y5 y6 y7 y8 y9 y10 y11 = (cond ((decide (y3 < (List.length y1 : Int)))) (Option.bind (s_DeskOk_f (y4, y5, y6, y7)) fun r1 => (cond (r1) (if (0 : Int) ≤ y3 ∧ y3 < (List.length y1 : Int) then (Option.bind (i_DeedText_f ((List.getD y1 (y3 : Int).toNat (0, 0, 0)).1, (List.getD y1 (y3 : Int).toNat (0, 0, 0)).2.1, (List.getD y1 (y3 : Int).toNat (0, 0, 0)).2.2)) fun r2 => (Option.bind (i_DeskLine_f (y8, y9, y10, y11, r2)) fun r3 => (cond ((!(ByteArray.toList r3.2.2.2.2 == ByteArray.toList str20))) (cond ((!(ByteArray.toList r3.2.2.2.2 == ByteArray.toList str19))) (some false) (w_FnReadJournal_l3 y0 y1 y2 (IntKind.i64.wrap (y3 + 1)) y4 y5 y6 y7 r3.1 r3.2.1 r3.2.2.1 r3.2.2.2.1)) (w_FnReadJournal_l3 y0 y1 y2 (IntKind.i64.wrap (y3 + 1)) y4 y5 y6 y7 r3.1 r3.2.1 r3.2.2.1 r3.2.2.2.1)))) else none) (w_FnReadJournal_j4 y0 y1 y2 y4 y5 y6 y7 y8 y9 y10 y11))) (w_FnReadJournal_j4 y0 y1 y2 y4 y5 y6 y7 y8 y9 y10 y11)) := by
  refine (loopK_eq Tryz.prog (w_FnReadJournal_E) (sub (Tryz.f3.body.getD .skip) [1, 1, 1, 1, 1, 1, 1, 1, 1, 0, 1, 0, 0]) _ _).trans ?_
  refine Eq.trans (b := (cond ((decide (y3 < (List.length y1 : Int)))) (Option.bind (s_DeskOk_f (y4, y5, y6, y7)) fun r1 => (cond (r1) (if (0 : Int) ≤ y3 ∧ y3 < (List.length y1 : Int) then (same [(Option.bind (i_DeedText_f ((List.getD y1 (y3 : Int).toNat (0, 0, 0)).1, (List.getD y1 (y3 : Int).toNat (0, 0, 0)).2.1, (List.getD y1 (y3 : Int).toNat (0, 0, 0)).2.2)) fun r2 => (same [(Option.bind (i_DeskLine_f (y8, y9, y10, y11, r2)) fun r3 => (cond ((!(ByteArray.toList r3.2.2.2.2 == ByteArray.toList str20))) (cond ((!(ByteArray.toList r3.2.2.2.2 == ByteArray.toList str19))) (some false) (w_FnReadJournal_l3 y0 y1 y2 (IntKind.i64.wrap (y3 + 1)) y4 y5 y6 y7 r3.1 r3.2.1 r3.2.2.1 r3.2.2.2.1)) (w_FnReadJournal_l3 y0 y1 y2 (IntKind.i64.wrap (y3 + 1)) y4 y5 y6 y7 r3.1 r3.2.1 r3.2.2.1 r3.2.2.2.1))), (Option.bind (i_DeskLine_f (y8, y9, y10, y11, r2)) fun r3 => (cond ((!(ByteArray.toList r3.2.2.2.2 == ByteArray.toList str20))) (cond ((!(ByteArray.toList r3.2.2.2.2 == ByteArray.toList str19))) (some false) (w_FnReadJournal_l3 y0 y1 y2 (IntKind.i64.wrap (y3 + 1)) y4 y5 y6 y7 r3.1 r3.2.1 r3.2.2.1 r3.2.2.2.1)) (w_FnReadJournal_l3 y0 y1 y2 (IntKind.i64.wrap (y3 + 1)) y4 y5 y6 y7 r3.1 r3.2.1 r3.2.2.1 r3.2.2.2.1)))])), (Option.bind (i_DeedText_f ((List.getD y1 (y3 : Int).toNat (0, 0, 0)).1, (List.getD y1 (y3 : Int).toNat (0, 0, 0)).2.1, (List.getD y1 (y3 : Int).toNat (0, 0, 0)).2.2)) fun r2 => (Option.bind (i_DeskLine_f (y8, y9, y10, y11, r2)) fun r3 => (cond ((!(ByteArray.toList r3.2.2.2.2 == ByteArray.toList str20))) (cond ((!(ByteArray.toList r3.2.2.2.2 == ByteArray.toList str19))) (some false) (w_FnReadJournal_l3 y0 y1 y2 (IntKind.i64.wrap (y3 + 1)) y4 y5 y6 y7 r3.1 r3.2.1 r3.2.2.1 r3.2.2.2.1)) (w_FnReadJournal_l3 y0 y1 y2 (IntKind.i64.wrap (y3 + 1)) y4 y5 y6 y7 r3.1 r3.2.1 r3.2.2.1 r3.2.2.2.1))))]) else none) (w_FnReadJournal_j4 y0 y1 y2 y4 y5 y6 y7 y8 y9 y10 y11))) (w_FnReadJournal_j4 y0 y1 y2 y4 y5 y6 y7 y8 y9 y10 y11))) (by kernel_rfl) ?_
  simp only [same2, same3, same4, same5, same6, obind_ite]
theorem w_FnReadJournal_l3_eq (y0 : ByteArray) (y1 : List (Int × Int × Int)) (y2 : Int) (y3 : Int) (y4 : List (Int)) (y5 : Int) (y6 : List (Int)) (y7 : List (List Int × Int × List Int)) (y8 : List (Int)) (y9 : Int) (y10 : List (Int)) (y11 : List (List Int × Int × List Int)) : w_FnReadJournal_l3 y0 y1 y2 y3 y4 y5 y6 y7 y8 y9 y10 y11 = (cond ((decide (y3 < (List.length y1 : Int)))) (Option.bind (s_DeskOk_f (y4, y5, y6, y7)) fun r1 => (cond (r1) (if (0 : Int) ≤ y3 ∧ y3 < (List.length y1 : Int) then (Option.bind (i_DeedText_f ((List.getD y1 (y3 : Int).toNat (0, 0, 0)).1, (List.getD y1 (y3 : Int).toNat (0, 0, 0)).2.1, (List.getD y1 (y3 : Int).toNat (0, 0, 0)).2.2)) fun r2 => (Option.bind (i_DeskLine_f (y8, y9, y10, y11, r2)) fun r3 => (cond ((!(ByteArray.toList r3.2.2.2.2 == ByteArray.toList str20))) (cond ((!(ByteArray.toList r3.2.2.2.2 == ByteArray.toList str19))) (some false) (w_FnReadJournal_l3 y0 y1 y2 (IntKind.i64.wrap (y3 + 1)) y4 y5 y6 y7 r3.1 r3.2.1 r3.2.2.1 r3.2.2.2.1)) (w_FnReadJournal_l3 y0 y1 y2 (IntKind.i64.wrap (y3 + 1)) y4 y5 y6 y7 r3.1 r3.2.1 r3.2.2.1 r3.2.2.2.1)))) else none) (w_FnReadJournal_j5 y0 y1 y2 y4 y5 y6 y7 y8 y9 y10 y11))) (w_FnReadJournal_j5 y0 y1 y2 y4 y5 y6 y7 y8 y9 y10 y11)) := by
  refine (loopK_eq Tryz.prog (w_FnReadJournal_E) (sub (Tryz.f3.body.getD .skip) [1, 1, 1, 1, 1, 1, 1, 1, 1, 0, 1, 0, 0]) _ _).trans ?_
  refine Eq.trans (b := (cond ((decide (y3 < (List.length y1 : Int)))) (Option.bind (s_DeskOk_f (y4, y5, y6, y7)) fun r1 => (cond (r1) (if (0 : Int) ≤ y3 ∧ y3 < (List.length y1 : Int) then (same [(Option.bind (i_DeedText_f ((List.getD y1 (y3 : Int).toNat (0, 0, 0)).1, (List.getD y1 (y3 : Int).toNat (0, 0, 0)).2.1, (List.getD y1 (y3 : Int).toNat (0, 0, 0)).2.2)) fun r2 => (same [(Option.bind (i_DeskLine_f (y8, y9, y10, y11, r2)) fun r3 => (cond ((!(ByteArray.toList r3.2.2.2.2 == ByteArray.toList str20))) (cond ((!(ByteArray.toList r3.2.2.2.2 == ByteArray.toList str19))) (some false) (w_FnReadJournal_l3 y0 y1 y2 (IntKind.i64.wrap (y3 + 1)) y4 y5 y6 y7 r3.1 r3.2.1 r3.2.2.1 r3.2.2.2.1)) (w_FnReadJournal_l3 y0 y1 y2 (IntKind.i64.wrap (y3 + 1)) y4 y5 y6 y7 r3.1 r3.2.1 r3.2.2.1 r3.2.2.2.1))), (Option.bind (i_DeskLine_f (y8, y9, y10, y11, r2)) fun r3 => (cond ((!(ByteArray.toList r3.2.2.2.2 == ByteArray.toList str20))) (cond ((!(ByteArray.toList r3.2.2.2.2 == ByteArray.toList str19))) (some false) (w_FnReadJournal_l3 y0 y1 y2 (IntKind.i64.wrap (y3 + 1)) y4 y5 y6 y7 r3.1 r3.2.1 r3.2.2.1 r3.2.2.2.1)) (w_FnReadJournal_l3 y0 y1 y2 (IntKind.i64.wrap (y3 + 1)) y4 y5 y6 y7 r3.1 r3.2.1 r3.2.2.1 r3.2.2.2.1)))])), (Option.bind (i_DeedText_f ((List.getD y1 (y3 : Int).toNat (0, 0, 0)).1, (List.getD y1 (y3 : Int).toNat (0, 0, 0)).2.1, (List.getD y1 (y3 : Int).toNat (0, 0, 0)).2.2)) fun r2 => (Option.bind (i_DeskLine_f (y8, y9, y10, y11, r2)) fun r3 => (cond ((!(ByteArray.toList r3.2.2.2.2 == ByteArray.toList str20))) (cond ((!(ByteArray.toList r3.2.2.2.2 == ByteArray.toList str19))) (some false) (w_FnReadJournal_l3 y0 y1 y2 (IntKind.i64.wrap (y3 + 1)) y4 y5 y6 y7 r3.1 r3.2.1 r3.2.2.1 r3.2.2.2.1)) (w_FnReadJournal_l3 y0 y1 y2 (IntKind.i64.wrap (y3 + 1)) y4 y5 y6 y7 r3.1 r3.2.1 r3.2.2.1 r3.2.2.2.1))))]) else none) (w_FnReadJournal_j5 y0 y1 y2 y4 y5 y6 y7 y8 y9 y10 y11))) (w_FnReadJournal_j5 y0 y1 y2 y4 y5 y6 y7 y8 y9 y10 y11))) (by kernel_rfl) ?_
  simp only [same2, same3, same4, same5, same6, obind_ite]
theorem w_FnReadJournal_j4_eq (y0 : ByteArray) (y1 : List (Int × Int × Int)) (y2 : Int) (y3 : List (Int)) (y4 : Int) (y5 : List (Int)) (y6 : List (List Int × Int × List Int)) (y7 : List (Int)) (y8 : Int) (y9 : List (Int)) (y10 : List (List Int × Int × List Int)) : w_FnReadJournal_j4 y0 y1 y2 y3 y4 y5 y6 y7 y8 y9 y10 = (Option.bind (i_DeskRun_f (y3, y4, y5, y6, y1)) fun r1 => (cond ((decide (y2 ≤ (ByteArray.size y0 : Int)))) (if (0 : Int) ≤ y2 ∧ y2 ≤ (ByteArray.size y0 : Int) then (Option.bind (i_JournalText_f y1) fun r2 => (cond ((ByteArray.toList r2 == ByteArray.toList (ByteArray.extract y0 0 (y2 : Int).toNat))) (Option.bind (s_DeskOk_f (y3, y4, y5, y6)) fun r3 => (cond ((!r3)) (Option.bind (w_alive_f ()) fun r4 => (some r4)) (cond ((decide (40 < (List.length y1 : Int)))) (Option.bind (w_alive_f ()) fun r5 => (some r5)) (Option.bind (w_sameDesk_f (y7, y8, y9, y10, r1.1, r1.2.1, r1.2.2.1, r1.2.2.2.1)) fun r6 => (cond (r6) (Option.bind (w_alive_f ()) fun r7 => (some r7)) (some false)))))) (some false))) else none) (some false))) := by
  kernel_rfl
theorem w_FnReadJournal_j5_eq (y0 : ByteArray) (y1 : List (Int × Int × Int)) (y2 : Int) (y3 : List (Int)) (y4 : Int) (y5 : List (Int)) (y6 : List (List Int × Int × List Int)) (y7 : List (Int)) (y8 : Int) (y9 : List (Int)) (y10 : List (List Int × Int × List Int)) : w_FnReadJournal_j5 y0 y1 y2 y3 y4 y5 y6 y7 y8 y9 y10 = (Option.bind (i_DeskRun_f (y3, y4, y5, y6, y1)) fun r1 => (cond ((decide (y2 ≤ (ByteArray.size y0 : Int)))) (if (0 : Int) ≤ y2 ∧ y2 ≤ (ByteArray.size y0 : Int) then (Option.bind (i_JournalText_f y1) fun r2 => (cond ((ByteArray.toList r2 == ByteArray.toList (ByteArray.extract y0 0 (y2 : Int).toNat))) (Option.bind (s_DeskOk_f (y3, y4, y5, y6)) fun r3 => (cond ((!r3)) (Option.bind (w_alive_f ()) fun r4 => (some r4)) (cond ((decide (40 < (List.length y1 : Int)))) (Option.bind (w_alive_f ()) fun r5 => (some r5)) (Option.bind (w_sameDesk_f (y7, y8, y9, y10, r1.1, r1.2.1, r1.2.2.1, r1.2.2.2.1)) fun r6 => (cond (r6) (Option.bind (w_alive_f ()) fun r7 => (some r7)) (some false)))))) (some false))) else none) (some false))) := by
  kernel_rfl
theorem w_FnReadJournal_ent : Entb Tryz.prog 3 := ⟨Tryz.f3, by kernel_rfl, by kernel_rfl, by kernel_rfl⟩
theorem w_FnReadJournal_ok : CtrOk Tryz.prog 3 ⟨w_FnReadJournal_sig, w_FnReadJournal_f⟩ :=
  ctr_of (fn := Tryz.f3) (by kernel_rfl) (by kernel_rfl) (fun x : Ts w_FnReadJournal_sig.pc => w_FnReadJournal_E) (fun x => ⟨(fn_cons ⟨s_DrawReadJournal_ok, s_DrawReadJournal_ent⟩ (fn_cons ⟨i_ReadJournal_ok, i_ReadJournal_ent⟩ (fn_cons ⟨s_ReadJournal_ok, s_ReadJournal_ent⟩ (fn_cons ⟨w_sameDeeds_ok, w_sameDeeds_ent⟩ (fn_cons ⟨s_DrawDeskRun_ok, s_DrawDeskRun_ent⟩ (fn_cons ⟨s_DeskOk_ok, s_DeskOk_ent⟩ (fn_cons ⟨i_DeskLine_ok, i_DeskLine_ent⟩ (fn_cons ⟨i_DeedText_ok, i_DeedText_ent⟩ (fn_cons ⟨i_DeskRun_ok, i_DeskRun_ent⟩ (fn_cons ⟨i_JournalText_ok, i_JournalText_ent⟩ (fn_cons ⟨w_sameDesk_ok, w_sameDesk_ent⟩ (fn_cons ⟨w_alive_ok, w_alive_ent⟩ fn_none)))))))))))), clo_none, wr_none⟩) (fun h => by cases h) follows_ (fun _ _ => trivial)
end FN
