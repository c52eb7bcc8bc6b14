/- Texts of the proof, joined: The functions, their equations and contracts. -/
import Derived.KernelRfl
import Derived.Test.YthdapnmdllbejaaProg
import Derived.Test.YthdapnmdllbejaaA1
set_option linter.unusedVariables false
set_option linter.unusedSimpArgs false
set_option linter.unusedSectionVars false
namespace FN
open Go Go.Proofs
def mkT (n : Nat) (l : List (Nat × PV)) : List PV := (List.range n).map fun i => (l.lookup i).getD .junk
def ckT (t : TypeId) : Option CK := if t = 3 then some .i64 else if t = 4 then some .bool else if t = 5 then some .u8 else if t = 22 then some .intss else if t = 26 then some .place else none
instance : Gl := ⟨fun _ => True, fun _ => True, fun _ _ _ _ _ => trivial⟩
theorem follows_ : Try.prog.follows .mixedOrders = true := by kernel_rfl
theorem rd_head {x b : List Int} {l ps : List PV} (h : (PV.row false .u8 x :: l) = PV.row false .u8 b :: ps) : x = b := by
  injection h with h _
  injection h
theorem fn_none {P : Program} : ∀ (f : FuncId) (c : Ctr'), (none : Option Ctr') = some c → CtrOk P f c ∧ Entb P f := fun _ _ h => by cases h
theorem fn_cons {P : Program} {f0 : FuncId} {c0 : Ctr'} (h0 : CtrOk P f0 c0 ∧ Entb P f0) {g : FuncId → Option Ctr'} (hg : ∀ f c, g f = some c → CtrOk P f c ∧ Entb P f) : ∀ f c, (if f = f0 then some c0 else g f) = some c → CtrOk P f c ∧ Entb P f := by
  intro f c h
  split at h
  · rename_i e; injection h with h; subst e; subst h; exact h0
  · exact hg f c h
theorem lim_some {α : Type} {g : Nat → Option α} {r : α} (h : lim g = some r) : ∃ n, g n = some r := by
  unfold lim at h
  split at h
  · exact ⟨_, h⟩
  · cases h
theorem lim_of {α : Type} {g : Nat → Option α} {v : α} (h : ∃ n, g n = some v) (u : ∀ n r, g n = some r → r = v) : lim g = some v := by
  obtain ⟨n, hn⟩ := h
  have hx : ∃ n r, g n = some r := ⟨n, v, hn⟩
  obtain ⟨r, hr⟩ := hx.choose_spec
  have : lim g = g hx.choose := dif_pos hx
  rw [this, hr, u _ r hr]
theorem clo_none {P : Program} {E : Env'} (h : E.clo = fun _ _ _ _ _ => none := by rfl) : CloOk P E := by
  intro f ps hp h' pin base w ρ args hc
  rw [h] at hc
  cases hc
/-- What the one answers, the other answers. -/
def OLe {α : Type} (a b : Option α) : Prop := ∀ r, a = some r → b = some r
theorem OLe.refl {α : Type} (a : Option α) : OLe a a := fun _ h => h
theorem OLe.none {α : Type} (a : Option α) : OLe Option.none a := fun _ h => by cases h
theorem OLe.cond {α : Type} {c : Bool} {a a' b b' : Option α} (h : OLe a a') (k : OLe b b') : OLe (cond c a b) (cond c a' b') := by cases c; exact k; exact h
theorem OLe.ite {α : Type} {c : Prop} [Decidable c] {a a' b b' : Option α} (h : OLe a a') (k : OLe b b') : OLe (if c then a else b) (if c then a' else b') := by split; exact h; exact k
theorem OLe.bind {α β : Type} {a a' : Option α} {f f' : α → Option β} (h : OLe a a') (k : ∀ x, OLe (f x) (f' x)) : OLe (a.bind f) (a'.bind f') := by
  intro r hr
  obtain ⟨x, h1, h2⟩ := Option.bind_eq_some_iff.1 hr
  exact Option.bind_eq_some_iff.2 ⟨x, h x h1, k x r h2⟩
def str0 : ByteArray := ⟨#[106, 111, 105, 110, 32]⟩
def str1 : ByteArray := ⟨#[32]⟩
def str2 : ByteArray := ⟨#[108, 105, 103, 104, 116, 32]⟩
def str3 : ByteArray := ⟨#[107, 105, 110, 100, 115, 32]⟩
def str4 : ByteArray := ⟨#[115, 116, 101, 112]⟩
def str5 : ByteArray := ⟨#[98, 97, 99, 107]⟩
def str6 : ByteArray := ⟨#[48, 49, 50, 51, 52, 53, 54, 55, 56, 57, 97, 98, 99, 100, 101, 102, 103, 104, 105, 106, 107, 108, 109, 110, 111, 112, 113, 114, 115, 116, 117, 118, 119, 120, 121, 122]⟩
def str7 : ByteArray := ⟨#[48, 48, 48, 49, 48, 50, 48, 51, 48, 52, 48, 53, 48, 54, 48, 55, 48, 56, 48, 57, 49, 48, 49, 49, 49, 50, 49, 51, 49, 52, 49, 53, 49, 54, 49, 55, 49, 56, 49, 57, 50, 48, 50, 49, 50, 50, 50, 51, 50, 52, 50, 53, 50, 54, 50, 55, 50, 56, 50, 57, 51, 48, 51, 49, 51, 50, 51, 51, 51, 52, 51, 53, 51, 54, 51, 55, 51, 56, 51, 57, 52, 48, 52, 49, 52, 50, 52, 51, 52, 52, 52, 53, 52, 54, 52, 55, 52, 56, 52, 57, 53, 48, 53, 49, 53, 50, 53, 51, 53, 52, 53, 53, 53, 54, 53, 55, 53, 56, 53, 57, 54, 48, 54, 49, 54, 50, 54, 51, 54, 52, 54, 53, 54, 54, 54, 55, 54, 56, 54, 57, 55, 48, 55, 49, 55, 50, 55, 51, 55, 52, 55, 53, 55, 54, 55, 55, 55, 56, 55, 57, 56, 48, 56, 49, 56, 50, 56, 51, 56, 52, 56, 53, 56, 54, 56, 55, 56, 56, 56, 57, 57, 48, 57, 49, 57, 50, 57, 51, 57, 52, 57, 53, 57, 54, 57, 55, 57, 56, 57, 57]⟩
def str8 : ByteArray := ⟨#[0, 1, 2, 2, 3, 3, 3, 3, 4, 4, 4, 4, 4, 4, 4, 4, 5, 5, 5, 5, 5, 5, 5, 5, 5, 5, 5, 5, 5, 5, 5, 5, 6, 6, 6, 6, 6, 6, 6, 6, 6, 6, 6, 6, 6, 6, 6, 6, 6, 6, 6, 6, 6, 6, 6, 6, 6, 6, 6, 6, 6, 6, 6, 6, 7, 7, 7, 7, 7, 7, 7, 7, 7, 7, 7, 7, 7, 7, 7, 7, 7, 7, 7, 7, 7, 7, 7, 7, 7, 7, 7, 7, 7, 7, 7, 7, 7, 7, 7, 7, 7, 7, 7, 7, 7, 7, 7, 7, 7, 7, 7, 7, 7, 7, 7, 7, 7, 7, 7, 7, 7, 7, 7, 7, 7, 7, 7, 7, 8, 8, 8, 8, 8, 8, 8, 8, 8, 8, 8, 8, 8, 8, 8, 8, 8, 8, 8, 8, 8, 8, 8, 8, 8, 8, 8, 8, 8, 8, 8, 8, 8, 8, 8, 8, 8, 8, 8, 8, 8, 8, 8, 8, 8, 8, 8, 8, 8, 8, 8, 8, 8, 8, 8, 8, 8, 8, 8, 8, 8, 8, 8, 8, 8, 8, 8, 8, 8, 8, 8, 8, 8, 8, 8, 8, 8, 8, 8, 8, 8, 8, 8, 8, 8, 8, 8, 8, 8, 8, 8, 8, 8, 8, 8, 8, 8, 8, 8, 8, 8, 8, 8, 8, 8, 8, 8, 8, 8, 8, 8, 8, 8, 8, 8, 8, 8, 8, 8, 8, 8, 8, 8, 8, 8, 8, 8, 8]⟩
def str9 : ByteArray := ⟨#[115, 116, 114, 99, 111, 110, 118, 58, 32, 105, 108, 108, 101, 103, 97, 108, 32, 65, 112, 112, 101, 110, 100, 73, 110, 116, 47, 70, 111, 114, 109, 97, 116, 73, 110, 116, 32, 98, 97, 115, 101]⟩
def str10 : ByteArray := ⟨#[106, 111, 105, 110]⟩
def str11 : ByteArray := ⟨#[108, 105, 103, 104, 116]⟩
def str12 : ByteArray := ⟨#[107, 105, 110, 100, 115]⟩
def str13 : ByteArray := ⟨#[10]⟩
def str14 : ByteArray := ⟨#[44]⟩
def str15 : ByteArray := ⟨#[46]⟩
end FN
set_option linter.unusedVariables false
namespace FN
open Go Go.Proofs
/-! loop.example/firingnets/impl.gridOk -/
@[reducible] def i_gridOk_sig : Sig := { ps := [none, none], pc := [.int .i64, .int .i64], rs := [none], rc := [.bool] }
noncomputable def i_gridOk_E : Env' := { fn := fun f => none, ck := ckT, cuts := [], mine := fun i => false }
noncomputable def i_gridOk_f (x : Ts i_gridOk_sig.pc) : Option (Ts i_gridOk_sig.rc) := runFn Try.prog (i_gridOk_E) Try.f52 i_gridOk_sig x
theorem i_gridOk_f_eq (x0 : (Int)) (x1 : (Int)) : i_gridOk_f (x0, x1) = (cond ((decide (1 ≤ x0))) (cond ((decide (1 ≤ x1))) (cond ((decide (x0 ≤ 6))) (cond ((decide (x1 ≤ 6))) (some (decide ((IntKind.i64.wrap (x0 * x1)) ≤ 6))) (some false)) (some false)) (some false)) (some false)) := by
  kernel_rfl
def i_gridOk_f_c (n : Nat) : ((Int)) × ((Int)) → Option ((Bool))
  | (x0, x1) => (cond ((decide (1 ≤ x0))) (cond ((decide (1 ≤ x1))) (cond ((decide (x0 ≤ 6))) (cond ((decide (x1 ≤ 6))) (some (decide ((IntKind.i64.wrap (x0 * x1)) ≤ 6))) (some false)) (some false)) (some false)) (some false))
theorem i_gridOk_f_c_le (n : Nat) (x : Ts i_gridOk_sig.pc) : OLe (i_gridOk_f_c n x) (i_gridOk_f x) := by
  obtain ⟨x0, x1⟩ := x
  rw [i_gridOk_f_c, i_gridOk_f_eq]
  repeat' first | with_reducible exact OLe.refl _ | with_reducible exact OLe.none _ | with_reducible refine OLe.cond ?_ ?_ | with_reducible refine OLe.ite ?_ ?_ | with_reducible refine OLe.bind ?_ ?_ | intro _
theorem i_gridOk_ent : Entb Try.prog 52 := ⟨Try.f52, by kernel_rfl, by kernel_rfl, by kernel_rfl⟩
theorem i_gridOk_ok : CtrOk Try.prog 52 ⟨i_gridOk_sig, i_gridOk_f⟩ :=
  ctr_of (fn := Try.f52) (by kernel_rfl) (by kernel_rfl) (fun x : Ts i_gridOk_sig.pc => i_gridOk_E) (fun x => ⟨fn_none, clo_none, wr_none⟩) (fun h => by cases h) follows_ (fun _ _ => trivial)
end FN
set_option linter.unusedVariables false
namespace FN
open Go Go.Proofs
/-! loop.example/firingnets/impl.BorderTour -/
@[reducible] def i_BorderTour_sig : Sig := { ps := [none, none], pc := [.int .i64, .int .i64], rs := [none], rc := [.row 3 .i64] }
noncomputable def i_BorderTour_E : Env' := { fn := fun f => if f = 52 then some ⟨i_gridOk_sig, i_gridOk_f⟩ else none, ck := ckT, cuts := [(5, [0, 1, 5, 23, 24]), (9, [0, 1, 5]), (10, [0, 1, 5, 7]), (13, [0, 1, 5]), (14, [0, 1, 5, 8]), (17, [0, 1, 5]), (18, [1, 5, 9])], mine := fun i => false }
noncomputable def i_BorderTour_f (x : Ts i_BorderTour_sig.pc) : Option (Ts i_BorderTour_sig.rc) := runFn Try.prog (i_BorderTour_E) Try.f30 i_BorderTour_sig x
noncomputable def i_BorderTour_l0 (y0 : Int) (y1 : Int) (y2 : Int) (y3 : Int) (y4 : List (Int)) : Option ((List (Int))) := from_ Try.prog (i_BorderTour_E) Try.f30 i_BorderTour_sig [1, 1, 1, 0, 1, 0] ⟨mkT 74 [(0, .int .i64 y0), (1, .int .i64 y1), (5, .own 0), (23, .int .i64 y2), (24, .int .i64 y3)], [some (.arr 3 true .i64 y4)]⟩
noncomputable def i_BorderTour_j1 (y0 : Int) (y1 : Int) (y2 : List (Int)) : Option ((List (Int))) := from_ Try.prog (i_BorderTour_E) Try.f30 i_BorderTour_sig [1, 1, 1, 1] ⟨mkT 74 [(0, .int .i64 y0), (1, .int .i64 y1), (5, .own 0)], [some (.arr 3 true .i64 y2)]⟩
noncomputable def i_BorderTour_l2 (y0 : Int) (y1 : Int) (y2 : Int) (y3 : List (Int)) : Option ((List (Int))) := from_ Try.prog (i_BorderTour_E) Try.f30 i_BorderTour_sig [1, 1, 1, 1, 0, 1, 0] ⟨mkT 74 [(0, .int .i64 y0), (1, .int .i64 y1), (5, .own 0), (7, .int .i64 y2)], [some (.arr 3 true .i64 y3)]⟩
noncomputable def i_BorderTour_j3 (y0 : Int) (y1 : Int) (y2 : List (Int)) : Option ((List (Int))) := from_ Try.prog (i_BorderTour_E) Try.f30 i_BorderTour_sig [1, 1, 1, 1, 1] ⟨mkT 74 [(0, .int .i64 y0), (1, .int .i64 y1), (5, .own 0)], [some (.arr 3 true .i64 y2)]⟩
noncomputable def i_BorderTour_l4 (y0 : Int) (y1 : Int) (y2 : Int) (y3 : List (Int)) : Option ((List (Int))) := from_ Try.prog (i_BorderTour_E) Try.f30 i_BorderTour_sig [1, 1, 1, 1, 1, 0, 1, 0] ⟨mkT 74 [(0, .int .i64 y0), (1, .int .i64 y1), (5, .own 0), (8, .int .i64 y2)], [some (.arr 3 true .i64 y3)]⟩
noncomputable def i_BorderTour_j5 (y0 : Int) (y1 : Int) (y2 : List (Int)) : Option ((List (Int))) := from_ Try.prog (i_BorderTour_E) Try.f30 i_BorderTour_sig [1, 1, 1, 1, 1, 1] ⟨mkT 74 [(0, .int .i64 y0), (1, .int .i64 y1), (5, .own 0)], [some (.arr 3 true .i64 y2)]⟩
noncomputable def i_BorderTour_l6 (y0 : Int) (y1 : Int) (y2 : List (Int)) : Option ((List (Int))) := from_ Try.prog (i_BorderTour_E) Try.f30 i_BorderTour_sig [1, 1, 1, 1, 1, 1, 0, 1, 0] ⟨mkT 74 [(1, .int .i64 y0), (5, .own 0), (9, .int .i64 y1)], [some (.arr 3 true .i64 y2)]⟩
theorem i_BorderTour_f_eq (x0 : (Int)) (x1 : (Int)) : i_BorderTour_f (x0, x1) = (Option.bind (i_gridOk_f (x0, x1)) fun r1 => (cond ((!r1)) (some []) (cond ((decide (x0 < 2))) (some []) (cond ((decide (x1 < 2))) (some []) (i_BorderTour_l0 x0 x1 x1 0 ([] : List (Int))))))) := by
  kernel_rfl
theorem i_BorderTour_l0_eq (y0 : Int) (y1 : Int) (y2 : Int) (y3 : Int) (y4 : List (Int)) : i_BorderTour_l0 y0 y1 y2 y3 y4 = (cond ((decide (y3 < y2))) (if (List.length y4 + List.length ([y3] : List (Int))) * 8 ≤ 140737488355328 then (i_BorderTour_l0 y0 y1 y2 (IntKind.i64.wrap (y3 + 1)) (y4 ++ ([y3] : List (Int)))) else none) (i_BorderTour_j1 y0 y1 y4)) := by
  refine (loopK_eq Try.prog (i_BorderTour_E) (sub (Try.f30.body.getD .skip) [1, 1, 1, 0, 1, 0, 0]) _ _).trans ?_
  kernel_rfl
theorem i_BorderTour_j1_eq (y0 : Int) (y1 : Int) (y2 : List (Int)) : i_BorderTour_j1 y0 y1 y2 = (i_BorderTour_l2 y0 y1 1 y2) := by
  kernel_rfl
theorem i_BorderTour_l2_eq (y0 : Int) (y1 : Int) (y2 : Int) (y3 : List (Int)) : i_BorderTour_l2 y0 y1 y2 y3 = (cond ((decide (y2 < y0))) (if (List.length y3 + List.length ([(IntKind.i64.wrap ((IntKind.i64.wrap ((IntKind.i64.wrap (y2 * y1)) + y1)) - 1))] : List (Int))) * 8 ≤ 140737488355328 then (i_BorderTour_l2 y0 y1 (IntKind.i64.wrap (y2 + 1)) (y3 ++ ([(IntKind.i64.wrap ((IntKind.i64.wrap ((IntKind.i64.wrap (y2 * y1)) + y1)) - 1))] : List (Int)))) else none) (i_BorderTour_j3 y0 y1 y3)) := by
  refine (loopK_eq Try.prog (i_BorderTour_E) (sub (Try.f30.body.getD .skip) [1, 1, 1, 1, 0, 1, 0, 0]) _ _).trans ?_
  kernel_rfl
theorem i_BorderTour_j3_eq (y0 : Int) (y1 : Int) (y2 : List (Int)) : i_BorderTour_j3 y0 y1 y2 = (i_BorderTour_l4 y0 y1 (IntKind.i64.wrap (y1 - 2)) y2) := by
  kernel_rfl
theorem i_BorderTour_l4_eq (y0 : Int) (y1 : Int) (y2 : Int) (y3 : List (Int)) : i_BorderTour_l4 y0 y1 y2 y3 = (cond ((decide (0 ≤ y2))) (if (List.length y3 + List.length ([(IntKind.i64.wrap ((IntKind.i64.wrap ((IntKind.i64.wrap (y0 - 1)) * y1)) + y2))] : List (Int))) * 8 ≤ 140737488355328 then (i_BorderTour_l4 y0 y1 (IntKind.i64.wrap (y2 - 1)) (y3 ++ ([(IntKind.i64.wrap ((IntKind.i64.wrap ((IntKind.i64.wrap (y0 - 1)) * y1)) + y2))] : List (Int)))) else none) (i_BorderTour_j5 y0 y1 y3)) := by
  refine (loopK_eq Try.prog (i_BorderTour_E) (sub (Try.f30.body.getD .skip) [1, 1, 1, 1, 1, 0, 1, 0, 0]) _ _).trans ?_
  kernel_rfl
theorem i_BorderTour_j5_eq (y0 : Int) (y1 : Int) (y2 : List (Int)) : i_BorderTour_j5 y0 y1 y2 = (i_BorderTour_l6 y1 (IntKind.i64.wrap (y0 - 2)) y2) := by
  kernel_rfl
theorem i_BorderTour_l6_eq (y0 : Int) (y1 : Int) (y2 : List (Int)) : i_BorderTour_l6 y0 y1 y2 = (cond ((decide (0 ≤ y1))) (if (List.length y2 + List.length ([(IntKind.i64.wrap (y1 * y0))] : List (Int))) * 8 ≤ 140737488355328 then (i_BorderTour_l6 y0 (IntKind.i64.wrap (y1 - 1)) (y2 ++ ([(IntKind.i64.wrap (y1 * y0))] : List (Int)))) else none) (some y2)) := by
  refine (loopK_eq Try.prog (i_BorderTour_E) (sub (Try.f30.body.getD .skip) [1, 1, 1, 1, 1, 1, 0, 1, 0, 0]) _ _).trans ?_
  kernel_rfl
mutual
def i_BorderTour_l0_c : Nat → (Int) → (Int) → (Int) → (Int) → (List (Int)) → Option ((List (Int)))
  | 0, _, _, _, _, _ => none
  | n + 1, y0, y1, y2, y3, y4 => (cond ((decide (y3 < y2))) (if (List.length y4 + List.length ([y3] : List (Int))) * 8 ≤ 140737488355328 then (i_BorderTour_l0_c n y0 y1 y2 (IntKind.i64.wrap (y3 + 1)) (y4 ++ ([y3] : List (Int)))) else none) (i_BorderTour_j1_c n y0 y1 y4))
def i_BorderTour_j1_c : Nat → (Int) → (Int) → (List (Int)) → Option ((List (Int)))
  | 0, _, _, _ => none
  | n + 1, y0, y1, y2 => (i_BorderTour_l2_c n y0 y1 1 y2)
def i_BorderTour_l2_c : Nat → (Int) → (Int) → (Int) → (List (Int)) → Option ((List (Int)))
  | 0, _, _, _, _ => none
  | n + 1, y0, y1, y2, y3 => (cond ((decide (y2 < y0))) (if (List.length y3 + List.length ([(IntKind.i64.wrap ((IntKind.i64.wrap ((IntKind.i64.wrap (y2 * y1)) + y1)) - 1))] : List (Int))) * 8 ≤ 140737488355328 then (i_BorderTour_l2_c n y0 y1 (IntKind.i64.wrap (y2 + 1)) (y3 ++ ([(IntKind.i64.wrap ((IntKind.i64.wrap ((IntKind.i64.wrap (y2 * y1)) + y1)) - 1))] : List (Int)))) else none) (i_BorderTour_j3_c n y0 y1 y3))
def i_BorderTour_j3_c : Nat → (Int) → (Int) → (List (Int)) → Option ((List (Int)))
  | 0, _, _, _ => none
  | n + 1, y0, y1, y2 => (i_BorderTour_l4_c n y0 y1 (IntKind.i64.wrap (y1 - 2)) y2)
def i_BorderTour_l4_c : Nat → (Int) → (Int) → (Int) → (List (Int)) → Option ((List (Int)))
  | 0, _, _, _, _ => none
  | n + 1, y0, y1, y2, y3 => (cond ((decide (0 ≤ y2))) (if (List.length y3 + List.length ([(IntKind.i64.wrap ((IntKind.i64.wrap ((IntKind.i64.wrap (y0 - 1)) * y1)) + y2))] : List (Int))) * 8 ≤ 140737488355328 then (i_BorderTour_l4_c n y0 y1 (IntKind.i64.wrap (y2 - 1)) (y3 ++ ([(IntKind.i64.wrap ((IntKind.i64.wrap ((IntKind.i64.wrap (y0 - 1)) * y1)) + y2))] : List (Int)))) else none) (i_BorderTour_j5_c n y0 y1 y3))
def i_BorderTour_j5_c : Nat → (Int) → (Int) → (List (Int)) → Option ((List (Int)))
  | 0, _, _, _ => none
  | n + 1, y0, y1, y2 => (i_BorderTour_l6_c n y1 (IntKind.i64.wrap (y0 - 2)) y2)
def i_BorderTour_l6_c : Nat → (Int) → (Int) → (List (Int)) → Option ((List (Int)))
  | 0, _, _, _ => none
  | n + 1, y0, y1, y2 => (cond ((decide (0 ≤ y1))) (if (List.length y2 + List.length ([(IntKind.i64.wrap (y1 * y0))] : List (Int))) * 8 ≤ 140737488355328 then (i_BorderTour_l6_c n y0 (IntKind.i64.wrap (y1 - 1)) (y2 ++ ([(IntKind.i64.wrap (y1 * y0))] : List (Int)))) else none) (some y2))
end
def i_BorderTour_f_c (n : Nat) : ((Int)) × ((Int)) → Option ((List (Int)))
  | (x0, x1) => (Option.bind (i_gridOk_f_c n (x0, x1)) fun r1 => (cond ((!r1)) (some []) (cond ((decide (x0 < 2))) (some []) (cond ((decide (x1 < 2))) (some []) (i_BorderTour_l0_c n x0 x1 x1 0 ([] : List (Int)))))))
mutual
theorem i_BorderTour_l0_c_le : (n : Nat) → (y0 : Int) → (y1 : Int) → (y2 : Int) → (y3 : Int) → (y4 : List (Int)) → OLe (i_BorderTour_l0_c n y0 y1 y2 y3 y4) (i_BorderTour_l0 y0 y1 y2 y3 y4)
  | 0, _, _, _, _, _ => OLe.none _
  | n + 1, y0, y1, y2, y3, y4 => by
    rw [i_BorderTour_l0_c, i_BorderTour_l0_eq]
    repeat' first | with_reducible exact OLe.refl _ | with_reducible exact OLe.none _ | with_reducible apply i_gridOk_f_c_le | with_reducible apply i_BorderTour_l0_c_le | with_reducible apply i_BorderTour_j1_c_le | with_reducible apply i_BorderTour_l2_c_le | with_reducible apply i_BorderTour_j3_c_le | with_reducible apply i_BorderTour_l4_c_le | with_reducible apply i_BorderTour_j5_c_le | with_reducible apply i_BorderTour_l6_c_le | with_reducible refine OLe.cond ?_ ?_ | with_reducible refine OLe.ite ?_ ?_ | with_reducible refine OLe.bind ?_ ?_ | intro _
theorem i_BorderTour_j1_c_le : (n : Nat) → (y0 : Int) → (y1 : Int) → (y2 : List (Int)) → OLe (i_BorderTour_j1_c n y0 y1 y2) (i_BorderTour_j1 y0 y1 y2)
  | 0, _, _, _ => OLe.none _
  | n + 1, y0, y1, y2 => by
    rw [i_BorderTour_j1_c, i_BorderTour_j1_eq]
    repeat' first | with_reducible exact OLe.refl _ | with_reducible exact OLe.none _ | with_reducible apply i_gridOk_f_c_le | with_reducible apply i_BorderTour_l0_c_le | with_reducible apply i_BorderTour_j1_c_le | with_reducible apply i_BorderTour_l2_c_le | with_reducible apply i_BorderTour_j3_c_le | with_reducible apply i_BorderTour_l4_c_le | with_reducible apply i_BorderTour_j5_c_le | with_reducible apply i_BorderTour_l6_c_le | with_reducible refine OLe.cond ?_ ?_ | with_reducible refine OLe.ite ?_ ?_ | with_reducible refine OLe.bind ?_ ?_ | intro _
theorem i_BorderTour_l2_c_le : (n : Nat) → (y0 : Int) → (y1 : Int) → (y2 : Int) → (y3 : List (Int)) → OLe (i_BorderTour_l2_c n y0 y1 y2 y3) (i_BorderTour_l2 y0 y1 y2 y3)
  | 0, _, _, _, _ => OLe.none _
  | n + 1, y0, y1, y2, y3 => by
    rw [i_BorderTour_l2_c, i_BorderTour_l2_eq]
    repeat' first | with_reducible exact OLe.refl _ | with_reducible exact OLe.none _ | with_reducible apply i_gridOk_f_c_le | with_reducible apply i_BorderTour_l0_c_le | with_reducible apply i_BorderTour_j1_c_le | with_reducible apply i_BorderTour_l2_c_le | with_reducible apply i_BorderTour_j3_c_le | with_reducible apply i_BorderTour_l4_c_le | with_reducible apply i_BorderTour_j5_c_le | with_reducible apply i_BorderTour_l6_c_le | with_reducible refine OLe.cond ?_ ?_ | with_reducible refine OLe.ite ?_ ?_ | with_reducible refine OLe.bind ?_ ?_ | intro _
theorem i_BorderTour_j3_c_le : (n : Nat) → (y0 : Int) → (y1 : Int) → (y2 : List (Int)) → OLe (i_BorderTour_j3_c n y0 y1 y2) (i_BorderTour_j3 y0 y1 y2)
  | 0, _, _, _ => OLe.none _
  | n + 1, y0, y1, y2 => by
    rw [i_BorderTour_j3_c, i_BorderTour_j3_eq]
    repeat' first | with_reducible exact OLe.refl _ | with_reducible exact OLe.none _ | with_reducible apply i_gridOk_f_c_le | with_reducible apply i_BorderTour_l0_c_le | with_reducible apply i_BorderTour_j1_c_le | with_reducible apply i_BorderTour_l2_c_le | with_reducible apply i_BorderTour_j3_c_le | with_reducible apply i_BorderTour_l4_c_le | with_reducible apply i_BorderTour_j5_c_le | with_reducible apply i_BorderTour_l6_c_le | with_reducible refine OLe.cond ?_ ?_ | with_reducible refine OLe.ite ?_ ?_ | with_reducible refine OLe.bind ?_ ?_ | intro _
theorem i_BorderTour_l4_c_le : (n : Nat) → (y0 : Int) → (y1 : Int) → (y2 : Int) → (y3 : List (Int)) → OLe (i_BorderTour_l4_c n y0 y1 y2 y3) (i_BorderTour_l4 y0 y1 y2 y3)
  | 0, _, _, _, _ => OLe.none _
  | n + 1, y0, y1, y2, y3 => by
    rw [i_BorderTour_l4_c, i_BorderTour_l4_eq]
    repeat' first | with_reducible exact OLe.refl _ | with_reducible exact OLe.none _ | with_reducible apply i_gridOk_f_c_le | with_reducible apply i_BorderTour_l0_c_le | with_reducible apply i_BorderTour_j1_c_le | with_reducible apply i_BorderTour_l2_c_le | with_reducible apply i_BorderTour_j3_c_le | with_reducible apply i_BorderTour_l4_c_le | with_reducible apply i_BorderTour_j5_c_le | with_reducible apply i_BorderTour_l6_c_le | with_reducible refine OLe.cond ?_ ?_ | with_reducible refine OLe.ite ?_ ?_ | with_reducible refine OLe.bind ?_ ?_ | intro _
theorem i_BorderTour_j5_c_le : (n : Nat) → (y0 : Int) → (y1 : Int) → (y2 : List (Int)) → OLe (i_BorderTour_j5_c n y0 y1 y2) (i_BorderTour_j5 y0 y1 y2)
  | 0, _, _, _ => OLe.none _
  | n + 1, y0, y1, y2 => by
    rw [i_BorderTour_j5_c, i_BorderTour_j5_eq]
    repeat' first | with_reducible exact OLe.refl _ | with_reducible exact OLe.none _ | with_reducible apply i_gridOk_f_c_le | with_reducible apply i_BorderTour_l0_c_le | with_reducible apply i_BorderTour_j1_c_le | with_reducible apply i_BorderTour_l2_c_le | with_reducible apply i_BorderTour_j3_c_le | with_reducible apply i_BorderTour_l4_c_le | with_reducible apply i_BorderTour_j5_c_le | with_reducible apply i_BorderTour_l6_c_le | with_reducible refine OLe.cond ?_ ?_ | with_reducible refine OLe.ite ?_ ?_ | with_reducible refine OLe.bind ?_ ?_ | intro _
theorem i_BorderTour_l6_c_le : (n : Nat) → (y0 : Int) → (y1 : Int) → (y2 : List (Int)) → OLe (i_BorderTour_l6_c n y0 y1 y2) (i_BorderTour_l6 y0 y1 y2)
  | 0, _, _, _ => OLe.none _
  | n + 1, y0, y1, y2 => by
    rw [i_BorderTour_l6_c, i_BorderTour_l6_eq]
    repeat' first | with_reducible exact OLe.refl _ | with_reducible exact OLe.none _ | with_reducible apply i_gridOk_f_c_le | with_reducible apply i_BorderTour_l0_c_le | with_reducible apply i_BorderTour_j1_c_le | with_reducible apply i_BorderTour_l2_c_le | with_reducible apply i_BorderTour_j3_c_le | with_reducible apply i_BorderTour_l4_c_le | with_reducible apply i_BorderTour_j5_c_le | with_reducible apply i_BorderTour_l6_c_le | with_reducible refine OLe.cond ?_ ?_ | with_reducible refine OLe.ite ?_ ?_ | with_reducible refine OLe.bind ?_ ?_ | intro _
end
theorem i_BorderTour_f_c_le (n : Nat) (x : Ts i_BorderTour_sig.pc) : OLe (i_BorderTour_f_c n x) (i_BorderTour_f x) := by
  obtain ⟨x0, x1⟩ := x
  rw [i_BorderTour_f_c, i_BorderTour_f_eq]
  repeat' first | with_reducible exact OLe.refl _ | with_reducible exact OLe.none _ | with_reducible apply i_gridOk_f_c_le | with_reducible apply i_BorderTour_l0_c_le | with_reducible apply i_BorderTour_j1_c_le | with_reducible apply i_BorderTour_l2_c_le | with_reducible apply i_BorderTour_j3_c_le | with_reducible apply i_BorderTour_l4_c_le | with_reducible apply i_BorderTour_j5_c_le | with_reducible apply i_BorderTour_l6_c_le | with_reducible refine OLe.cond ?_ ?_ | with_reducible refine OLe.ite ?_ ?_ | with_reducible refine OLe.bind ?_ ?_ | intro _
theorem i_BorderTour_ent : Entb Try.prog 30 := ⟨Try.f30, by kernel_rfl, by kernel_rfl, by kernel_rfl⟩
theorem i_BorderTour_ok : CtrOk Try.prog 30 ⟨i_BorderTour_sig, i_BorderTour_f⟩ :=
  ctr_of (fn := Try.f30) (by kernel_rfl) (by kernel_rfl) (fun x : Ts i_BorderTour_sig.pc => i_BorderTour_E) (fun x => ⟨(fn_cons ⟨i_gridOk_ok, i_gridOk_ent⟩ fn_none), clo_none, wr_none⟩) (fun h => by cases h) follows_ (fun _ _ => trivial)
end FN
set_option linter.unusedVariables false
namespace FN
open Go Go.Proofs
/-! loop.example/firingnets/impl.NetOk -/
@[reducible] def i_NetOk_sig : Sig := { ps := [none], pc := [.view .i64], rs := [none], rc := [.bool] }
noncomputable def i_NetOk_E : Env' := { fn := fun f => none, ck := ckT, cuts := [(4, [0, 14, 15, 16]), (9, [0, 3, 4, 14, 15, 16, 38, 39])], mine := fun i => false }
noncomputable def i_NetOk_f (x : Ts i_NetOk_sig.pc) : Option (Ts i_NetOk_sig.rc) := runFn Try.prog (i_NetOk_E) Try.f43 i_NetOk_sig x
noncomputable def i_NetOk_l0 (y0 : List (Int)) (y1 : List (Int)) (y2 : Int) (y3 : Int) : Option ((Bool)) := from_ Try.prog (i_NetOk_E) Try.f43 i_NetOk_sig [1, 1, 0, 1, 0] ⟨mkT 56 [(0, .row false .i64 y0), (14, .row false .i64 y1), (15, .int .i64 y2), (16, .int .i64 y3)], []⟩
noncomputable def i_NetOk_l1 (y0 : List (Int)) (y1 : Int) (y2 : Int) (y3 : List (Int)) (y4 : Int) (y5 : Int) (y6 : Int) (y7 : Int) : Option ((Bool)) := from_ Try.prog (i_NetOk_E) Try.f43 i_NetOk_sig [1, 1, 0, 1, 0, 0, 1, 1, 0, 0, 1, 1, 1, 0] ⟨mkT 56 [(0, .row false .i64 y0), (3, .int .i64 y1), (4, .int .i64 y2), (14, .row false .i64 y3), (15, .int .i64 y4), (16, .int .i64 y5), (38, .int .i64 y6), (39, .int .i64 y7)], []⟩
theorem i_NetOk_f_eq (x0 : (List (Int))) : i_NetOk_f x0 = (cond ((decide ((List.length x0 : Int) < 1))) (some false) (cond ((decide (6 < (List.length x0 : Int)))) (some false) (i_NetOk_l0 x0 x0 (List.length x0 : Int) 0))) := by
  kernel_rfl
theorem i_NetOk_l0_eq (y0 : List (Int)) (y1 : List (Int)) (y2 : Int) (y3 : Int) : i_NetOk_l0 y0 y1 y2 y3 = (cond ((decide (y3 < y2))) (if (0 : Int) ≤ y3 ∧ y3 < (List.length y1 : Int) then (cond ((decide ((List.getD y1 (y3 : Int).toNat 0) < 0))) (some false) (if (List.length y0 : Int) < 0 then none else (cond ((decide ((IntKind.i64.wrap (1 * 2 ^ min ((List.length y0 : Int) : Int).toNat IntKind.i64.bits)) ≤ (List.getD y1 (y3 : Int).toNat 0)))) (some false) (if y3 < 0 then none else (cond (((Go.bits .and IntKind.i64 (Int.fdiv (List.getD y1 (y3 : Int).toNat 0) (2 ^ min (y3 : Int).toNat IntKind.i64.bits)) 1) == 1)) (some false) (i_NetOk_l1 y0 y3 (List.getD y1 (y3 : Int).toNat 0) y1 y2 y3 (List.length y0 : Int) 0)))))) else none) (some true)) := by
  refine (loopK_eq Try.prog (i_NetOk_E) (sub (Try.f43.body.getD .skip) [1, 1, 0, 1, 0, 0]) _ _).trans ?_
  kernel_rfl
theorem i_NetOk_l1_eq (y0 : List (Int)) (y1 : Int) (y2 : Int) (y3 : List (Int)) (y4 : Int) (y5 : Int) (y6 : Int) (y7 : Int) : i_NetOk_l1 y0 y1 y2 y3 y4 y5 y6 y7 = (cond ((decide (y7 < y6))) (if y7 < 0 then none else (if (0 : Int) ≤ y7 ∧ y7 < (List.length y0 : Int) then (if y1 < 0 then none else (cond (((Go.bits .and IntKind.i64 (Int.fdiv y2 (2 ^ min (y7 : Int).toNat IntKind.i64.bits)) 1) != (Go.bits .and IntKind.i64 (Int.fdiv (List.getD y0 (y7 : Int).toNat 0) (2 ^ min (y1 : Int).toNat IntKind.i64.bits)) 1))) (some false) (i_NetOk_l1 y0 y1 y2 y3 y4 y5 y6 (IntKind.i64.wrap (y7 + 1))))) else none)) (i_NetOk_l0 y0 y3 y4 (IntKind.i64.wrap (y5 + 1)))) := by
  refine (loopK_eq Try.prog (i_NetOk_E) (sub (Try.f43.body.getD .skip) [1, 1, 0, 1, 0, 0, 1, 1, 0, 0, 1, 1, 1, 0, 0]) _ _).trans ?_
  kernel_rfl
mutual
def i_NetOk_l0_c : Nat → (List (Int)) → (List (Int)) → (Int) → (Int) → Option ((Bool))
  | 0, _, _, _, _ => none
  | n + 1, y0, y1, y2, y3 => (cond ((decide (y3 < y2))) (if (0 : Int) ≤ y3 ∧ y3 < (List.length y1 : Int) then (cond ((decide ((List.getD y1 (y3 : Int).toNat 0) < 0))) (some false) (if (List.length y0 : Int) < 0 then none else (cond ((decide ((IntKind.i64.wrap (1 * 2 ^ min ((List.length y0 : Int) : Int).toNat IntKind.i64.bits)) ≤ (List.getD y1 (y3 : Int).toNat 0)))) (some false) (if y3 < 0 then none else (cond (((Go.bits .and IntKind.i64 (Int.fdiv (List.getD y1 (y3 : Int).toNat 0) (2 ^ min (y3 : Int).toNat IntKind.i64.bits)) 1) == 1)) (some false) (i_NetOk_l1_c n y0 y3 (List.getD y1 (y3 : Int).toNat 0) y1 y2 y3 (List.length y0 : Int) 0)))))) else none) (some true))
def i_NetOk_l1_c : Nat → (List (Int)) → (Int) → (Int) → (List (Int)) → (Int) → (Int) → (Int) → (Int) → Option ((Bool))
  | 0, _, _, _, _, _, _, _, _ => none
  | n + 1, y0, y1, y2, y3, y4, y5, y6, y7 => (cond ((decide (y7 < y6))) (if y7 < 0 then none else (if (0 : Int) ≤ y7 ∧ y7 < (List.length y0 : Int) then (if y1 < 0 then none else (cond (((Go.bits .and IntKind.i64 (Int.fdiv y2 (2 ^ min (y7 : Int).toNat IntKind.i64.bits)) 1) != (Go.bits .and IntKind.i64 (Int.fdiv (List.getD y0 (y7 : Int).toNat 0) (2 ^ min (y1 : Int).toNat IntKind.i64.bits)) 1))) (some false) (i_NetOk_l1_c n y0 y1 y2 y3 y4 y5 y6 (IntKind.i64.wrap (y7 + 1))))) else none)) (i_NetOk_l0_c n y0 y3 y4 (IntKind.i64.wrap (y5 + 1))))
end
def i_NetOk_f_c (n : Nat) : ((List (Int))) → Option ((Bool))
  | x0 => (cond ((decide ((List.length x0 : Int) < 1))) (some false) (cond ((decide (6 < (List.length x0 : Int)))) (some false) (i_NetOk_l0_c n x0 x0 (List.length x0 : Int) 0)))
mutual
theorem i_NetOk_l0_c_le : (n : Nat) → (y0 : List (Int)) → (y1 : List (Int)) → (y2 : Int) → (y3 : Int) → OLe (i_NetOk_l0_c n y0 y1 y2 y3) (i_NetOk_l0 y0 y1 y2 y3)
  | 0, _, _, _, _ => OLe.none _
  | n + 1, y0, y1, y2, y3 => by
    rw [i_NetOk_l0_c, i_NetOk_l0_eq]
    repeat' first | with_reducible exact OLe.refl _ | with_reducible exact OLe.none _ | with_reducible apply i_NetOk_l0_c_le | with_reducible apply i_NetOk_l1_c_le | with_reducible refine OLe.cond ?_ ?_ | with_reducible refine OLe.ite ?_ ?_ | with_reducible refine OLe.bind ?_ ?_ | intro _
theorem i_NetOk_l1_c_le : (n : Nat) → (y0 : List (Int)) → (y1 : Int) → (y2 : Int) → (y3 : List (Int)) → (y4 : Int) → (y5 : Int) → (y6 : Int) → (y7 : Int) → OLe (i_NetOk_l1_c n y0 y1 y2 y3 y4 y5 y6 y7) (i_NetOk_l1 y0 y1 y2 y3 y4 y5 y6 y7)
  | 0, _, _, _, _, _, _, _, _ => OLe.none _
  | n + 1, y0, y1, y2, y3, y4, y5, y6, y7 => by
    rw [i_NetOk_l1_c, i_NetOk_l1_eq]
    repeat' first | with_reducible exact OLe.refl _ | with_reducible exact OLe.none _ | with_reducible apply i_NetOk_l0_c_le | with_reducible apply i_NetOk_l1_c_le | with_reducible refine OLe.cond ?_ ?_ | with_reducible refine OLe.ite ?_ ?_ | with_reducible refine OLe.bind ?_ ?_ | intro _
end
theorem i_NetOk_f_c_le (n : Nat) (x : Ts i_NetOk_sig.pc) : OLe (i_NetOk_f_c n x) (i_NetOk_f x) := by
  rw [i_NetOk_f_c, i_NetOk_f_eq]
  repeat' first | with_reducible exact OLe.refl _ | with_reducible exact OLe.none _ | with_reducible apply i_NetOk_l0_c_le | with_reducible apply i_NetOk_l1_c_le | with_reducible refine OLe.cond ?_ ?_ | with_reducible refine OLe.ite ?_ ?_ | with_reducible refine OLe.bind ?_ ?_ | intro _
theorem i_NetOk_ent : Entb Try.prog 43 := ⟨Try.f43, by kernel_rfl, by kernel_rfl, by kernel_rfl⟩
theorem i_NetOk_ok : CtrOk Try.prog 43 ⟨i_NetOk_sig, i_NetOk_f⟩ :=
  ctr_of (fn := Try.f43) (by kernel_rfl) (by kernel_rfl) (fun x : Ts i_NetOk_sig.pc => i_NetOk_E) (fun x => ⟨fn_none, clo_none, wr_none⟩) (fun h => by cases h) follows_ (fun _ _ => trivial)
end FN
set_option linter.unusedVariables false
namespace FN
open Go Go.Proofs
/-! loop.example/firingnets/impl.StateOk -/
@[reducible] def i_StateOk_sig : Sig := { ps := [none, none], pc := [.int .i64, .view .i64], rs := [none], rc := [.bool] }
noncomputable def i_StateOk_E : Env' := { fn := fun f => none, ck := ckT, cuts := [(2, [0, 1, 7, 8, 9]), (7, [0, 1])], mine := fun i => false }
noncomputable def i_StateOk_f (x : Ts i_StateOk_sig.pc) : Option (Ts i_StateOk_sig.rc) := runFn Try.prog (i_StateOk_E) Try.f66 i_StateOk_sig x
noncomputable def i_StateOk_l0 (y0 : Int) (y1 : List (Int)) (y2 : List (Int)) (y3 : Int) (y4 : Int) : Option ((Bool)) := from_ Try.prog (i_StateOk_E) Try.f66 i_StateOk_sig [1, 0, 1, 0] ⟨mkT 37 [(0, .int .i64 y0), (1, .row false .i64 y1), (7, .row false .i64 y2), (8, .int .i64 y3), (9, .int .i64 y4)], []⟩
noncomputable def i_StateOk_j1 (y0 : Int) (y1 : List (Int)) : Option ((Bool)) := from_ Try.prog (i_StateOk_E) Try.f66 i_StateOk_sig [1, 1] ⟨mkT 37 [(0, .int .i64 y0), (1, .row false .i64 y1)], []⟩
theorem i_StateOk_f_eq (x0 : (Int)) (x1 : (List (Int))) : i_StateOk_f (x0, x1) = (i_StateOk_l0 x0 x1 x1 (List.length x1 : Int) 0) := by
  kernel_rfl
theorem i_StateOk_l0_eq (y0 : Int) (y1 : List (Int)) (y2 : List (Int)) (y3 : Int) (y4 : Int) : i_StateOk_l0 y0 y1 y2 y3 y4 = (cond ((decide (y4 < y3))) (if (0 : Int) ≤ y4 ∧ y4 < (List.length y2 : Int) then (cond ((decide ((List.getD y2 (y4 : Int).toNat 0) < 0))) (some false) (cond ((decide (y0 ≤ (List.getD y2 (y4 : Int).toNat 0)))) (some false) (i_StateOk_l0 y0 y1 y2 y3 (IntKind.i64.wrap (y4 + 1))))) else none) (i_StateOk_j1 y0 y1)) := by
  refine (loopK_eq Try.prog (i_StateOk_E) (sub (Try.f66.body.getD .skip) [1, 0, 1, 0, 0]) _ _).trans ?_
  kernel_rfl
theorem i_StateOk_j1_eq (y0 : Int) (y1 : List (Int)) : i_StateOk_j1 y0 y1 = (cond ((decide (3 ≤ y0))) (cond ((decide (y0 ≤ 5))) (cond ((decide (1 ≤ (List.length y1 : Int)))) (some (decide ((List.length y1 : Int) ≤ 6))) (some false)) (some false)) (some false)) := by
  kernel_rfl
mutual
def i_StateOk_l0_c : Nat → (Int) → (List (Int)) → (List (Int)) → (Int) → (Int) → Option ((Bool))
  | 0, _, _, _, _, _ => none
  | n + 1, y0, y1, y2, y3, y4 => (cond ((decide (y4 < y3))) (if (0 : Int) ≤ y4 ∧ y4 < (List.length y2 : Int) then (cond ((decide ((List.getD y2 (y4 : Int).toNat 0) < 0))) (some false) (cond ((decide (y0 ≤ (List.getD y2 (y4 : Int).toNat 0)))) (some false) (i_StateOk_l0_c n y0 y1 y2 y3 (IntKind.i64.wrap (y4 + 1))))) else none) (i_StateOk_j1_c n y0 y1))
def i_StateOk_j1_c : Nat → (Int) → (List (Int)) → Option ((Bool))
  | 0, _, _ => none
  | n + 1, y0, y1 => (cond ((decide (3 ≤ y0))) (cond ((decide (y0 ≤ 5))) (cond ((decide (1 ≤ (List.length y1 : Int)))) (some (decide ((List.length y1 : Int) ≤ 6))) (some false)) (some false)) (some false))
end
def i_StateOk_f_c (n : Nat) : ((Int)) × ((List (Int))) → Option ((Bool))
  | (x0, x1) => (i_StateOk_l0_c n x0 x1 x1 (List.length x1 : Int) 0)
mutual
theorem i_StateOk_l0_c_le : (n : Nat) → (y0 : Int) → (y1 : List (Int)) → (y2 : List (Int)) → (y3 : Int) → (y4 : Int) → OLe (i_StateOk_l0_c n y0 y1 y2 y3 y4) (i_StateOk_l0 y0 y1 y2 y3 y4)
  | 0, _, _, _, _, _ => OLe.none _
  | n + 1, y0, y1, y2, y3, y4 => by
    rw [i_StateOk_l0_c, i_StateOk_l0_eq]
    repeat' first | with_reducible exact OLe.refl _ | with_reducible exact OLe.none _ | with_reducible apply i_StateOk_l0_c_le | with_reducible apply i_StateOk_j1_c_le | with_reducible refine OLe.cond ?_ ?_ | with_reducible refine OLe.ite ?_ ?_ | with_reducible refine OLe.bind ?_ ?_ | intro _
theorem i_StateOk_j1_c_le : (n : Nat) → (y0 : Int) → (y1 : List (Int)) → OLe (i_StateOk_j1_c n y0 y1) (i_StateOk_j1 y0 y1)
  | 0, _, _ => OLe.none _
  | n + 1, y0, y1 => by
    rw [i_StateOk_j1_c, i_StateOk_j1_eq]
    repeat' first | with_reducible exact OLe.refl _ | with_reducible exact OLe.none _ | with_reducible apply i_StateOk_l0_c_le | with_reducible apply i_StateOk_j1_c_le | with_reducible refine OLe.cond ?_ ?_ | with_reducible refine OLe.ite ?_ ?_ | with_reducible refine OLe.bind ?_ ?_ | intro _
end
theorem i_StateOk_f_c_le (n : Nat) (x : Ts i_StateOk_sig.pc) : OLe (i_StateOk_f_c n x) (i_StateOk_f x) := by
  obtain ⟨x0, x1⟩ := x
  rw [i_StateOk_f_c, i_StateOk_f_eq]
  repeat' first | with_reducible exact OLe.refl _ | with_reducible exact OLe.none _ | with_reducible apply i_StateOk_l0_c_le | with_reducible apply i_StateOk_j1_c_le | with_reducible refine OLe.cond ?_ ?_ | with_reducible refine OLe.ite ?_ ?_ | with_reducible refine OLe.bind ?_ ?_ | intro _
theorem i_StateOk_ent : Entb Try.prog 66 := ⟨Try.f66, by kernel_rfl, by kernel_rfl, by kernel_rfl⟩
theorem i_StateOk_ok : CtrOk Try.prog 66 ⟨i_StateOk_sig, i_StateOk_f⟩ :=
  ctr_of (fn := Try.f66) (by kernel_rfl) (by kernel_rfl) (fun x : Ts i_StateOk_sig.pc => i_StateOk_E) (fun x => ⟨fn_none, clo_none, wr_none⟩) (fun h => by cases h) follows_ (fun _ _ => trivial)
end FN
set_option linter.unusedVariables false
namespace FN
open Go Go.Proofs
/-! loop.example/firingnets/impl.asked -/
@[reducible] def i_asked_sig : Sig := { ps := [none, none, none], pc := [.view .i64, .int .i64, .view .i64], rs := [none], rc := [.bool] }
noncomputable def i_asked_E : Env' := { fn := fun f => if f = 43 then some ⟨i_NetOk_sig, i_NetOk_f⟩ else if f = 66 then some ⟨i_StateOk_sig, i_StateOk_f⟩ else none, ck := ckT, cuts := [], mine := fun i => false }
noncomputable def i_asked_f (x : Ts i_asked_sig.pc) : Option (Ts i_asked_sig.rc) := runFn Try.prog (i_asked_E) Try.f48 i_asked_sig x
theorem i_asked_f_eq (x0 : (List (Int))) (x1 : (Int)) (x2 : (List (Int))) : i_asked_f (x0, x1, x2) = (Option.bind (i_NetOk_f x0) fun r1 => (cond (r1) (Option.bind (i_StateOk_f (x1, x2)) fun r2 => (cond (r2) (some ((List.length x0 : Int) == (List.length x2 : Int))) (some false))) (some false))) := by
  kernel_rfl
def i_asked_f_c (n : Nat) : ((List (Int))) × ((Int)) × ((List (Int))) → Option ((Bool))
  | (x0, x1, x2) => (Option.bind (i_NetOk_f_c n x0) fun r1 => (cond (r1) (Option.bind (i_StateOk_f_c n (x1, x2)) fun r2 => (cond (r2) (some ((List.length x0 : Int) == (List.length x2 : Int))) (some false))) (some false)))
theorem i_asked_f_c_le (n : Nat) (x : Ts i_asked_sig.pc) : OLe (i_asked_f_c n x) (i_asked_f x) := by
  obtain ⟨x0, x1, x2⟩ := x
  rw [i_asked_f_c, i_asked_f_eq]
  repeat' first | with_reducible exact OLe.refl _ | with_reducible exact OLe.none _ | with_reducible apply i_NetOk_f_c_le | with_reducible apply i_StateOk_f_c_le | with_reducible refine OLe.cond ?_ ?_ | with_reducible refine OLe.ite ?_ ?_ | with_reducible refine OLe.bind ?_ ?_ | intro _
theorem i_asked_ent : Entb Try.prog 48 := ⟨Try.f48, by kernel_rfl, by kernel_rfl, by kernel_rfl⟩
theorem i_asked_ok : CtrOk Try.prog 48 ⟨i_asked_sig, i_asked_f⟩ :=
  ctr_of (fn := Try.f48) (by kernel_rfl) (by kernel_rfl) (fun x : Ts i_asked_sig.pc => i_asked_E) (fun x => ⟨(fn_cons ⟨i_NetOk_ok, i_NetOk_ent⟩ (fn_cons ⟨i_StateOk_ok, i_StateOk_ent⟩ fn_none)), clo_none, wr_none⟩) (fun h => by cases h) follows_ (fun _ _ => trivial)
end FN
set_option linter.unusedVariables false
namespace FN
open Go Go.Proofs
/-! loop.example/firingnets/impl.rise -/
@[reducible] def i_rise_sig : Sig := { ps := [none, none, none], pc := [.view .i64, .int .i64, .int .i64], rs := [none], rc := [.int .i64] }
noncomputable def i_rise_E : Env' := { fn := fun f => none, ck := ckT, cuts := [], mine := fun i => false }
noncomputable def i_rise_f (x : Ts i_rise_sig.pc) : Option (Ts i_rise_sig.rc) := runFn Try.prog (i_rise_E) Try.f68 i_rise_sig x
theorem i_rise_f_eq (x0 : (List (Int))) (x1 : (Int)) (x2 : (Int)) : i_rise_f (x0, x1, x2) = (if (0 : Int) ≤ x2 ∧ x2 < (List.length x0 : Int) then (if (0 : Int) ≤ x1 ∧ x1 < (List.length x0 : Int) then (cond (((Int.tmod (IntKind.i64.wrap ((IntKind.i64.wrap ((List.getD x0 (x2 : Int).toNat 0) - (List.getD x0 (x1 : Int).toNat 0))) + 3)) 3) == 1)) (some 1) (cond (((Int.tmod (IntKind.i64.wrap ((IntKind.i64.wrap ((List.getD x0 (x2 : Int).toNat 0) - (List.getD x0 (x1 : Int).toNat 0))) + 3)) 3) == 2)) (some (-1)) (some 0))) else none) else none) := by
  kernel_rfl
def i_rise_f_c (n : Nat) : ((List (Int))) × ((Int)) × ((Int)) → Option ((Int))
  | (x0, x1, x2) => (if (0 : Int) ≤ x2 ∧ x2 < (List.length x0 : Int) then (if (0 : Int) ≤ x1 ∧ x1 < (List.length x0 : Int) then (cond (((Int.tmod (IntKind.i64.wrap ((IntKind.i64.wrap ((List.getD x0 (x2 : Int).toNat 0) - (List.getD x0 (x1 : Int).toNat 0))) + 3)) 3) == 1)) (some 1) (cond (((Int.tmod (IntKind.i64.wrap ((IntKind.i64.wrap ((List.getD x0 (x2 : Int).toNat 0) - (List.getD x0 (x1 : Int).toNat 0))) + 3)) 3) == 2)) (some (-1)) (some 0))) else none) else none)
theorem i_rise_f_c_le (n : Nat) (x : Ts i_rise_sig.pc) : OLe (i_rise_f_c n x) (i_rise_f x) := by
  obtain ⟨x0, x1, x2⟩ := x
  rw [i_rise_f_c, i_rise_f_eq]
  repeat' first | with_reducible exact OLe.refl _ | with_reducible exact OLe.none _ | with_reducible refine OLe.cond ?_ ?_ | with_reducible refine OLe.ite ?_ ?_ | with_reducible refine OLe.bind ?_ ?_ | intro _
theorem i_rise_ent : Entb Try.prog 68 := ⟨Try.f68, by kernel_rfl, by kernel_rfl, by kernel_rfl⟩
theorem i_rise_ok : CtrOk Try.prog 68 ⟨i_rise_sig, i_rise_f⟩ :=
  ctr_of (fn := Try.f68) (by kernel_rfl) (by kernel_rfl) (fun x : Ts i_rise_sig.pc => i_rise_E) (fun x => ⟨fn_none, clo_none, wr_none⟩) (fun h => by cases h) follows_ (fun _ _ => trivial)
end FN
set_option linter.unusedVariables false
namespace FN
open Go Go.Proofs
/-! loop.example/firingnets/impl.HeightRow -/
@[reducible] def i_HeightRow_sig : Sig := { ps := [none, none], pc := [.view .i64, .view .i64], rs := [none, none], rc := [.row 3 .i64, .bool] }
noncomputable def i_HeightRow_E : Env' := { fn := fun f => if f = 48 then some ⟨i_asked_sig, i_asked_f⟩ else if f = 68 then some ⟨i_rise_sig, i_rise_f⟩ else none, ck := ckT, cuts := [(6, [0, 1, 6, 7, 25, 26]), (12, [0, 1, 6, 7, 9, 10, 25, 26]), (16, [0, 1, 6, 7, 9, 10, 11, 25, 26, 49, 50])], mine := fun i => false }
noncomputable def i_HeightRow_f (x : Ts i_HeightRow_sig.pc) : Option (Ts i_HeightRow_sig.rc) := runFn Try.prog (i_HeightRow_E) Try.f55 i_HeightRow_sig x
noncomputable def i_HeightRow_l0 (y0 : List (Int)) (y1 : List (Int)) (y2 : Int) (y3 : Int) (y4 : List (Int)) (y5 : List (Bool)) : Option ((List (Int)) × (Bool)) := from_ Try.prog (i_HeightRow_E) Try.f55 i_HeightRow_sig [1, 1, 1, 1, 0, 1, 0] ⟨mkT 101 [(0, .row false .i64 y0), (1, .row false .i64 y1), (6, .own 0), (7, .own 1), (25, .int .i64 y2), (26, .int .i64 y3)], [some (.arr 3 true .i64 y4), some (.arr 4 true .bool y5)]⟩
noncomputable def i_HeightRow_l1 (y0 : List (Int)) (y1 : List (Int)) (y2 : Int) (y3 : Int) (y4 : Int) (y5 : List (Int)) (y6 : List (Bool)) (y7 : List (Int)) : Option ((List (Int)) × (Bool)) := from_ Try.prog (i_HeightRow_E) Try.f55 i_HeightRow_sig [1, 1, 1, 1, 0, 1, 0, 0, 1, 1, 0, 0, 1, 1, 1, 1, 1, 0] ⟨mkT 101 [(0, .row false .i64 y0), (1, .row false .i64 y1), (6, .own 0), (7, .own 1), (9, .own 2), (10, .int .i64 y2), (25, .int .i64 y3), (26, .int .i64 y4)], [some (.arr 3 true .i64 y5), some (.arr 4 true .bool y6), some (.arr 3 true .i64 y7)]⟩
noncomputable def i_HeightRow_l2 (y0 : List (Int)) (y1 : List (Int)) (y2 : Int) (y3 : Int) (y4 : Int) (y5 : Int) (y6 : Int) (y7 : Int) (y8 : List (Int)) (y9 : List (Bool)) (y10 : List (Int)) : Option ((List (Int)) × (Bool)) := from_ Try.prog (i_HeightRow_E) Try.f55 i_HeightRow_sig [1, 1, 1, 1, 0, 1, 0, 0, 1, 1, 0, 0, 1, 1, 1, 1, 1, 0, 0, 1, 0, 0, 1, 1, 0] ⟨mkT 101 [(0, .row false .i64 y0), (1, .row false .i64 y1), (6, .own 0), (7, .own 1), (9, .own 2), (10, .int .i64 y2), (11, .int .i64 y3), (25, .int .i64 y4), (26, .int .i64 y5), (49, .int .i64 y6), (50, .int .i64 y7)], [some (.arr 3 true .i64 y8), some (.arr 4 true .bool y9), some (.arr 3 true .i64 y10)]⟩
theorem i_HeightRow_f_eq (x0 : (List (Int))) (x1 : (List (Int))) : i_HeightRow_f (x0, x1) = (Option.bind (i_asked_f (x0, 3, x1)) fun r1 => (cond ((!r1)) (some ([], false)) (if (0 : Int) ≤ (List.length x0 : Int) ∧ (List.length x0 : Int) * 8 ≤ 140737488355328 ∧ (List.length x0 : Int) ≤ 140737488355328 then (if (0 : Int) ≤ (List.length x0 : Int) ∧ (List.length x0 : Int) * 1 ≤ 140737488355328 ∧ (List.length x0 : Int) ≤ 140737488355328 then (i_HeightRow_l0 x0 x1 (List.length x0 : Int) 0 (List.replicate ((List.length x0 : Int) : Int).toNat 0 : List (Int)) (List.replicate ((List.length x0 : Int) : Int).toNat false : List (Bool))) else none) else none))) := by
  kernel_rfl
theorem i_HeightRow_l0_eq (y0 : List (Int)) (y1 : List (Int)) (y2 : Int) (y3 : Int) (y4 : List (Int)) (y5 : List (Bool)) : i_HeightRow_l0 y0 y1 y2 y3 y4 y5 = (cond ((decide (y3 < y2))) (if (0 : Int) ≤ y3 ∧ y3 < (List.length y5 : Int) then (cond ((List.getD y5 (y3 : Int).toNat false)) (i_HeightRow_l0 y0 y1 y2 (IntKind.i64.wrap (y3 + 1)) y4 y5) (if (0 : Int) ≤ y3 ∧ y3 < (List.length y5 : Int) then (i_HeightRow_l1 y0 y1 0 y2 y3 y4 (List.set y5 (y3 : Int).toNat true) ([y3] : List (Int))) else none)) else none) (some (y4, true))) := by
  refine (loopK_eq Try.prog (i_HeightRow_E) (sub (Try.f55.body.getD .skip) [1, 1, 1, 1, 0, 1, 0, 0]) _ _).trans ?_
  kernel_rfl
theorem i_HeightRow_l1_eq (y0 : List (Int)) (y1 : List (Int)) (y2 : Int) (y3 : Int) (y4 : Int) (y5 : List (Int)) (y6 : List (Bool)) (y7 : List (Int)) : i_HeightRow_l1 y0 y1 y2 y3 y4 y5 y6 y7 = (cond ((decide (y2 < (List.length y7 : Int)))) (if (0 : Int) ≤ y2 ∧ y2 < (List.length y7 : Int) then (i_HeightRow_l2 y0 y1 y2 (List.getD y7 (y2 : Int).toNat 0) y3 y4 (List.length y0 : Int) 0 y5 y6 y7) else none) (i_HeightRow_l0 y0 y1 y3 (IntKind.i64.wrap (y4 + 1)) y5 y6)) := by
  refine (loopK_eq Try.prog (i_HeightRow_E) (sub (Try.f55.body.getD .skip) [1, 1, 1, 1, 0, 1, 0, 0, 1, 1, 0, 0, 1, 1, 1, 1, 1, 0, 0]) _ _).trans ?_
  kernel_rfl
theorem i_HeightRow_l2_eq (y0 : List (Int)) (y1 : List (Int)) (y2 : Int) (y3 : Int) (y4 : Int) (y5 : Int) (y6 : Int) (y7 : Int) (y8 : List (Int)) (y9 : List (Bool)) (y10 : List (Int)) : i_HeightRow_l2 y0 y1 y2 y3 y4 y5 y6 y7 y8 y9 y10 = (cond ((decide (y7 < y6))) (if (0 : Int) ≤ y3 ∧ y3 < (List.length y0 : Int) then (if y7 < 0 then none else (cond (((Go.bits .and IntKind.i64 (Int.fdiv (List.getD y0 (y3 : Int).toNat 0) (2 ^ min (y7 : Int).toNat IntKind.i64.bits)) 1) == 0)) (i_HeightRow_l2 y0 y1 y2 y3 y4 y5 y6 (IntKind.i64.wrap (y7 + 1)) y8 y9 y10) (if (0 : Int) ≤ y3 ∧ y3 < (List.length y8 : Int) then (Option.bind (i_rise_f (y1, y3, y7)) fun r1 => (if (0 : Int) ≤ y7 ∧ y7 < (List.length y9 : Int) then (cond ((List.getD y9 (y7 : Int).toNat false)) (if (0 : Int) ≤ y7 ∧ y7 < (List.length y8 : Int) then (cond (((List.getD y8 (y7 : Int).toNat 0) != (IntKind.i64.wrap ((List.getD y8 (y3 : Int).toNat 0) + r1)))) (some ([], false)) (if (0 : Int) ≤ y7 ∧ y7 < (List.length y9 : Int) then (cond ((!(List.getD y9 (y7 : Int).toNat false))) (if (0 : Int) ≤ y7 ∧ y7 < (List.length y9 : Int) then (if (0 : Int) ≤ y7 ∧ y7 < (List.length y8 : Int) then (if (List.length y10 + List.length ([y7] : List (Int))) * 8 ≤ 140737488355328 then (i_HeightRow_l2 y0 y1 y2 y3 y4 y5 y6 (IntKind.i64.wrap (y7 + 1)) (List.set y8 (y7 : Int).toNat (IntKind.i64.wrap ((List.getD y8 (y3 : Int).toNat 0) + r1))) (List.set y9 (y7 : Int).toNat true) (y10 ++ ([y7] : List (Int)))) else none) else none) else none) (i_HeightRow_l2 y0 y1 y2 y3 y4 y5 y6 (IntKind.i64.wrap (y7 + 1)) y8 y9 y10)) else none)) else none) (if (0 : Int) ≤ y7 ∧ y7 < (List.length y9 : Int) then (cond ((!(List.getD y9 (y7 : Int).toNat false))) (if (0 : Int) ≤ y7 ∧ y7 < (List.length y9 : Int) then (if (0 : Int) ≤ y7 ∧ y7 < (List.length y8 : Int) then (if (List.length y10 + List.length ([y7] : List (Int))) * 8 ≤ 140737488355328 then (i_HeightRow_l2 y0 y1 y2 y3 y4 y5 y6 (IntKind.i64.wrap (y7 + 1)) (List.set y8 (y7 : Int).toNat (IntKind.i64.wrap ((List.getD y8 (y3 : Int).toNat 0) + r1))) (List.set y9 (y7 : Int).toNat true) (y10 ++ ([y7] : List (Int)))) else none) else none) else none) (i_HeightRow_l2 y0 y1 y2 y3 y4 y5 y6 (IntKind.i64.wrap (y7 + 1)) y8 y9 y10)) else none)) else none)) else none))) else none) (i_HeightRow_l1 y0 y1 (IntKind.i64.wrap (y2 + 1)) y4 y5 y8 y9 y10)) := by
  refine (loopK_eq Try.prog (i_HeightRow_E) (sub (Try.f55.body.getD .skip) [1, 1, 1, 1, 0, 1, 0, 0, 1, 1, 0, 0, 1, 1, 1, 1, 1, 0, 0, 1, 0, 0, 1, 1, 0, 0]) _ _).trans ?_
  kernel_rfl
mutual
def i_HeightRow_l0_c : Nat → (List (Int)) → (List (Int)) → (Int) → (Int) → (List (Int)) → (List (Bool)) → Option ((List (Int)) × (Bool))
  | 0, _, _, _, _, _, _ => none
  | n + 1, y0, y1, y2, y3, y4, y5 => (cond ((decide (y3 < y2))) (if (0 : Int) ≤ y3 ∧ y3 < (List.length y5 : Int) then (cond ((List.getD y5 (y3 : Int).toNat false)) (i_HeightRow_l0_c n y0 y1 y2 (IntKind.i64.wrap (y3 + 1)) y4 y5) (if (0 : Int) ≤ y3 ∧ y3 < (List.length y5 : Int) then (i_HeightRow_l1_c n y0 y1 0 y2 y3 y4 (List.set y5 (y3 : Int).toNat true) ([y3] : List (Int))) else none)) else none) (some (y4, true)))
def i_HeightRow_l1_c : Nat → (List (Int)) → (List (Int)) → (Int) → (Int) → (Int) → (List (Int)) → (List (Bool)) → (List (Int)) → Option ((List (Int)) × (Bool))
  | 0, _, _, _, _, _, _, _, _ => none
  | n + 1, y0, y1, y2, y3, y4, y5, y6, y7 => (cond ((decide (y2 < (List.length y7 : Int)))) (if (0 : Int) ≤ y2 ∧ y2 < (List.length y7 : Int) then (i_HeightRow_l2_c n y0 y1 y2 (List.getD y7 (y2 : Int).toNat 0) y3 y4 (List.length y0 : Int) 0 y5 y6 y7) else none) (i_HeightRow_l0_c n y0 y1 y3 (IntKind.i64.wrap (y4 + 1)) y5 y6))
def i_HeightRow_l2_c : Nat → (List (Int)) → (List (Int)) → (Int) → (Int) → (Int) → (Int) → (Int) → (Int) → (List (Int)) → (List (Bool)) → (List (Int)) → Option ((List (Int)) × (Bool))
  | 0, _, _, _, _, _, _, _, _, _, _, _ => none
  | n + 1, y0, y1, y2, y3, y4, y5, y6, y7, y8, y9, y10 => (cond ((decide (y7 < y6))) (if (0 : Int) ≤ y3 ∧ y3 < (List.length y0 : Int) then (if y7 < 0 then none else (cond (((Go.bits .and IntKind.i64 (Int.fdiv (List.getD y0 (y3 : Int).toNat 0) (2 ^ min (y7 : Int).toNat IntKind.i64.bits)) 1) == 0)) (i_HeightRow_l2_c n y0 y1 y2 y3 y4 y5 y6 (IntKind.i64.wrap (y7 + 1)) y8 y9 y10) (if (0 : Int) ≤ y3 ∧ y3 < (List.length y8 : Int) then (Option.bind (i_rise_f_c n (y1, y3, y7)) fun r1 => (if (0 : Int) ≤ y7 ∧ y7 < (List.length y9 : Int) then (cond ((List.getD y9 (y7 : Int).toNat false)) (if (0 : Int) ≤ y7 ∧ y7 < (List.length y8 : Int) then (cond (((List.getD y8 (y7 : Int).toNat 0) != (IntKind.i64.wrap ((List.getD y8 (y3 : Int).toNat 0) + r1)))) (some ([], false)) (if (0 : Int) ≤ y7 ∧ y7 < (List.length y9 : Int) then (cond ((!(List.getD y9 (y7 : Int).toNat false))) (if (0 : Int) ≤ y7 ∧ y7 < (List.length y9 : Int) then (if (0 : Int) ≤ y7 ∧ y7 < (List.length y8 : Int) then (if (List.length y10 + List.length ([y7] : List (Int))) * 8 ≤ 140737488355328 then (i_HeightRow_l2_c n y0 y1 y2 y3 y4 y5 y6 (IntKind.i64.wrap (y7 + 1)) (List.set y8 (y7 : Int).toNat (IntKind.i64.wrap ((List.getD y8 (y3 : Int).toNat 0) + r1))) (List.set y9 (y7 : Int).toNat true) (y10 ++ ([y7] : List (Int)))) else none) else none) else none) (i_HeightRow_l2_c n y0 y1 y2 y3 y4 y5 y6 (IntKind.i64.wrap (y7 + 1)) y8 y9 y10)) else none)) else none) (if (0 : Int) ≤ y7 ∧ y7 < (List.length y9 : Int) then (cond ((!(List.getD y9 (y7 : Int).toNat false))) (if (0 : Int) ≤ y7 ∧ y7 < (List.length y9 : Int) then (if (0 : Int) ≤ y7 ∧ y7 < (List.length y8 : Int) then (if (List.length y10 + List.length ([y7] : List (Int))) * 8 ≤ 140737488355328 then (i_HeightRow_l2_c n y0 y1 y2 y3 y4 y5 y6 (IntKind.i64.wrap (y7 + 1)) (List.set y8 (y7 : Int).toNat (IntKind.i64.wrap ((List.getD y8 (y3 : Int).toNat 0) + r1))) (List.set y9 (y7 : Int).toNat true) (y10 ++ ([y7] : List (Int)))) else none) else none) else none) (i_HeightRow_l2_c n y0 y1 y2 y3 y4 y5 y6 (IntKind.i64.wrap (y7 + 1)) y8 y9 y10)) else none)) else none)) else none))) else none) (i_HeightRow_l1_c n y0 y1 (IntKind.i64.wrap (y2 + 1)) y4 y5 y8 y9 y10))
end
def i_HeightRow_f_c (n : Nat) : ((List (Int))) × ((List (Int))) → Option ((List (Int)) × (Bool))
  | (x0, x1) => (Option.bind (i_asked_f_c n (x0, 3, x1)) fun r1 => (cond ((!r1)) (some ([], false)) (if (0 : Int) ≤ (List.length x0 : Int) ∧ (List.length x0 : Int) * 8 ≤ 140737488355328 ∧ (List.length x0 : Int) ≤ 140737488355328 then (if (0 : Int) ≤ (List.length x0 : Int) ∧ (List.length x0 : Int) * 1 ≤ 140737488355328 ∧ (List.length x0 : Int) ≤ 140737488355328 then (i_HeightRow_l0_c n x0 x1 (List.length x0 : Int) 0 (List.replicate ((List.length x0 : Int) : Int).toNat 0 : List (Int)) (List.replicate ((List.length x0 : Int) : Int).toNat false : List (Bool))) else none) else none)))
mutual
theorem i_HeightRow_l0_c_le : (n : Nat) → (y0 : List (Int)) → (y1 : List (Int)) → (y2 : Int) → (y3 : Int) → (y4 : List (Int)) → (y5 : List (Bool)) → OLe (i_HeightRow_l0_c n y0 y1 y2 y3 y4 y5) (i_HeightRow_l0 y0 y1 y2 y3 y4 y5)
  | 0, _, _, _, _, _, _ => OLe.none _
  | n + 1, y0, y1, y2, y3, y4, y5 => by
    rw [i_HeightRow_l0_c, i_HeightRow_l0_eq]
    repeat' first | with_reducible exact OLe.refl _ | with_reducible exact OLe.none _ | with_reducible apply i_asked_f_c_le | with_reducible apply i_rise_f_c_le | with_reducible apply i_HeightRow_l0_c_le | with_reducible apply i_HeightRow_l1_c_le | with_reducible apply i_HeightRow_l2_c_le | with_reducible refine OLe.cond ?_ ?_ | with_reducible refine OLe.ite ?_ ?_ | with_reducible refine OLe.bind ?_ ?_ | intro _
theorem i_HeightRow_l1_c_le : (n : Nat) → (y0 : List (Int)) → (y1 : List (Int)) → (y2 : Int) → (y3 : Int) → (y4 : Int) → (y5 : List (Int)) → (y6 : List (Bool)) → (y7 : List (Int)) → OLe (i_HeightRow_l1_c n y0 y1 y2 y3 y4 y5 y6 y7) (i_HeightRow_l1 y0 y1 y2 y3 y4 y5 y6 y7)
  | 0, _, _, _, _, _, _, _, _ => OLe.none _
  | n + 1, y0, y1, y2, y3, y4, y5, y6, y7 => by
    rw [i_HeightRow_l1_c, i_HeightRow_l1_eq]
    repeat' first | with_reducible exact OLe.refl _ | with_reducible exact OLe.none _ | with_reducible apply i_asked_f_c_le | with_reducible apply i_rise_f_c_le | with_reducible apply i_HeightRow_l0_c_le | with_reducible apply i_HeightRow_l1_c_le | with_reducible apply i_HeightRow_l2_c_le | with_reducible refine OLe.cond ?_ ?_ | with_reducible refine OLe.ite ?_ ?_ | with_reducible refine OLe.bind ?_ ?_ | intro _
theorem i_HeightRow_l2_c_le : (n : Nat) → (y0 : List (Int)) → (y1 : List (Int)) → (y2 : Int) → (y3 : Int) → (y4 : Int) → (y5 : Int) → (y6 : Int) → (y7 : Int) → (y8 : List (Int)) → (y9 : List (Bool)) → (y10 : List (Int)) → OLe (i_HeightRow_l2_c n y0 y1 y2 y3 y4 y5 y6 y7 y8 y9 y10) (i_HeightRow_l2 y0 y1 y2 y3 y4 y5 y6 y7 y8 y9 y10)
  | 0, _, _, _, _, _, _, _, _, _, _, _ => OLe.none _
  | n + 1, y0, y1, y2, y3, y4, y5, y6, y7, y8, y9, y10 => by
    rw [i_HeightRow_l2_c, i_HeightRow_l2_eq]
    repeat' first | with_reducible exact OLe.refl _ | with_reducible exact OLe.none _ | with_reducible apply i_asked_f_c_le | with_reducible apply i_rise_f_c_le | with_reducible apply i_HeightRow_l0_c_le | with_reducible apply i_HeightRow_l1_c_le | with_reducible apply i_HeightRow_l2_c_le | with_reducible refine OLe.cond ?_ ?_ | with_reducible refine OLe.ite ?_ ?_ | with_reducible refine OLe.bind ?_ ?_ | intro _
end
theorem i_HeightRow_f_c_le (n : Nat) (x : Ts i_HeightRow_sig.pc) : OLe (i_HeightRow_f_c n x) (i_HeightRow_f x) := by
  obtain ⟨x0, x1⟩ := x
  rw [i_HeightRow_f_c, i_HeightRow_f_eq]
  repeat' first | with_reducible exact OLe.refl _ | with_reducible exact OLe.none _ | with_reducible apply i_asked_f_c_le | with_reducible apply i_rise_f_c_le | with_reducible apply i_HeightRow_l0_c_le | with_reducible apply i_HeightRow_l1_c_le | with_reducible apply i_HeightRow_l2_c_le | with_reducible refine OLe.cond ?_ ?_ | with_reducible refine OLe.ite ?_ ?_ | with_reducible refine OLe.bind ?_ ?_ | intro _
theorem i_HeightRow_ent : Entb Try.prog 55 := ⟨Try.f55, by kernel_rfl, by kernel_rfl, by kernel_rfl⟩
theorem i_HeightRow_ok : CtrOk Try.prog 55 ⟨i_HeightRow_sig, i_HeightRow_f⟩ :=
  ctr_of (fn := Try.f55) (by kernel_rfl) (by kernel_rfl) (fun x : Ts i_HeightRow_sig.pc => i_HeightRow_E) (fun x => ⟨(fn_cons ⟨i_asked_ok, i_asked_ent⟩ (fn_cons ⟨i_rise_ok, i_rise_ent⟩ fn_none)), clo_none, wr_none⟩) (fun h => by cases h) follows_ (fun _ _ => trivial)
end FN
set_option linter.unusedVariables false
namespace FN
open Go Go.Proofs
/-! loop.example/firingnets/impl.FlatOk -/
@[reducible] def i_FlatOk_sig : Sig := { ps := [none, none], pc := [.view .i64, .view .i64], rs := [none], rc := [.bool] }
noncomputable def i_FlatOk_E : Env' := { fn := fun f => if f = 55 then some ⟨i_HeightRow_sig, i_HeightRow_f⟩ else none, ck := ckT, cuts := [], mine := fun i => false }
noncomputable def i_FlatOk_f (x : Ts i_FlatOk_sig.pc) : Option (Ts i_FlatOk_sig.rc) := runFn Try.prog (i_FlatOk_E) Try.f31 i_FlatOk_sig x
theorem i_FlatOk_f_eq (x0 : (List (Int))) (x1 : (List (Int))) : i_FlatOk_f (x0, x1) = (Option.bind (i_HeightRow_f (x0, x1)) fun r1 => (some r1.2)) := by
  kernel_rfl
def i_FlatOk_f_c (n : Nat) : ((List (Int))) × ((List (Int))) → Option ((Bool))
  | (x0, x1) => (Option.bind (i_HeightRow_f_c n (x0, x1)) fun r1 => (some r1.2))
theorem i_FlatOk_f_c_le (n : Nat) (x : Ts i_FlatOk_sig.pc) : OLe (i_FlatOk_f_c n x) (i_FlatOk_f x) := by
  obtain ⟨x0, x1⟩ := x
  rw [i_FlatOk_f_c, i_FlatOk_f_eq]
  repeat' first | with_reducible exact OLe.refl _ | with_reducible exact OLe.none _ | with_reducible apply i_HeightRow_f_c_le | with_reducible refine OLe.cond ?_ ?_ | with_reducible refine OLe.ite ?_ ?_ | with_reducible refine OLe.bind ?_ ?_ | intro _
theorem i_FlatOk_ent : Entb Try.prog 31 := ⟨Try.f31, by kernel_rfl, by kernel_rfl, by kernel_rfl⟩
theorem i_FlatOk_ok : CtrOk Try.prog 31 ⟨i_FlatOk_sig, i_FlatOk_f⟩ :=
  ctr_of (fn := Try.f31) (by kernel_rfl) (by kernel_rfl) (fun x : Ts i_FlatOk_sig.pc => i_FlatOk_E) (fun x => ⟨(fn_cons ⟨i_HeightRow_ok, i_HeightRow_ent⟩ fn_none), clo_none, wr_none⟩) (fun h => by cases h) follows_ (fun _ _ => trivial)
end FN
set_option linter.unusedVariables false
namespace FN
open Go Go.Proofs
/-! loop.example/firingnets/impl.GridNet -/
@[reducible] def i_GridNet_sig : Sig := { ps := [none, none], pc := [.int .i64, .int .i64], rs := [none], rc := [.row 3 .i64], nn := true }
noncomputable def i_GridNet_E : Env' := withClo { fn := fun f => if f = 52 then some ⟨i_gridOk_sig, i_gridOk_f⟩ else none, ck := ckT, cuts := [(6, [0, 1, 5, 6, 18, 19]), (10, [0, 1, 5, 6, 7, 18, 19])], mine := fun i => false } Try.prog 53 Try.f53
noncomputable def i_GridNet_f (x : Ts i_GridNet_sig.pc) : Option (Ts i_GridNet_sig.rc) := runFn Try.prog (i_GridNet_E) Try.f28 i_GridNet_sig x
noncomputable def i_GridNet_l0 (y0 : Int) (y1 : Int) (y2 : Int) (y3 : Int) (y4 : List (Int)) : Option ((List (Int))) := from_ Try.prog (i_GridNet_E) Try.f28 i_GridNet_sig [1, 1, 1, 1, 0, 1, 0] ⟨mkT 47 [(0, .int .i64 y0), (1, .int .i64 y1), (5, .ptr 0 0), (6, .fn 53 [.ptr 0 0]), (18, .int .i64 y2), (19, .int .i64 y3)], [some (.box 22 [.own 1]), some (.arr 3 true .i64 y4)]⟩
noncomputable def i_GridNet_j1 (y0 : Int) (y1 : Int) (y2 : Int) (y3 : Int) (y4 : Int) (y5 : List (Int)) : Option ((List (Int))) := from_ Try.prog (i_GridNet_E) Try.f28 i_GridNet_sig [1, 1, 1, 1, 0, 1, 0, 0, 1, 1, 0, 0, 1, 1] ⟨mkT 47 [(0, .int .i64 y0), (1, .int .i64 y1), (5, .ptr 0 0), (6, .fn 53 [.ptr 0 0]), (7, .int .i64 y2), (18, .int .i64 y3), (19, .int .i64 y4)], [some (.box 22 [.own 1]), some (.arr 3 true .i64 y5)]⟩
theorem i_GridNet_f_eq (x0 : (Int)) (x1 : (Int)) : i_GridNet_f (x0, x1) = (Option.bind (i_gridOk_f (x0, x1)) fun r1 => (cond ((!r1)) (some []) (if (0 : Int) ≤ (IntKind.i64.wrap (x0 * x1)) ∧ (IntKind.i64.wrap (x0 * x1)) * 8 ≤ 140737488355328 ∧ (IntKind.i64.wrap (x0 * x1)) ≤ 140737488355328 then (i_GridNet_l0 x0 x1 (List.length (List.replicate ((IntKind.i64.wrap (x0 * x1)) : Int).toNat 0 : List (Int)) : Int) 0 (List.replicate ((IntKind.i64.wrap (x0 * x1)) : Int).toNat 0 : List (Int))) else none))) := by
  kernel_rfl
theorem i_GridNet_l0_eq (y0 : Int) (y1 : Int) (y2 : Int) (y3 : Int) (y4 : List (Int)) : i_GridNet_l0 y0 y1 y2 y3 y4 = (cond ((decide (y3 < y2))) (if y1 = 0 then none else (cond ((decide ((Int.tmod y3 y1) < (IntKind.i64.wrap (y1 - 1))))) (if (0 : Int) ≤ y3 ∧ y3 < (List.length y4 : Int) then (if (IntKind.i64.wrap (y3 + 1)) < 0 then none else (if (0 : Int) ≤ y3 ∧ y3 < (List.length y4 : Int) then (if (0 : Int) ≤ (IntKind.i64.wrap (y3 + 1)) ∧ (IntKind.i64.wrap (y3 + 1)) < (List.length (List.set y4 (y3 : Int).toNat (Go.bits .or IntKind.i64 (List.getD y4 (y3 : Int).toNat 0) (IntKind.i64.wrap (1 * 2 ^ min ((IntKind.i64.wrap (y3 + 1)) : Int).toNat IntKind.i64.bits)))) : Int) then (if y3 < 0 then none else (if (0 : Int) ≤ (IntKind.i64.wrap (y3 + 1)) ∧ (IntKind.i64.wrap (y3 + 1)) < (List.length (List.set y4 (y3 : Int).toNat (Go.bits .or IntKind.i64 (List.getD y4 (y3 : Int).toNat 0) (IntKind.i64.wrap (1 * 2 ^ min ((IntKind.i64.wrap (y3 + 1)) : Int).toNat IntKind.i64.bits)))) : Int) then (i_GridNet_j1 y0 y1 y3 y2 y3 (List.set (List.set y4 (y3 : Int).toNat (Go.bits .or IntKind.i64 (List.getD y4 (y3 : Int).toNat 0) (IntKind.i64.wrap (1 * 2 ^ min ((IntKind.i64.wrap (y3 + 1)) : Int).toNat IntKind.i64.bits)))) ((IntKind.i64.wrap (y3 + 1)) : Int).toNat (Go.bits .or IntKind.i64 (List.getD (List.set y4 (y3 : Int).toNat (Go.bits .or IntKind.i64 (List.getD y4 (y3 : Int).toNat 0) (IntKind.i64.wrap (1 * 2 ^ min ((IntKind.i64.wrap (y3 + 1)) : Int).toNat IntKind.i64.bits)))) ((IntKind.i64.wrap (y3 + 1)) : Int).toNat 0) (IntKind.i64.wrap (1 * 2 ^ min (y3 : Int).toNat IntKind.i64.bits))))) else none)) else none) else none)) else none) (i_GridNet_j1 y0 y1 y3 y2 y3 y4))) (cond (List.isEmpty y4) none (some y4))) := by
  refine (loopK_eq Try.prog (i_GridNet_E) (sub (Try.f28.body.getD .skip) [1, 1, 1, 1, 0, 1, 0, 0]) _ _).trans ?_
  kernel_rfl
theorem i_GridNet_j1_eq (y0 : Int) (y1 : Int) (y2 : Int) (y3 : Int) (y4 : Int) (y5 : List (Int)) : i_GridNet_j1 y0 y1 y2 y3 y4 y5 = (if y1 = 0 then none else (cond ((decide ((IntKind.i64.wrap (Int.tdiv y2 y1)) < (IntKind.i64.wrap (y0 - 1))))) (if (0 : Int) ≤ y2 ∧ y2 < (List.length y5 : Int) then (if (IntKind.i64.wrap (y2 + y1)) < 0 then none else (if (0 : Int) ≤ y2 ∧ y2 < (List.length y5 : Int) then (if (0 : Int) ≤ (IntKind.i64.wrap (y2 + y1)) ∧ (IntKind.i64.wrap (y2 + y1)) < (List.length (List.set y5 (y2 : Int).toNat (Go.bits .or IntKind.i64 (List.getD y5 (y2 : Int).toNat 0) (IntKind.i64.wrap (1 * 2 ^ min ((IntKind.i64.wrap (y2 + y1)) : Int).toNat IntKind.i64.bits)))) : Int) then (if y2 < 0 then none else (if (0 : Int) ≤ (IntKind.i64.wrap (y2 + y1)) ∧ (IntKind.i64.wrap (y2 + y1)) < (List.length (List.set y5 (y2 : Int).toNat (Go.bits .or IntKind.i64 (List.getD y5 (y2 : Int).toNat 0) (IntKind.i64.wrap (1 * 2 ^ min ((IntKind.i64.wrap (y2 + y1)) : Int).toNat IntKind.i64.bits)))) : Int) then (i_GridNet_l0 y0 y1 y3 (IntKind.i64.wrap (y4 + 1)) (List.set (List.set y5 (y2 : Int).toNat (Go.bits .or IntKind.i64 (List.getD y5 (y2 : Int).toNat 0) (IntKind.i64.wrap (1 * 2 ^ min ((IntKind.i64.wrap (y2 + y1)) : Int).toNat IntKind.i64.bits)))) ((IntKind.i64.wrap (y2 + y1)) : Int).toNat (Go.bits .or IntKind.i64 (List.getD (List.set y5 (y2 : Int).toNat (Go.bits .or IntKind.i64 (List.getD y5 (y2 : Int).toNat 0) (IntKind.i64.wrap (1 * 2 ^ min ((IntKind.i64.wrap (y2 + y1)) : Int).toNat IntKind.i64.bits)))) ((IntKind.i64.wrap (y2 + y1)) : Int).toNat 0) (IntKind.i64.wrap (1 * 2 ^ min (y2 : Int).toNat IntKind.i64.bits))))) else none)) else none) else none)) else none) (i_GridNet_l0 y0 y1 y3 (IntKind.i64.wrap (y4 + 1)) y5))) := by
  kernel_rfl
mutual
def i_GridNet_l0_c : Nat → (Int) → (Int) → (Int) → (Int) → (List (Int)) → Option ((List (Int)))
  | 0, _, _, _, _, _ => none
  | n + 1, y0, y1, y2, y3, y4 => (cond ((decide (y3 < y2))) (if y1 = 0 then none else (cond ((decide ((Int.tmod y3 y1) < (IntKind.i64.wrap (y1 - 1))))) (if (0 : Int) ≤ y3 ∧ y3 < (List.length y4 : Int) then (if (IntKind.i64.wrap (y3 + 1)) < 0 then none else (if (0 : Int) ≤ y3 ∧ y3 < (List.length y4 : Int) then (if (0 : Int) ≤ (IntKind.i64.wrap (y3 + 1)) ∧ (IntKind.i64.wrap (y3 + 1)) < (List.length (List.set y4 (y3 : Int).toNat (Go.bits .or IntKind.i64 (List.getD y4 (y3 : Int).toNat 0) (IntKind.i64.wrap (1 * 2 ^ min ((IntKind.i64.wrap (y3 + 1)) : Int).toNat IntKind.i64.bits)))) : Int) then (if y3 < 0 then none else (if (0 : Int) ≤ (IntKind.i64.wrap (y3 + 1)) ∧ (IntKind.i64.wrap (y3 + 1)) < (List.length (List.set y4 (y3 : Int).toNat (Go.bits .or IntKind.i64 (List.getD y4 (y3 : Int).toNat 0) (IntKind.i64.wrap (1 * 2 ^ min ((IntKind.i64.wrap (y3 + 1)) : Int).toNat IntKind.i64.bits)))) : Int) then (i_GridNet_j1_c n y0 y1 y3 y2 y3 (List.set (List.set y4 (y3 : Int).toNat (Go.bits .or IntKind.i64 (List.getD y4 (y3 : Int).toNat 0) (IntKind.i64.wrap (1 * 2 ^ min ((IntKind.i64.wrap (y3 + 1)) : Int).toNat IntKind.i64.bits)))) ((IntKind.i64.wrap (y3 + 1)) : Int).toNat (Go.bits .or IntKind.i64 (List.getD (List.set y4 (y3 : Int).toNat (Go.bits .or IntKind.i64 (List.getD y4 (y3 : Int).toNat 0) (IntKind.i64.wrap (1 * 2 ^ min ((IntKind.i64.wrap (y3 + 1)) : Int).toNat IntKind.i64.bits)))) ((IntKind.i64.wrap (y3 + 1)) : Int).toNat 0) (IntKind.i64.wrap (1 * 2 ^ min (y3 : Int).toNat IntKind.i64.bits))))) else none)) else none) else none)) else none) (i_GridNet_j1_c n y0 y1 y3 y2 y3 y4))) (cond (List.isEmpty y4) none (some y4)))
def i_GridNet_j1_c : Nat → (Int) → (Int) → (Int) → (Int) → (Int) → (List (Int)) → Option ((List (Int)))
  | 0, _, _, _, _, _, _ => none
  | n + 1, y0, y1, y2, y3, y4, y5 => (if y1 = 0 then none else (cond ((decide ((IntKind.i64.wrap (Int.tdiv y2 y1)) < (IntKind.i64.wrap (y0 - 1))))) (if (0 : Int) ≤ y2 ∧ y2 < (List.length y5 : Int) then (if (IntKind.i64.wrap (y2 + y1)) < 0 then none else (if (0 : Int) ≤ y2 ∧ y2 < (List.length y5 : Int) then (if (0 : Int) ≤ (IntKind.i64.wrap (y2 + y1)) ∧ (IntKind.i64.wrap (y2 + y1)) < (List.length (List.set y5 (y2 : Int).toNat (Go.bits .or IntKind.i64 (List.getD y5 (y2 : Int).toNat 0) (IntKind.i64.wrap (1 * 2 ^ min ((IntKind.i64.wrap (y2 + y1)) : Int).toNat IntKind.i64.bits)))) : Int) then (if y2 < 0 then none else (if (0 : Int) ≤ (IntKind.i64.wrap (y2 + y1)) ∧ (IntKind.i64.wrap (y2 + y1)) < (List.length (List.set y5 (y2 : Int).toNat (Go.bits .or IntKind.i64 (List.getD y5 (y2 : Int).toNat 0) (IntKind.i64.wrap (1 * 2 ^ min ((IntKind.i64.wrap (y2 + y1)) : Int).toNat IntKind.i64.bits)))) : Int) then (i_GridNet_l0_c n y0 y1 y3 (IntKind.i64.wrap (y4 + 1)) (List.set (List.set y5 (y2 : Int).toNat (Go.bits .or IntKind.i64 (List.getD y5 (y2 : Int).toNat 0) (IntKind.i64.wrap (1 * 2 ^ min ((IntKind.i64.wrap (y2 + y1)) : Int).toNat IntKind.i64.bits)))) ((IntKind.i64.wrap (y2 + y1)) : Int).toNat (Go.bits .or IntKind.i64 (List.getD (List.set y5 (y2 : Int).toNat (Go.bits .or IntKind.i64 (List.getD y5 (y2 : Int).toNat 0) (IntKind.i64.wrap (1 * 2 ^ min ((IntKind.i64.wrap (y2 + y1)) : Int).toNat IntKind.i64.bits)))) ((IntKind.i64.wrap (y2 + y1)) : Int).toNat 0) (IntKind.i64.wrap (1 * 2 ^ min (y2 : Int).toNat IntKind.i64.bits))))) else none)) else none) else none)) else none) (i_GridNet_l0_c n y0 y1 y3 (IntKind.i64.wrap (y4 + 1)) y5)))
end
def i_GridNet_f_c (n : Nat) : ((Int)) × ((Int)) → Option ((List (Int)))
  | (x0, x1) => (Option.bind (i_gridOk_f_c n (x0, x1)) fun r1 => (cond ((!r1)) (some []) (if (0 : Int) ≤ (IntKind.i64.wrap (x0 * x1)) ∧ (IntKind.i64.wrap (x0 * x1)) * 8 ≤ 140737488355328 ∧ (IntKind.i64.wrap (x0 * x1)) ≤ 140737488355328 then (i_GridNet_l0_c n x0 x1 (List.length (List.replicate ((IntKind.i64.wrap (x0 * x1)) : Int).toNat 0 : List (Int)) : Int) 0 (List.replicate ((IntKind.i64.wrap (x0 * x1)) : Int).toNat 0 : List (Int))) else none)))
mutual
theorem i_GridNet_l0_c_le : (n : Nat) → (y0 : Int) → (y1 : Int) → (y2 : Int) → (y3 : Int) → (y4 : List (Int)) → OLe (i_GridNet_l0_c n y0 y1 y2 y3 y4) (i_GridNet_l0 y0 y1 y2 y3 y4)
  | 0, _, _, _, _, _ => OLe.none _
  | n + 1, y0, y1, y2, y3, y4 => by
    rw [i_GridNet_l0_c, i_GridNet_l0_eq]
    repeat' first | with_reducible exact OLe.refl _ | with_reducible exact OLe.none _ | with_reducible apply i_gridOk_f_c_le | with_reducible apply i_GridNet_l0_c_le | with_reducible apply i_GridNet_j1_c_le | with_reducible refine OLe.cond ?_ ?_ | with_reducible refine OLe.ite ?_ ?_ | with_reducible refine OLe.bind ?_ ?_ | intro _
theorem i_GridNet_j1_c_le : (n : Nat) → (y0 : Int) → (y1 : Int) → (y2 : Int) → (y3 : Int) → (y4 : Int) → (y5 : List (Int)) → OLe (i_GridNet_j1_c n y0 y1 y2 y3 y4 y5) (i_GridNet_j1 y0 y1 y2 y3 y4 y5)
  | 0, _, _, _, _, _, _ => OLe.none _
  | n + 1, y0, y1, y2, y3, y4, y5 => by
    rw [i_GridNet_j1_c, i_GridNet_j1_eq]
    repeat' first | with_reducible exact OLe.refl _ | with_reducible exact OLe.none _ | with_reducible apply i_gridOk_f_c_le | with_reducible apply i_GridNet_l0_c_le | with_reducible apply i_GridNet_j1_c_le | with_reducible refine OLe.cond ?_ ?_ | with_reducible refine OLe.ite ?_ ?_ | with_reducible refine OLe.bind ?_ ?_ | intro _
end
theorem i_GridNet_f_c_le (n : Nat) (x : Ts i_GridNet_sig.pc) : OLe (i_GridNet_f_c n x) (i_GridNet_f x) := by
  obtain ⟨x0, x1⟩ := x
  rw [i_GridNet_f_c, i_GridNet_f_eq]
  repeat' first | with_reducible exact OLe.refl _ | with_reducible exact OLe.none _ | with_reducible apply i_gridOk_f_c_le | with_reducible apply i_GridNet_l0_c_le | with_reducible apply i_GridNet_j1_c_le | with_reducible refine OLe.cond ?_ ?_ | with_reducible refine OLe.ite ?_ ?_ | with_reducible refine OLe.bind ?_ ?_ | intro _
theorem i_GridNet_ent : Entb Try.prog 28 := ⟨Try.f28, by kernel_rfl, by kernel_rfl, by kernel_rfl⟩
theorem i_GridNet_ok : CtrOk Try.prog 28 ⟨i_GridNet_sig, i_GridNet_f⟩ :=
  ctr_of (fn := Try.f28) (by kernel_rfl) (by kernel_rfl) (fun x : Ts i_GridNet_sig.pc => i_GridNet_E) (fun x => withClo_ok (fn := Try.f53) (by kernel_rfl) (by kernel_rfl) (by kernel_rfl) (by kernel_rfl) ⟨(fn_cons ⟨i_gridOk_ok, i_gridOk_ent⟩ fn_none), clo_none, wr_none⟩ follows_) (fun h => by cases h) follows_ (fun _ _ => trivial)
end FN
set_option linter.unusedVariables false
namespace FN
open Go Go.Proofs
/-! loop.example/firingnets/impl.SquareTours -/
@[reducible] def i_SquareTours_sig : Sig := { ps := [none, none], pc := [.int .i64, .int .i64], rs := [none], rc := [.row 22 .intss] }
noncomputable def i_SquareTours_E : Env' := { fn := fun f => if f = 52 then some ⟨i_gridOk_sig, i_gridOk_f⟩ else none, ck := ckT, cuts := [(5, [0, 1, 5, 14, 15])], mine := fun i => false }
noncomputable def i_SquareTours_f (x : Ts i_SquareTours_sig.pc) : Option (Ts i_SquareTours_sig.rc) := runFn Try.prog (i_SquareTours_E) Try.f49 i_SquareTours_sig x
noncomputable def i_SquareTours_l0 (y0 : Int) (y1 : Int) (y2 : Int) (y3 : Int) (y4 : List (List Int)) : Option ((List (List Int))) := from_ Try.prog (i_SquareTours_E) Try.f49 i_SquareTours_sig [1, 1, 1, 0, 1, 0] ⟨mkT 49 [(0, .int .i64 y0), (1, .int .i64 y1), (5, .own 0), (14, .int .i64 y2), (15, .int .i64 y3)], [some (.arr 22 true .intss y4)]⟩
theorem i_SquareTours_f_eq (x0 : (Int)) (x1 : (Int)) : i_SquareTours_f (x0, x1) = (Option.bind (i_gridOk_f (x0, x1)) fun r1 => (cond ((!r1)) (some []) (i_SquareTours_l0 x0 x1 (IntKind.i64.wrap (x0 * x1)) 0 ([] : List (List Int))))) := by
  kernel_rfl
theorem i_SquareTours_l0_eq (y0 : Int) (y1 : Int) (y2 : Int) (y3 : Int) (y4 : List (List Int)) : i_SquareTours_l0 y0 y1 y2 y3 y4 = (cond ((decide (y3 < y2))) (if y1 = 0 then none else (cond ((decide ((Int.tmod y3 y1) < (IntKind.i64.wrap (y1 - 1))))) (if y1 = 0 then none else (cond ((decide ((IntKind.i64.wrap (Int.tdiv y3 y1)) < (IntKind.i64.wrap (y0 - 1))))) (if (List.length y4 + List.length ([([y3, (IntKind.i64.wrap (y3 + 1)), (IntKind.i64.wrap ((IntKind.i64.wrap (y3 + 1)) + y1)), (IntKind.i64.wrap (y3 + y1)), y3] : List (Int))] : List (List Int))) * 24 ≤ 140737488355328 then (i_SquareTours_l0 y0 y1 y2 (IntKind.i64.wrap (y3 + 1)) (y4 ++ ([([y3, (IntKind.i64.wrap (y3 + 1)), (IntKind.i64.wrap ((IntKind.i64.wrap (y3 + 1)) + y1)), (IntKind.i64.wrap (y3 + y1)), y3] : List (Int))] : List (List Int)))) else none) (i_SquareTours_l0 y0 y1 y2 (IntKind.i64.wrap (y3 + 1)) y4))) (i_SquareTours_l0 y0 y1 y2 (IntKind.i64.wrap (y3 + 1)) y4))) (some y4)) := by
  refine (loopK_eq Try.prog (i_SquareTours_E) (sub (Try.f49.body.getD .skip) [1, 1, 1, 0, 1, 0, 0]) _ _).trans ?_
  kernel_rfl
mutual
def i_SquareTours_l0_c : Nat → (Int) → (Int) → (Int) → (Int) → (List (List Int)) → Option ((List (List Int)))
  | 0, _, _, _, _, _ => none
  | n + 1, y0, y1, y2, y3, y4 => (cond ((decide (y3 < y2))) (if y1 = 0 then none else (cond ((decide ((Int.tmod y3 y1) < (IntKind.i64.wrap (y1 - 1))))) (if y1 = 0 then none else (cond ((decide ((IntKind.i64.wrap (Int.tdiv y3 y1)) < (IntKind.i64.wrap (y0 - 1))))) (if (List.length y4 + List.length ([([y3, (IntKind.i64.wrap (y3 + 1)), (IntKind.i64.wrap ((IntKind.i64.wrap (y3 + 1)) + y1)), (IntKind.i64.wrap (y3 + y1)), y3] : List (Int))] : List (List Int))) * 24 ≤ 140737488355328 then (i_SquareTours_l0_c n y0 y1 y2 (IntKind.i64.wrap (y3 + 1)) (y4 ++ ([([y3, (IntKind.i64.wrap (y3 + 1)), (IntKind.i64.wrap ((IntKind.i64.wrap (y3 + 1)) + y1)), (IntKind.i64.wrap (y3 + y1)), y3] : List (Int))] : List (List Int)))) else none) (i_SquareTours_l0_c n y0 y1 y2 (IntKind.i64.wrap (y3 + 1)) y4))) (i_SquareTours_l0_c n y0 y1 y2 (IntKind.i64.wrap (y3 + 1)) y4))) (some y4))
end
def i_SquareTours_f_c (n : Nat) : ((Int)) × ((Int)) → Option ((List (List Int)))
  | (x0, x1) => (Option.bind (i_gridOk_f_c n (x0, x1)) fun r1 => (cond ((!r1)) (some []) (i_SquareTours_l0_c n x0 x1 (IntKind.i64.wrap (x0 * x1)) 0 ([] : List (List Int)))))
mutual
theorem i_SquareTours_l0_c_le : (n : Nat) → (y0 : Int) → (y1 : Int) → (y2 : Int) → (y3 : Int) → (y4 : List (List Int)) → OLe (i_SquareTours_l0_c n y0 y1 y2 y3 y4) (i_SquareTours_l0 y0 y1 y2 y3 y4)
  | 0, _, _, _, _, _ => OLe.none _
  | n + 1, y0, y1, y2, y3, y4 => by
    rw [i_SquareTours_l0_c, i_SquareTours_l0_eq]
    repeat' first | with_reducible exact OLe.refl _ | with_reducible exact OLe.none _ | with_reducible apply i_gridOk_f_c_le | with_reducible apply i_SquareTours_l0_c_le | with_reducible refine OLe.cond ?_ ?_ | with_reducible refine OLe.ite ?_ ?_ | with_reducible refine OLe.bind ?_ ?_ | intro _
end
theorem i_SquareTours_f_c_le (n : Nat) (x : Ts i_SquareTours_sig.pc) : OLe (i_SquareTours_f_c n x) (i_SquareTours_f x) := by
  obtain ⟨x0, x1⟩ := x
  rw [i_SquareTours_f_c, i_SquareTours_f_eq]
  repeat' first | with_reducible exact OLe.refl _ | with_reducible exact OLe.none _ | with_reducible apply i_gridOk_f_c_le | with_reducible apply i_SquareTours_l0_c_le | with_reducible refine OLe.cond ?_ ?_ | with_reducible refine OLe.ite ?_ ?_ | with_reducible refine OLe.bind ?_ ?_ | intro _
theorem i_SquareTours_ent : Entb Try.prog 49 := ⟨Try.f49, by kernel_rfl, by kernel_rfl, by kernel_rfl⟩
theorem i_SquareTours_ok : CtrOk Try.prog 49 ⟨i_SquareTours_sig, i_SquareTours_f⟩ :=
  ctr_of (fn := Try.f49) (by kernel_rfl) (by kernel_rfl) (fun x : Ts i_SquareTours_sig.pc => i_SquareTours_E) (fun x => ⟨(fn_cons ⟨i_gridOk_ok, i_gridOk_ent⟩ fn_none), clo_none, wr_none⟩) (fun h => by cases h) follows_ (fun _ _ => trivial)
end FN
set_option linter.unusedVariables false
namespace FN
open Go Go.Proofs
/-! loop.example/firingnets/impl.TourOk -/
@[reducible] def i_TourOk_sig : Sig := { ps := [none, none], pc := [.view .i64, .view .i64], rs := [none], rc := [.bool] }
noncomputable def i_TourOk_E : Env' := { fn := fun f => if f = 43 then some ⟨i_NetOk_sig, i_NetOk_f⟩ else none, ck := ckT, cuts := [(4, [0, 1, 20, 21, 22])], mine := fun i => false }
noncomputable def i_TourOk_f (x : Ts i_TourOk_sig.pc) : Option (Ts i_TourOk_sig.rc) := runFn Try.prog (i_TourOk_E) Try.f67 i_TourOk_sig x
noncomputable def i_TourOk_l0 (y0 : List (Int)) (y1 : List (Int)) (y2 : List (Int)) (y3 : Int) (y4 : Int) : Option ((Bool)) := from_ Try.prog (i_TourOk_E) Try.f67 i_TourOk_sig [1, 1, 0, 1, 0] ⟨mkT 54 [(0, .row false .i64 y0), (1, .row false .i64 y1), (20, .row false .i64 y2), (21, .int .i64 y3), (22, .int .i64 y4)], []⟩
theorem i_TourOk_f_eq (x0 : (List (Int))) (x1 : (List (Int))) : i_TourOk_f (x0, x1) = (Option.bind (i_NetOk_f x0) fun r1 => (cond ((!r1)) (some false) (cond ((decide ((List.length x1 : Int) < 1))) (some false) (cond ((decide (12 < (List.length x1 : Int)))) (some false) (i_TourOk_l0 x0 x1 x1 (List.length x1 : Int) 0))))) := by
  kernel_rfl
theorem i_TourOk_l0_eq (y0 : List (Int)) (y1 : List (Int)) (y2 : List (Int)) (y3 : Int) (y4 : Int) : i_TourOk_l0 y0 y1 y2 y3 y4 = (cond ((decide (y4 < y3))) (if (0 : Int) ≤ y4 ∧ y4 < (List.length y2 : Int) then (cond ((decide ((List.getD y2 (y4 : Int).toNat 0) < 0))) (some false) (cond ((decide ((List.length y0 : Int) ≤ (List.getD y2 (y4 : Int).toNat 0)))) (some false) (cond ((decide (0 < y4))) (if (0 : Int) ≤ (IntKind.i64.wrap (y4 - 1)) ∧ (IntKind.i64.wrap (y4 - 1)) < (List.length y1 : Int) then (if (0 : Int) ≤ (List.getD y1 ((IntKind.i64.wrap (y4 - 1)) : Int).toNat 0) ∧ (List.getD y1 ((IntKind.i64.wrap (y4 - 1)) : Int).toNat 0) < (List.length y0 : Int) then (if (List.getD y2 (y4 : Int).toNat 0) < 0 then none else (cond (((Go.bits .and IntKind.i64 (Int.fdiv (List.getD y0 ((List.getD y1 ((IntKind.i64.wrap (y4 - 1)) : Int).toNat 0) : Int).toNat 0) (2 ^ min ((List.getD y2 (y4 : Int).toNat 0) : Int).toNat IntKind.i64.bits)) 1) == 0)) (some false) (i_TourOk_l0 y0 y1 y2 y3 (IntKind.i64.wrap (y4 + 1))))) else none) else none) (i_TourOk_l0 y0 y1 y2 y3 (IntKind.i64.wrap (y4 + 1)))))) else none) (some true)) := by
  refine (loopK_eq Try.prog (i_TourOk_E) (sub (Try.f67.body.getD .skip) [1, 1, 0, 1, 0, 0]) _ _).trans ?_
  kernel_rfl
mutual
def i_TourOk_l0_c : Nat → (List (Int)) → (List (Int)) → (List (Int)) → (Int) → (Int) → Option ((Bool))
  | 0, _, _, _, _, _ => none
  | n + 1, y0, y1, y2, y3, y4 => (cond ((decide (y4 < y3))) (if (0 : Int) ≤ y4 ∧ y4 < (List.length y2 : Int) then (cond ((decide ((List.getD y2 (y4 : Int).toNat 0) < 0))) (some false) (cond ((decide ((List.length y0 : Int) ≤ (List.getD y2 (y4 : Int).toNat 0)))) (some false) (cond ((decide (0 < y4))) (if (0 : Int) ≤ (IntKind.i64.wrap (y4 - 1)) ∧ (IntKind.i64.wrap (y4 - 1)) < (List.length y1 : Int) then (if (0 : Int) ≤ (List.getD y1 ((IntKind.i64.wrap (y4 - 1)) : Int).toNat 0) ∧ (List.getD y1 ((IntKind.i64.wrap (y4 - 1)) : Int).toNat 0) < (List.length y0 : Int) then (if (List.getD y2 (y4 : Int).toNat 0) < 0 then none else (cond (((Go.bits .and IntKind.i64 (Int.fdiv (List.getD y0 ((List.getD y1 ((IntKind.i64.wrap (y4 - 1)) : Int).toNat 0) : Int).toNat 0) (2 ^ min ((List.getD y2 (y4 : Int).toNat 0) : Int).toNat IntKind.i64.bits)) 1) == 0)) (some false) (i_TourOk_l0_c n y0 y1 y2 y3 (IntKind.i64.wrap (y4 + 1))))) else none) else none) (i_TourOk_l0_c n y0 y1 y2 y3 (IntKind.i64.wrap (y4 + 1)))))) else none) (some true))
end
def i_TourOk_f_c (n : Nat) : ((List (Int))) × ((List (Int))) → Option ((Bool))
  | (x0, x1) => (Option.bind (i_NetOk_f_c n x0) fun r1 => (cond ((!r1)) (some false) (cond ((decide ((List.length x1 : Int) < 1))) (some false) (cond ((decide (12 < (List.length x1 : Int)))) (some false) (i_TourOk_l0_c n x0 x1 x1 (List.length x1 : Int) 0)))))
mutual
theorem i_TourOk_l0_c_le : (n : Nat) → (y0 : List (Int)) → (y1 : List (Int)) → (y2 : List (Int)) → (y3 : Int) → (y4 : Int) → OLe (i_TourOk_l0_c n y0 y1 y2 y3 y4) (i_TourOk_l0 y0 y1 y2 y3 y4)
  | 0, _, _, _, _, _ => OLe.none _
  | n + 1, y0, y1, y2, y3, y4 => by
    rw [i_TourOk_l0_c, i_TourOk_l0_eq]
    repeat' first | with_reducible exact OLe.refl _ | with_reducible exact OLe.none _ | with_reducible apply i_NetOk_f_c_le | with_reducible apply i_TourOk_l0_c_le | with_reducible refine OLe.cond ?_ ?_ | with_reducible refine OLe.ite ?_ ?_ | with_reducible refine OLe.bind ?_ ?_ | intro _
end
theorem i_TourOk_f_c_le (n : Nat) (x : Ts i_TourOk_sig.pc) : OLe (i_TourOk_f_c n x) (i_TourOk_f x) := by
  obtain ⟨x0, x1⟩ := x
  rw [i_TourOk_f_c, i_TourOk_f_eq]
  repeat' first | with_reducible exact OLe.refl _ | with_reducible exact OLe.none _ | with_reducible apply i_NetOk_f_c_le | with_reducible apply i_TourOk_l0_c_le | with_reducible refine OLe.cond ?_ ?_ | with_reducible refine OLe.ite ?_ ?_ | with_reducible refine OLe.bind ?_ ?_ | intro _
theorem i_TourOk_ent : Entb Try.prog 67 := ⟨Try.f67, by kernel_rfl, by kernel_rfl, by kernel_rfl⟩
theorem i_TourOk_ok : CtrOk Try.prog 67 ⟨i_TourOk_sig, i_TourOk_f⟩ :=
  ctr_of (fn := Try.f67) (by kernel_rfl) (by kernel_rfl) (fun x : Ts i_TourOk_sig.pc => i_TourOk_E) (fun x => ⟨(fn_cons ⟨i_NetOk_ok, i_NetOk_ent⟩ fn_none), clo_none, wr_none⟩) (fun h => by cases h) follows_ (fun _ _ => trivial)
end FN
set_option linter.unusedVariables false
namespace FN
open Go Go.Proofs
/-! loop.example/firingnets/impl.ClimbOf -/
@[reducible] def i_ClimbOf_sig : Sig := { ps := [none, none, none], pc := [.view .i64, .view .i64, .view .i64], rs := [none, none], rc := [.int .i64, .bool] }
noncomputable def i_ClimbOf_E : Env' := { fn := fun f => if f = 48 then some ⟨i_asked_sig, i_asked_f⟩ else if f = 67 then some ⟨i_TourOk_sig, i_TourOk_f⟩ else if f = 68 then some ⟨i_rise_sig, i_rise_f⟩ else none, ck := ckT, cuts := [(5, [1, 2, 8, 9])], mine := fun i => false }
noncomputable def i_ClimbOf_f (x : Ts i_ClimbOf_sig.pc) : Option (Ts i_ClimbOf_sig.rc) := runFn Try.prog (i_ClimbOf_E) Try.f54 i_ClimbOf_sig x
noncomputable def i_ClimbOf_l0 (y0 : List (Int)) (y1 : List (Int)) (y2 : Int) (y3 : Int) : Option ((Int) × (Bool)) := from_ Try.prog (i_ClimbOf_E) Try.f54 i_ClimbOf_sig [1, 1, 1, 0, 1, 0] ⟨mkT 40 [(1, .row false .i64 y0), (2, .row false .i64 y1), (8, .int .i64 y2), (9, .int .i64 y3)], []⟩
theorem i_ClimbOf_f_eq (x0 : (List (Int))) (x1 : (List (Int))) (x2 : (List (Int))) : i_ClimbOf_f (x0, x1, x2) = (Option.bind (i_TourOk_f (x0, x2)) fun r1 => (cond ((!r1)) (some (0, false)) (Option.bind (i_asked_f (x0, 3, x1)) fun r2 => (cond ((!r2)) (some (0, false)) (i_ClimbOf_l0 x1 x2 0 1))))) := by
  kernel_rfl
theorem i_ClimbOf_l0_eq (y0 : List (Int)) (y1 : List (Int)) (y2 : Int) (y3 : Int) : i_ClimbOf_l0 y0 y1 y2 y3 = (cond ((decide (y3 < (List.length y1 : Int)))) (if (0 : Int) ≤ (IntKind.i64.wrap (y3 - 1)) ∧ (IntKind.i64.wrap (y3 - 1)) < (List.length y1 : Int) then (if (0 : Int) ≤ y3 ∧ y3 < (List.length y1 : Int) then (Option.bind (i_rise_f (y0, (List.getD y1 ((IntKind.i64.wrap (y3 - 1)) : Int).toNat 0), (List.getD y1 (y3 : Int).toNat 0))) fun r1 => (i_ClimbOf_l0 y0 y1 (IntKind.i64.wrap (y2 + r1)) (IntKind.i64.wrap (y3 + 1)))) else none) else none) (some (y2, true))) := by
  refine (loopK_eq Try.prog (i_ClimbOf_E) (sub (Try.f54.body.getD .skip) [1, 1, 1, 0, 1, 0, 0]) _ _).trans ?_
  kernel_rfl
mutual
def i_ClimbOf_l0_c : Nat → (List (Int)) → (List (Int)) → (Int) → (Int) → Option ((Int) × (Bool))
  | 0, _, _, _, _ => none
  | n + 1, y0, y1, y2, y3 => (cond ((decide (y3 < (List.length y1 : Int)))) (if (0 : Int) ≤ (IntKind.i64.wrap (y3 - 1)) ∧ (IntKind.i64.wrap (y3 - 1)) < (List.length y1 : Int) then (if (0 : Int) ≤ y3 ∧ y3 < (List.length y1 : Int) then (Option.bind (i_rise_f_c n (y0, (List.getD y1 ((IntKind.i64.wrap (y3 - 1)) : Int).toNat 0), (List.getD y1 (y3 : Int).toNat 0))) fun r1 => (i_ClimbOf_l0_c n y0 y1 (IntKind.i64.wrap (y2 + r1)) (IntKind.i64.wrap (y3 + 1)))) else none) else none) (some (y2, true)))
end
def i_ClimbOf_f_c (n : Nat) : ((List (Int))) × ((List (Int))) × ((List (Int))) → Option ((Int) × (Bool))
  | (x0, x1, x2) => (Option.bind (i_TourOk_f_c n (x0, x2)) fun r1 => (cond ((!r1)) (some (0, false)) (Option.bind (i_asked_f_c n (x0, 3, x1)) fun r2 => (cond ((!r2)) (some (0, false)) (i_ClimbOf_l0_c n x1 x2 0 1)))))
mutual
theorem i_ClimbOf_l0_c_le : (n : Nat) → (y0 : List (Int)) → (y1 : List (Int)) → (y2 : Int) → (y3 : Int) → OLe (i_ClimbOf_l0_c n y0 y1 y2 y3) (i_ClimbOf_l0 y0 y1 y2 y3)
  | 0, _, _, _, _ => OLe.none _
  | n + 1, y0, y1, y2, y3 => by
    rw [i_ClimbOf_l0_c, i_ClimbOf_l0_eq]
    repeat' first | with_reducible exact OLe.refl _ | with_reducible exact OLe.none _ | with_reducible apply i_asked_f_c_le | with_reducible apply i_TourOk_f_c_le | with_reducible apply i_rise_f_c_le | with_reducible apply i_ClimbOf_l0_c_le | with_reducible refine OLe.cond ?_ ?_ | with_reducible refine OLe.ite ?_ ?_ | with_reducible refine OLe.bind ?_ ?_ | intro _
end
theorem i_ClimbOf_f_c_le (n : Nat) (x : Ts i_ClimbOf_sig.pc) : OLe (i_ClimbOf_f_c n x) (i_ClimbOf_f x) := by
  obtain ⟨x0, x1, x2⟩ := x
  rw [i_ClimbOf_f_c, i_ClimbOf_f_eq]
  repeat' first | with_reducible exact OLe.refl _ | with_reducible exact OLe.none _ | with_reducible apply i_asked_f_c_le | with_reducible apply i_TourOk_f_c_le | with_reducible apply i_rise_f_c_le | with_reducible apply i_ClimbOf_l0_c_le | with_reducible refine OLe.cond ?_ ?_ | with_reducible refine OLe.ite ?_ ?_ | with_reducible refine OLe.bind ?_ ?_ | intro _
theorem i_ClimbOf_ent : Entb Try.prog 54 := ⟨Try.f54, by kernel_rfl, by kernel_rfl, by kernel_rfl⟩
theorem i_ClimbOf_ok : CtrOk Try.prog 54 ⟨i_ClimbOf_sig, i_ClimbOf_f⟩ :=
  ctr_of (fn := Try.f54) (by kernel_rfl) (by kernel_rfl) (fun x : Ts i_ClimbOf_sig.pc => i_ClimbOf_E) (fun x => ⟨(fn_cons ⟨i_asked_ok, i_asked_ent⟩ (fn_cons ⟨i_TourOk_ok, i_TourOk_ent⟩ (fn_cons ⟨i_rise_ok, i_rise_ent⟩ fn_none))), clo_none, wr_none⟩) (fun h => by cases h) follows_ (fun _ _ => trivial)
end FN
set_option linter.unusedVariables false
namespace FN
open Go Go.Proofs
/-! loop.example/firingnets/impl.WindingOf -/
@[reducible] def i_WindingOf_sig : Sig := { ps := [none, none, none], pc := [.view .i64, .view .i64, .view .i64], rs := [none, none], rc := [.int .i64, .bool] }
noncomputable def i_WindingOf_E : Env' := { fn := fun f => if f = 54 then some ⟨i_ClimbOf_sig, i_ClimbOf_f⟩ else none, ck := ckT, cuts := [], mine := fun i => false }
noncomputable def i_WindingOf_f (x : Ts i_WindingOf_sig.pc) : Option (Ts i_WindingOf_sig.rc) := runFn Try.prog (i_WindingOf_E) Try.f29 i_WindingOf_sig x
theorem i_WindingOf_f_eq (x0 : (List (Int))) (x1 : (List (Int))) (x2 : (List (Int))) : i_WindingOf_f (x0, x1, x2) = (Option.bind (i_ClimbOf_f (x0, x1, x2)) fun r1 => (cond ((!r1.2)) (some (0, false)) (if (0 : Int) ≤ 0 ∧ 0 < (List.length x2 : Int) then (if (0 : Int) ≤ (IntKind.i64.wrap ((List.length x2 : Int) - 1)) ∧ (IntKind.i64.wrap ((List.length x2 : Int) - 1)) < (List.length x2 : Int) then (cond (((List.getD x2 (0 : Int).toNat 0) != (List.getD x2 ((IntKind.i64.wrap ((List.length x2 : Int) - 1)) : Int).toNat 0))) (some (0, false)) (some ((IntKind.i64.wrap (Int.tdiv r1.1 3)), true))) else none) else none))) := by
  kernel_rfl
def i_WindingOf_f_c (n : Nat) : ((List (Int))) × ((List (Int))) × ((List (Int))) → Option ((Int) × (Bool))
  | (x0, x1, x2) => (Option.bind (i_ClimbOf_f_c n (x0, x1, x2)) fun r1 => (cond ((!r1.2)) (some (0, false)) (if (0 : Int) ≤ 0 ∧ 0 < (List.length x2 : Int) then (if (0 : Int) ≤ (IntKind.i64.wrap ((List.length x2 : Int) - 1)) ∧ (IntKind.i64.wrap ((List.length x2 : Int) - 1)) < (List.length x2 : Int) then (cond (((List.getD x2 (0 : Int).toNat 0) != (List.getD x2 ((IntKind.i64.wrap ((List.length x2 : Int) - 1)) : Int).toNat 0))) (some (0, false)) (some ((IntKind.i64.wrap (Int.tdiv r1.1 3)), true))) else none) else none)))
theorem i_WindingOf_f_c_le (n : Nat) (x : Ts i_WindingOf_sig.pc) : OLe (i_WindingOf_f_c n x) (i_WindingOf_f x) := by
  obtain ⟨x0, x1, x2⟩ := x
  rw [i_WindingOf_f_c, i_WindingOf_f_eq]
  repeat' first | with_reducible exact OLe.refl _ | with_reducible exact OLe.none _ | with_reducible apply i_ClimbOf_f_c_le | with_reducible refine OLe.cond ?_ ?_ | with_reducible refine OLe.ite ?_ ?_ | with_reducible refine OLe.bind ?_ ?_ | intro _
theorem i_WindingOf_ent : Entb Try.prog 29 := ⟨Try.f29, by kernel_rfl, by kernel_rfl, by kernel_rfl⟩
theorem i_WindingOf_ok : CtrOk Try.prog 29 ⟨i_WindingOf_sig, i_WindingOf_f⟩ :=
  ctr_of (fn := Try.f29) (by kernel_rfl) (by kernel_rfl) (fun x : Ts i_WindingOf_sig.pc => i_WindingOf_E) (fun x => ⟨(fn_cons ⟨i_ClimbOf_ok, i_ClimbOf_ent⟩ fn_none), clo_none, wr_none⟩) (fun h => by cases h) follows_ (fun _ _ => trivial)
end FN
set_option linter.unusedVariables false
namespace FN
open Go Go.Proofs
/-! loop.example/firingnets/impl.SquareWindings -/
@[reducible] def i_SquareWindings_sig : Sig := { ps := [none, none, none], pc := [.int .i64, .int .i64, .view .i64], rs := [none], rc := [.row 3 .i64] }
noncomputable def i_SquareWindings_E : Env' := { fn := fun f => if f = 28 then some ⟨i_GridNet_sig, i_GridNet_f⟩ else if f = 29 then some ⟨i_WindingOf_sig, i_WindingOf_f⟩ else if f = 48 then some ⟨i_asked_sig, i_asked_f⟩ else if f = 49 then some ⟨i_SquareTours_sig, i_SquareTours_f⟩ else none, ck := ckT, cuts := [(6, [2, 7, 8, 27, 28, 29])], mine := fun i => false }
noncomputable def i_SquareWindings_f (x : Ts i_SquareWindings_sig.pc) : Option (Ts i_SquareWindings_sig.rc) := runFn Try.prog (i_SquareWindings_E) Try.f22 i_SquareWindings_sig x
noncomputable def i_SquareWindings_l0 (y0 : List (Int)) (y1 : List (Int)) (y2 : List (List Int)) (y3 : Int) (y4 : Int) (y5 : List (Int)) : Option ((List (Int))) := from_ Try.prog (i_SquareWindings_E) Try.f22 i_SquareWindings_sig [1, 1, 1, 1, 0, 1, 0] ⟨mkT 46 [(2, .row false .i64 y0), (7, .row true .i64 y1), (8, .own 0), (27, .row true .intss y2), (28, .int .i64 y3), (29, .int .i64 y4)], [some (.arr 3 true .i64 y5)]⟩
theorem i_SquareWindings_f_eq (x0 : (Int)) (x1 : (Int)) (x2 : (List (Int))) : i_SquareWindings_f (x0, x1, x2) = (Option.bind (i_GridNet_f (x0, x1)) fun r1 => (cond (List.isEmpty r1) (some []) (if true = true ∧ List.length r1 ≠ 0 then (Option.bind (i_asked_f (r1, 3, x2)) fun r2 => (cond ((!r2)) (some []) (Option.bind (i_SquareTours_f (x0, x1)) fun r3 => (i_SquareWindings_l0 x2 r1 r3 (List.length r3 : Int) 0 ([] : List (Int)))))) else none))) := by
  kernel_rfl
theorem i_SquareWindings_l0_eq (y0 : List (Int)) (y1 : List (Int)) (y2 : List (List Int)) (y3 : Int) (y4 : Int) (y5 : List (Int)) : i_SquareWindings_l0 y0 y1 y2 y3 y4 y5 = (cond ((decide (y4 < y3))) (if (0 : Int) ≤ y4 ∧ y4 < (List.length y2 : Int) then (Option.bind (i_WindingOf_f (y1, y0, (List.getD y2 (y4 : Int).toNat []))) fun r1 => (if (List.length y5 + List.length ([r1.1] : List (Int))) * 8 ≤ 140737488355328 then (i_SquareWindings_l0 y0 y1 y2 y3 (IntKind.i64.wrap (y4 + 1)) (y5 ++ ([r1.1] : List (Int)))) else none)) else none) (some y5)) := by
  refine (loopK_eq Try.prog (i_SquareWindings_E) (sub (Try.f22.body.getD .skip) [1, 1, 1, 1, 0, 1, 0, 0]) _ _).trans ?_
  kernel_rfl
mutual
def i_SquareWindings_l0_c : Nat → (List (Int)) → (List (Int)) → (List (List Int)) → (Int) → (Int) → (List (Int)) → Option ((List (Int)))
  | 0, _, _, _, _, _, _ => none
  | n + 1, y0, y1, y2, y3, y4, y5 => (cond ((decide (y4 < y3))) (if (0 : Int) ≤ y4 ∧ y4 < (List.length y2 : Int) then (Option.bind (i_WindingOf_f_c n (y1, y0, (List.getD y2 (y4 : Int).toNat []))) fun r1 => (if (List.length y5 + List.length ([r1.1] : List (Int))) * 8 ≤ 140737488355328 then (i_SquareWindings_l0_c n y0 y1 y2 y3 (IntKind.i64.wrap (y4 + 1)) (y5 ++ ([r1.1] : List (Int)))) else none)) else none) (some y5))
end
def i_SquareWindings_f_c (n : Nat) : ((Int)) × ((Int)) × ((List (Int))) → Option ((List (Int)))
  | (x0, x1, x2) => (Option.bind (i_GridNet_f_c n (x0, x1)) fun r1 => (cond (List.isEmpty r1) (some []) (if true = true ∧ List.length r1 ≠ 0 then (Option.bind (i_asked_f_c n (r1, 3, x2)) fun r2 => (cond ((!r2)) (some []) (Option.bind (i_SquareTours_f_c n (x0, x1)) fun r3 => (i_SquareWindings_l0_c n x2 r1 r3 (List.length r3 : Int) 0 ([] : List (Int)))))) else none)))
mutual
theorem i_SquareWindings_l0_c_le : (n : Nat) → (y0 : List (Int)) → (y1 : List (Int)) → (y2 : List (List Int)) → (y3 : Int) → (y4 : Int) → (y5 : List (Int)) → OLe (i_SquareWindings_l0_c n y0 y1 y2 y3 y4 y5) (i_SquareWindings_l0 y0 y1 y2 y3 y4 y5)
  | 0, _, _, _, _, _, _ => OLe.none _
  | n + 1, y0, y1, y2, y3, y4, y5 => by
    rw [i_SquareWindings_l0_c, i_SquareWindings_l0_eq]
    repeat' first | with_reducible exact OLe.refl _ | with_reducible exact OLe.none _ | with_reducible apply i_GridNet_f_c_le | with_reducible apply i_WindingOf_f_c_le | with_reducible apply i_asked_f_c_le | with_reducible apply i_SquareTours_f_c_le | with_reducible apply i_SquareWindings_l0_c_le | with_reducible refine OLe.cond ?_ ?_ | with_reducible refine OLe.ite ?_ ?_ | with_reducible refine OLe.bind ?_ ?_ | intro _
end
theorem i_SquareWindings_f_c_le (n : Nat) (x : Ts i_SquareWindings_sig.pc) : OLe (i_SquareWindings_f_c n x) (i_SquareWindings_f x) := by
  obtain ⟨x0, x1, x2⟩ := x
  rw [i_SquareWindings_f_c, i_SquareWindings_f_eq]
  repeat' first | with_reducible exact OLe.refl _ | with_reducible exact OLe.none _ | with_reducible apply i_GridNet_f_c_le | with_reducible apply i_WindingOf_f_c_le | with_reducible apply i_asked_f_c_le | with_reducible apply i_SquareTours_f_c_le | with_reducible apply i_SquareWindings_l0_c_le | with_reducible refine OLe.cond ?_ ?_ | with_reducible refine OLe.ite ?_ ?_ | with_reducible refine OLe.bind ?_ ?_ | intro _
theorem i_SquareWindings_ent : Entb Try.prog 22 := ⟨Try.f22, by kernel_rfl, by kernel_rfl, by kernel_rfl⟩
theorem i_SquareWindings_ok : CtrOk Try.prog 22 ⟨i_SquareWindings_sig, i_SquareWindings_f⟩ :=
  ctr_of (fn := Try.f22) (by kernel_rfl) (by kernel_rfl) (fun x : Ts i_SquareWindings_sig.pc => i_SquareWindings_E) (fun x => ⟨(fn_cons ⟨i_GridNet_ok, i_GridNet_ent⟩ (fn_cons ⟨i_WindingOf_ok, i_WindingOf_ent⟩ (fn_cons ⟨i_asked_ok, i_asked_ent⟩ (fn_cons ⟨i_SquareTours_ok, i_SquareTours_ent⟩ fn_none)))), clo_none, wr_none⟩) (fun h => by cases h) follows_ (fun _ _ => trivial)
end FN
set_option linter.unusedVariables false
namespace FN
open Go Go.Proofs
/-! (*loop.example/firingnets/spec.l20Rd).pick -/
@[reducible] def r_pick_sig : Sig := { rd := some 79, ps := [none], pc := [.view .u8, .int .i64, .int .i64], rs := [none], rc := [.int .i64, .int .i64] }
noncomputable def r_pick_E (b : List Int) : Env' := { keep := [0], rdb := b, fn := fun f => none, ck := ckT, cuts := [], mine := fun i => false }
noncomputable def r_pick_f (x : Ts r_pick_sig.pc) : Option (Ts r_pick_sig.rc) := runFn Try.prog (r_pick_E x.1) Try.f58 r_pick_sig x
theorem r_pick_f_eq (x0 : (List (Int))) (x1 : (Int)) (x2 : (Int)) : r_pick_f (x0, x1, x2) = (cond ((decide (x2 < 1))) (if 79 = 79 ∧ x0 = x0 then (some (0, (IntKind.i64.wrap (x1 + 1)))) else none) (cond (((List.length x0 : Int) == 0)) (if 79 = 79 ∧ x0 = x0 then (some (0, (IntKind.i64.wrap (x1 + 1)))) else none) (cond ((decide ((IntKind.i64.wrap ((IntKind.i64.wrap (x1 + 1)) - 1)) < (List.length x0 : Int)))) (if (0 : Int) ≤ (IntKind.i64.wrap ((IntKind.i64.wrap (x1 + 1)) - 1)) ∧ (IntKind.i64.wrap ((IntKind.i64.wrap (x1 + 1)) - 1)) < (List.length x0 : Int) then (if x2 = 0 then none else (if 79 = 79 ∧ x0 = x0 then (some ((Int.tmod (IntKind.i64.wrap (List.getD x0 ((IntKind.i64.wrap ((IntKind.i64.wrap (x1 + 1)) - 1)) : Int).toNat 0)) x2), (IntKind.i64.wrap (x1 + 1)))) else none)) else none) (if (List.length x0 : Int) = 0 then none else (if (0 : Int) ≤ (Int.tmod (IntKind.i64.wrap ((IntKind.i64.wrap (x1 + 1)) - 1)) (List.length x0 : Int)) ∧ (Int.tmod (IntKind.i64.wrap ((IntKind.i64.wrap (x1 + 1)) - 1)) (List.length x0 : Int)) < (List.length x0 : Int) then (if (List.length x0 : Int) = 0 then none else (if (0 : Int) ≤ (Int.tmod (IntKind.i64.wrap ((IntKind.i64.wrap ((IntKind.i64.wrap ((IntKind.i64.wrap (x1 + 1)) - 1)) * 7)) + 3)) (List.length x0 : Int)) ∧ (Int.tmod (IntKind.i64.wrap ((IntKind.i64.wrap ((IntKind.i64.wrap ((IntKind.i64.wrap (x1 + 1)) - 1)) * 7)) + 3)) (List.length x0 : Int)) < (List.length x0 : Int) then (if (List.length x0 : Int) = 0 then none else (if x2 = 0 then none else (if 79 = 79 ∧ x0 = x0 then (some ((Int.tmod (Go.bits .xor IntKind.i64 (IntKind.i64.wrap ((IntKind.i64.wrap ((IntKind.i64.wrap ((IntKind.i64.wrap ((IntKind.i64.wrap (List.getD x0 ((Int.tmod (IntKind.i64.wrap ((IntKind.i64.wrap (x1 + 1)) - 1)) (List.length x0 : Int)) : Int).toNat 0)) * 131)) + (IntKind.i64.wrap ((IntKind.i64.wrap (List.getD x0 ((Int.tmod (IntKind.i64.wrap ((IntKind.i64.wrap ((IntKind.i64.wrap ((IntKind.i64.wrap (x1 + 1)) - 1)) * 7)) + 3)) (List.length x0 : Int)) : Int).toNat 0)) * 1117)))) + (IntKind.i64.wrap ((IntKind.i64.wrap ((IntKind.i64.wrap (x1 + 1)) - 1)) * 29)))) + (IntKind.i64.wrap ((IntKind.i64.wrap (Int.tdiv (IntKind.i64.wrap ((IntKind.i64.wrap (x1 + 1)) - 1)) (List.length x0 : Int))) * 53)))) (IntKind.i64.wrap (Int.tdiv (IntKind.i64.wrap ((IntKind.i64.wrap ((IntKind.i64.wrap ((IntKind.i64.wrap ((IntKind.i64.wrap (List.getD x0 ((Int.tmod (IntKind.i64.wrap ((IntKind.i64.wrap (x1 + 1)) - 1)) (List.length x0 : Int)) : Int).toNat 0)) * 131)) + (IntKind.i64.wrap ((IntKind.i64.wrap (List.getD x0 ((Int.tmod (IntKind.i64.wrap ((IntKind.i64.wrap ((IntKind.i64.wrap ((IntKind.i64.wrap (x1 + 1)) - 1)) * 7)) + 3)) (List.length x0 : Int)) : Int).toNat 0)) * 1117)))) + (IntKind.i64.wrap ((IntKind.i64.wrap ((IntKind.i64.wrap (x1 + 1)) - 1)) * 29)))) + (IntKind.i64.wrap ((IntKind.i64.wrap (Int.tdiv (IntKind.i64.wrap ((IntKind.i64.wrap (x1 + 1)) - 1)) (List.length x0 : Int))) * 53)))) 64))) x2), (IntKind.i64.wrap (x1 + 1)))) else none))) else none)) else none))))) := by
  kernel_rfl
def r_pick_f_c (n : Nat) : ((List (Int))) × ((Int)) × ((Int)) → Option ((Int) × (Int))
  | (x0, x1, x2) => (cond ((decide (x2 < 1))) (if 79 = 79 ∧ x0 = x0 then (some (0, (IntKind.i64.wrap (x1 + 1)))) else none) (cond (((List.length x0 : Int) == 0)) (if 79 = 79 ∧ x0 = x0 then (some (0, (IntKind.i64.wrap (x1 + 1)))) else none) (cond ((decide ((IntKind.i64.wrap ((IntKind.i64.wrap (x1 + 1)) - 1)) < (List.length x0 : Int)))) (if (0 : Int) ≤ (IntKind.i64.wrap ((IntKind.i64.wrap (x1 + 1)) - 1)) ∧ (IntKind.i64.wrap ((IntKind.i64.wrap (x1 + 1)) - 1)) < (List.length x0 : Int) then (if x2 = 0 then none else (if 79 = 79 ∧ x0 = x0 then (some ((Int.tmod (IntKind.i64.wrap (List.getD x0 ((IntKind.i64.wrap ((IntKind.i64.wrap (x1 + 1)) - 1)) : Int).toNat 0)) x2), (IntKind.i64.wrap (x1 + 1)))) else none)) else none) (if (List.length x0 : Int) = 0 then none else (if (0 : Int) ≤ (Int.tmod (IntKind.i64.wrap ((IntKind.i64.wrap (x1 + 1)) - 1)) (List.length x0 : Int)) ∧ (Int.tmod (IntKind.i64.wrap ((IntKind.i64.wrap (x1 + 1)) - 1)) (List.length x0 : Int)) < (List.length x0 : Int) then (if (List.length x0 : Int) = 0 then none else (if (0 : Int) ≤ (Int.tmod (IntKind.i64.wrap ((IntKind.i64.wrap ((IntKind.i64.wrap ((IntKind.i64.wrap (x1 + 1)) - 1)) * 7)) + 3)) (List.length x0 : Int)) ∧ (Int.tmod (IntKind.i64.wrap ((IntKind.i64.wrap ((IntKind.i64.wrap ((IntKind.i64.wrap (x1 + 1)) - 1)) * 7)) + 3)) (List.length x0 : Int)) < (List.length x0 : Int) then (if (List.length x0 : Int) = 0 then none else (if x2 = 0 then none else (if 79 = 79 ∧ x0 = x0 then (some ((Int.tmod (Go.bits .xor IntKind.i64 (IntKind.i64.wrap ((IntKind.i64.wrap ((IntKind.i64.wrap ((IntKind.i64.wrap ((IntKind.i64.wrap (List.getD x0 ((Int.tmod (IntKind.i64.wrap ((IntKind.i64.wrap (x1 + 1)) - 1)) (List.length x0 : Int)) : Int).toNat 0)) * 131)) + (IntKind.i64.wrap ((IntKind.i64.wrap (List.getD x0 ((Int.tmod (IntKind.i64.wrap ((IntKind.i64.wrap ((IntKind.i64.wrap ((IntKind.i64.wrap (x1 + 1)) - 1)) * 7)) + 3)) (List.length x0 : Int)) : Int).toNat 0)) * 1117)))) + (IntKind.i64.wrap ((IntKind.i64.wrap ((IntKind.i64.wrap (x1 + 1)) - 1)) * 29)))) + (IntKind.i64.wrap ((IntKind.i64.wrap (Int.tdiv (IntKind.i64.wrap ((IntKind.i64.wrap (x1 + 1)) - 1)) (List.length x0 : Int))) * 53)))) (IntKind.i64.wrap (Int.tdiv (IntKind.i64.wrap ((IntKind.i64.wrap ((IntKind.i64.wrap ((IntKind.i64.wrap ((IntKind.i64.wrap (List.getD x0 ((Int.tmod (IntKind.i64.wrap ((IntKind.i64.wrap (x1 + 1)) - 1)) (List.length x0 : Int)) : Int).toNat 0)) * 131)) + (IntKind.i64.wrap ((IntKind.i64.wrap (List.getD x0 ((Int.tmod (IntKind.i64.wrap ((IntKind.i64.wrap ((IntKind.i64.wrap ((IntKind.i64.wrap (x1 + 1)) - 1)) * 7)) + 3)) (List.length x0 : Int)) : Int).toNat 0)) * 1117)))) + (IntKind.i64.wrap ((IntKind.i64.wrap ((IntKind.i64.wrap (x1 + 1)) - 1)) * 29)))) + (IntKind.i64.wrap ((IntKind.i64.wrap (Int.tdiv (IntKind.i64.wrap ((IntKind.i64.wrap (x1 + 1)) - 1)) (List.length x0 : Int))) * 53)))) 64))) x2), (IntKind.i64.wrap (x1 + 1)))) else none))) else none)) else none)))))
theorem r_pick_f_c_le (n : Nat) (x : Ts r_pick_sig.pc) : OLe (r_pick_f_c n x) (r_pick_f x) := by
  obtain ⟨x0, x1, x2⟩ := x
  rw [r_pick_f_c, r_pick_f_eq]
  repeat' first | with_reducible exact OLe.refl _ | with_reducible exact OLe.none _ | with_reducible refine OLe.cond ?_ ?_ | with_reducible refine OLe.ite ?_ ?_ | with_reducible refine OLe.bind ?_ ?_ | intro _
theorem r_pick_ent : Entb Try.prog 58 := ⟨Try.f58, by kernel_rfl, by kernel_rfl, by kernel_rfl⟩
theorem r_pick_ok : CtrOk Try.prog 58 ⟨r_pick_sig, r_pick_f⟩ :=
  ctr_of (fn := Try.f58) (by kernel_rfl) (by kernel_rfl) (fun x : Ts r_pick_sig.pc => r_pick_E x.1) (fun x => ⟨fn_none, clo_none, wr_none⟩) (fun _ x => ⟨rfl, fun b ps h => rd_head h⟩) follows_ (fun _ _ => trivial)
end FN
set_option linter.unusedVariables false
namespace FN
open Go Go.Proofs
/-! loop.example/firingnets/spec.l20Grid -/
@[reducible] def s_l20Grid_sig : Sig := { rd := some 79, ps := [], pc := [.view .u8, .int .i64], rs := [none, none], rc := [.int .i64, .int .i64, .int .i64] }
noncomputable def s_l20Grid_E (b : List Int) : Env' := { keep := [0], rdb := b, fn := fun f => if f = 58 then some ⟨r_pick_sig, r_pick_f⟩ else none, ck := ckT, cuts := [], mine := fun i => false }
noncomputable def s_l20Grid_f (x : Ts s_l20Grid_sig.pc) : Option (Ts s_l20Grid_sig.rc) := runFn Try.prog (s_l20Grid_E x.1) Try.f50 s_l20Grid_sig x
theorem s_l20Grid_f_eq (x0 : (List (Int))) (x1 : (Int)) : s_l20Grid_f (x0, x1) = (Option.bind (r_pick_f (x0, x1, 10)) fun r1 => (if (0 : Int) ≤ r1.1 ∧ r1.1 < (List.length ([([2, 2] : List (Int)), ([2, 3] : List (Int)), ([3, 2] : List (Int)), ([1, 4] : List (Int)), ([5, 1] : List (Int)), ([1, 1] : List (Int)), ([2, 2] : List (Int)), ([2, 3] : List (Int)), ([3, 3] : List (Int)), ([0, 2] : List (Int))] : List (List Int)) : Int) then (if (0 : Int) ≤ 0 ∧ 0 < (List.length (List.getD ([([2, 2] : List (Int)), ([2, 3] : List (Int)), ([3, 2] : List (Int)), ([1, 4] : List (Int)), ([5, 1] : List (Int)), ([1, 1] : List (Int)), ([2, 2] : List (Int)), ([2, 3] : List (Int)), ([3, 3] : List (Int)), ([0, 2] : List (Int))] : List (List Int)) (r1.1 : Int).toNat []) : Int) then (if (0 : Int) ≤ 1 ∧ 1 < (List.length (List.getD ([([2, 2] : List (Int)), ([2, 3] : List (Int)), ([3, 2] : List (Int)), ([1, 4] : List (Int)), ([5, 1] : List (Int)), ([1, 1] : List (Int)), ([2, 2] : List (Int)), ([2, 3] : List (Int)), ([3, 3] : List (Int)), ([0, 2] : List (Int))] : List (List Int)) (r1.1 : Int).toNat []) : Int) then (if 79 = 79 ∧ x0 = x0 then (some ((List.getD (List.getD ([([2, 2] : List (Int)), ([2, 3] : List (Int)), ([3, 2] : List (Int)), ([1, 4] : List (Int)), ([5, 1] : List (Int)), ([1, 1] : List (Int)), ([2, 2] : List (Int)), ([2, 3] : List (Int)), ([3, 3] : List (Int)), ([0, 2] : List (Int))] : List (List Int)) (r1.1 : Int).toNat []) (0 : Int).toNat 0), (List.getD (List.getD ([([2, 2] : List (Int)), ([2, 3] : List (Int)), ([3, 2] : List (Int)), ([1, 4] : List (Int)), ([5, 1] : List (Int)), ([1, 1] : List (Int)), ([2, 2] : List (Int)), ([2, 3] : List (Int)), ([3, 3] : List (Int)), ([0, 2] : List (Int))] : List (List Int)) (r1.1 : Int).toNat []) (1 : Int).toNat 0), r1.2)) else none) else none) else none) else none)) := by
  kernel_rfl
def s_l20Grid_f_c (n : Nat) : ((List (Int))) × ((Int)) → Option ((Int) × (Int) × (Int))
  | (x0, x1) => (Option.bind (r_pick_f_c n (x0, x1, 10)) fun r1 => (if (0 : Int) ≤ r1.1 ∧ r1.1 < (List.length ([([2, 2] : List (Int)), ([2, 3] : List (Int)), ([3, 2] : List (Int)), ([1, 4] : List (Int)), ([5, 1] : List (Int)), ([1, 1] : List (Int)), ([2, 2] : List (Int)), ([2, 3] : List (Int)), ([3, 3] : List (Int)), ([0, 2] : List (Int))] : List (List Int)) : Int) then (if (0 : Int) ≤ 0 ∧ 0 < (List.length (List.getD ([([2, 2] : List (Int)), ([2, 3] : List (Int)), ([3, 2] : List (Int)), ([1, 4] : List (Int)), ([5, 1] : List (Int)), ([1, 1] : List (Int)), ([2, 2] : List (Int)), ([2, 3] : List (Int)), ([3, 3] : List (Int)), ([0, 2] : List (Int))] : List (List Int)) (r1.1 : Int).toNat []) : Int) then (if (0 : Int) ≤ 1 ∧ 1 < (List.length (List.getD ([([2, 2] : List (Int)), ([2, 3] : List (Int)), ([3, 2] : List (Int)), ([1, 4] : List (Int)), ([5, 1] : List (Int)), ([1, 1] : List (Int)), ([2, 2] : List (Int)), ([2, 3] : List (Int)), ([3, 3] : List (Int)), ([0, 2] : List (Int))] : List (List Int)) (r1.1 : Int).toNat []) : Int) then (if 79 = 79 ∧ x0 = x0 then (some ((List.getD (List.getD ([([2, 2] : List (Int)), ([2, 3] : List (Int)), ([3, 2] : List (Int)), ([1, 4] : List (Int)), ([5, 1] : List (Int)), ([1, 1] : List (Int)), ([2, 2] : List (Int)), ([2, 3] : List (Int)), ([3, 3] : List (Int)), ([0, 2] : List (Int))] : List (List Int)) (r1.1 : Int).toNat []) (0 : Int).toNat 0), (List.getD (List.getD ([([2, 2] : List (Int)), ([2, 3] : List (Int)), ([3, 2] : List (Int)), ([1, 4] : List (Int)), ([5, 1] : List (Int)), ([1, 1] : List (Int)), ([2, 2] : List (Int)), ([2, 3] : List (Int)), ([3, 3] : List (Int)), ([0, 2] : List (Int))] : List (List Int)) (r1.1 : Int).toNat []) (1 : Int).toNat 0), r1.2)) else none) else none) else none) else none))
theorem s_l20Grid_f_c_le (n : Nat) (x : Ts s_l20Grid_sig.pc) : OLe (s_l20Grid_f_c n x) (s_l20Grid_f x) := by
  obtain ⟨x0, x1⟩ := x
  rw [s_l20Grid_f_c, s_l20Grid_f_eq]
  repeat' first | with_reducible exact OLe.refl _ | with_reducible exact OLe.none _ | with_reducible apply r_pick_f_c_le | with_reducible refine OLe.cond ?_ ?_ | with_reducible refine OLe.ite ?_ ?_ | with_reducible refine OLe.bind ?_ ?_ | intro _
theorem s_l20Grid_ent : Entb Try.prog 50 := ⟨Try.f50, by kernel_rfl, by kernel_rfl, by kernel_rfl⟩
theorem s_l20Grid_ok : CtrOk Try.prog 50 ⟨s_l20Grid_sig, s_l20Grid_f⟩ :=
  ctr_of (fn := Try.f50) (by kernel_rfl) (by kernel_rfl) (fun x : Ts s_l20Grid_sig.pc => s_l20Grid_E x.1) (fun x => ⟨(fn_cons ⟨r_pick_ok, r_pick_ent⟩ fn_none), clo_none, wr_none⟩) (fun _ x => ⟨rfl, fun b ps h => rd_head h⟩) follows_ (fun _ _ => trivial)
end FN
set_option linter.unusedVariables false
namespace FN
open Go Go.Proofs
/-! loop.example/firingnets/spec.l20Open -/
@[reducible] def s_l20Open_sig : Sig := { ps := [none], pc := [.view .u8], nw := some 79, rs := [none], rc := [.view .u8, .int .i64] }
noncomputable def s_l20Open_E : Env' := { fn := fun f => none, ck := ckT, cuts := [], mine := fun i => false }
noncomputable def s_l20Open_f (x : Ts s_l20Open_sig.pc) : Option (Ts s_l20Open_sig.rc) := runFn Try.prog (s_l20Open_E) Try.f42 s_l20Open_sig x
theorem s_l20Open_f_eq (x0 : (List (Int))) : s_l20Open_f x0 = (cond ((decide (2000 < (List.length x0 : Int)))) (if (0 : Int) ≤ 2000 ∧ 2000 ≤ (List.length x0 : Int) then (some ((List.drop 0 (List.take ((2000 : Int).toNat) x0)), 0)) else none) (some (x0, 0))) := by
  kernel_rfl
def s_l20Open_f_c (n : Nat) : ((List (Int))) → Option ((List (Int)) × (Int))
  | x0 => (cond ((decide (2000 < (List.length x0 : Int)))) (if (0 : Int) ≤ 2000 ∧ 2000 ≤ (List.length x0 : Int) then (some ((List.drop 0 (List.take ((2000 : Int).toNat) x0)), 0)) else none) (some (x0, 0)))
theorem s_l20Open_f_c_le (n : Nat) (x : Ts s_l20Open_sig.pc) : OLe (s_l20Open_f_c n x) (s_l20Open_f x) := by
  rw [s_l20Open_f_c, s_l20Open_f_eq]
  repeat' first | with_reducible exact OLe.refl _ | with_reducible exact OLe.none _ | with_reducible refine OLe.cond ?_ ?_ | with_reducible refine OLe.ite ?_ ?_ | with_reducible refine OLe.bind ?_ ?_ | intro _
theorem s_l20Open_ent : Entb Try.prog 42 := ⟨Try.f42, by kernel_rfl, by kernel_rfl, by kernel_rfl⟩
theorem s_l20Open_ok : CtrOk Try.prog 42 ⟨s_l20Open_sig, s_l20Open_f⟩ :=
  ctr_of (fn := Try.f42) (by kernel_rfl) (by kernel_rfl) (fun x : Ts s_l20Open_sig.pc => s_l20Open_E) (fun x => ⟨fn_none, clo_none, wr_none⟩) (fun h => by cases h) follows_ (fun _ _ => trivial)
end FN
set_option linter.unusedVariables false
namespace FN
open Go Go.Proofs
/-! (*loop.example/firingnets/spec.l20Rd).odd -/
@[reducible] def r_odd_sig : Sig := { rd := some 79, ps := [none], pc := [.view .u8, .int .i64, .int .i64], rs := [none], rc := [.bool, .int .i64] }
noncomputable def r_odd_E (b : List Int) : Env' := { keep := [0], rdb := b, fn := fun f => if f = 58 then some ⟨r_pick_sig, r_pick_f⟩ else none, ck := ckT, cuts := [], mine := fun i => false }
noncomputable def r_odd_f (x : Ts r_odd_sig.pc) : Option (Ts r_odd_sig.rc) := runFn Try.prog (r_odd_E x.1) Try.f61 r_odd_sig x
theorem r_odd_f_eq (x0 : (List (Int))) (x1 : (Int)) (x2 : (Int)) : r_odd_f (x0, x1, x2) = (cond ((decide (0 < x2))) (Option.bind (r_pick_f (x0, x1, x2)) fun r1 => (if 79 = 79 ∧ x0 = x0 then (some ((r1.1 == (IntKind.i64.wrap (x2 - 1))), r1.2)) else none)) (if 79 = 79 ∧ x0 = x0 then (some (false, x1)) else none)) := by
  kernel_rfl
def r_odd_f_c (n : Nat) : ((List (Int))) × ((Int)) × ((Int)) → Option ((Bool) × (Int))
  | (x0, x1, x2) => (cond ((decide (0 < x2))) (Option.bind (r_pick_f_c n (x0, x1, x2)) fun r1 => (if 79 = 79 ∧ x0 = x0 then (some ((r1.1 == (IntKind.i64.wrap (x2 - 1))), r1.2)) else none)) (if 79 = 79 ∧ x0 = x0 then (some (false, x1)) else none))
theorem r_odd_f_c_le (n : Nat) (x : Ts r_odd_sig.pc) : OLe (r_odd_f_c n x) (r_odd_f x) := by
  obtain ⟨x0, x1, x2⟩ := x
  rw [r_odd_f_c, r_odd_f_eq]
  repeat' first | with_reducible exact OLe.refl _ | with_reducible exact OLe.none _ | with_reducible apply r_pick_f_c_le | with_reducible refine OLe.cond ?_ ?_ | with_reducible refine OLe.ite ?_ ?_ | with_reducible refine OLe.bind ?_ ?_ | intro _
theorem r_odd_ent : Entb Try.prog 61 := ⟨Try.f61, by kernel_rfl, by kernel_rfl, by kernel_rfl⟩
theorem r_odd_ok : CtrOk Try.prog 61 ⟨r_odd_sig, r_odd_f⟩ :=
  ctr_of (fn := Try.f61) (by kernel_rfl) (by kernel_rfl) (fun x : Ts r_odd_sig.pc => r_odd_E x.1) (fun x => ⟨(fn_cons ⟨r_pick_ok, r_pick_ent⟩ fn_none), clo_none, wr_none⟩) (fun _ x => ⟨rfl, fun b ps h => rd_head h⟩) follows_ (fun _ _ => trivial)
end FN
set_option linter.unusedVariables false
namespace FN
open Go Go.Proofs
/-! loop.example/firingnets/spec.l20State -/
@[reducible] def s_l20State_sig : Sig := { rd := some 79, ps := [none, none, none], pc := [.view .u8, .int .i64, .int .i64, .int .i64, .int .i64], rs := [none], rc := [.row 3 .i64, .int .i64] }
noncomputable def s_l20State_E (b : List Int) : Env' := { keep := [0], rdb := b, fn := fun f => if f = 58 then some ⟨r_pick_sig, r_pick_f⟩ else if f = 61 then some ⟨r_odd_sig, r_odd_f⟩ else none, ck := ckT, cuts := [(4, [0, 1, 2, 3, 9, 10, 11]), (9, [0, 2, 3, 9])], mine := fun i => false }
noncomputable def s_l20State_f (x : Ts s_l20State_sig.pc) : Option (Ts s_l20State_sig.rc) := runFn Try.prog (s_l20State_E x.1) Try.f51 s_l20State_sig x
noncomputable def s_l20State_l0 (b : List Int) (y0 : Int) (y1 : Int) (y2 : Int) (y3 : Int) (y4 : Int) (y5 : List (Int)) (y6 : Int) (y7 : List (Int)) : Option ((List (Int)) × (Int)) := from_ Try.prog (s_l20State_E b) Try.f51 s_l20State_sig [1, 1, 1, 0, 1, 0] ⟨mkT 52 [(0, .ptr 0 0), (1, .int .i64 y0), (2, .int .i64 y1), (3, .int .i64 y2), (9, .own 1), (10, .int .i64 y3), (11, .int .i64 y4)], [some (.box 79 [.row false .u8 y5, .int .i64 y6]), some (.arr 3 true .i64 y7)]⟩
noncomputable def s_l20State_j1 (b : List Int) (y0 : Int) (y1 : Int) (y2 : List (Int)) (y3 : Int) (y4 : List (Int)) : Option ((List (Int)) × (Int)) := from_ Try.prog (s_l20State_E b) Try.f51 s_l20State_sig [1, 1, 1, 1] ⟨mkT 52 [(0, .ptr 0 0), (2, .int .i64 y0), (3, .int .i64 y1), (9, .own 1)], [some (.box 79 [.row false .u8 y2, .int .i64 y3]), some (.arr 3 true .i64 y4)]⟩
theorem s_l20State_f_eq (x0 : (List (Int))) (x1 : (Int)) (x2 : (Int)) (x3 : (Int)) (x4 : (Int)) : s_l20State_f (x0, x1, x2, x3, x4) = (Option.bind (r_pick_f (x0, x1, 3)) fun r1 => (s_l20State_l0 x0 x2 x3 x4 r1.1 0 x0 r1.2 ([] : List (Int)))) := by
  kernel_rfl
theorem s_l20State_l0_eq (b : List Int) (y0 : Int) (y1 : Int) (y2 : Int) (y3 : Int) (y4 : Int) (y5 : List (Int)) (y6 : Int) (y7 : List (Int)) : s_l20State_l0 b y0 y1 y2 y3 y4 y5 y6 y7 = (cond ((decide (y4 < y0))) (cond ((decide (0 < y3))) (Option.bind (r_pick_f (y5, y6, 3)) fun r1 => (cond ((decide (r1.1 < y3))) (if (List.length y7 + List.length ([0] : List (Int))) * 8 ≤ 140737488355328 then (s_l20State_l0 b y0 y1 y2 y3 (IntKind.i64.wrap (y4 + 1)) y5 r1.2 (y7 ++ ([0] : List (Int)))) else none) (Option.bind (r_pick_f (y5, r1.2, y1)) fun r2 => (if (List.length y7 + List.length ([r2.1] : List (Int))) * 8 ≤ 140737488355328 then (s_l20State_l0 b y0 y1 y2 y3 (IntKind.i64.wrap (y4 + 1)) y5 r2.2 (y7 ++ ([r2.1] : List (Int)))) else none)))) (Option.bind (r_pick_f (y5, y6, y1)) fun r3 => (if (List.length y7 + List.length ([r3.1] : List (Int))) * 8 ≤ 140737488355328 then (s_l20State_l0 b y0 y1 y2 y3 (IntKind.i64.wrap (y4 + 1)) y5 r3.2 (y7 ++ ([r3.1] : List (Int)))) else none))) (s_l20State_j1 b y1 y2 y5 y6 y7)) := by
  refine (loopK_eq Try.prog (s_l20State_E b) (sub (Try.f51.body.getD .skip) [1, 1, 1, 0, 1, 0, 0]) _ _).trans ?_
  kernel_rfl
theorem s_l20State_j1_eq (b : List Int) (y0 : Int) (y1 : Int) (y2 : List (Int)) (y3 : Int) (y4 : List (Int)) : s_l20State_j1 b y0 y1 y2 y3 y4 = (Option.bind (r_odd_f (y2, y3, y1)) fun r1 => (cond (r1.1) (Option.bind (r_pick_f (y2, r1.2, 2)) fun r2 => (cond ((r2.1 == 0)) (if 79 = 79 ∧ y2 = b then (some (([] : List (Int)), r2.2)) else none) (if (0 : Int) ≤ (IntKind.i64.wrap ((List.length y4 : Int) - 1)) ∧ (IntKind.i64.wrap ((List.length y4 : Int) - 1)) < (List.length y4 : Int) then (if 79 = 79 ∧ y2 = b then (some ((List.set y4 ((IntKind.i64.wrap ((List.length y4 : Int) - 1)) : Int).toNat y0), r2.2)) else none) else none))) (if 79 = 79 ∧ y2 = b then (some (y4, r1.2)) else none))) := by
  kernel_rfl
mutual
def s_l20State_l0_c : Nat → (List Int) → (Int) → (Int) → (Int) → (Int) → (Int) → (List (Int)) → (Int) → (List (Int)) → Option ((List (Int)) × (Int))
  | 0, _, _, _, _, _, _, _, _, _ => none
  | n + 1, b, y0, y1, y2, y3, y4, y5, y6, y7 => (cond ((decide (y4 < y0))) (cond ((decide (0 < y3))) (Option.bind (r_pick_f_c n (y5, y6, 3)) fun r1 => (cond ((decide (r1.1 < y3))) (if (List.length y7 + List.length ([0] : List (Int))) * 8 ≤ 140737488355328 then (s_l20State_l0_c n b y0 y1 y2 y3 (IntKind.i64.wrap (y4 + 1)) y5 r1.2 (y7 ++ ([0] : List (Int)))) else none) (Option.bind (r_pick_f_c n (y5, r1.2, y1)) fun r2 => (if (List.length y7 + List.length ([r2.1] : List (Int))) * 8 ≤ 140737488355328 then (s_l20State_l0_c n b y0 y1 y2 y3 (IntKind.i64.wrap (y4 + 1)) y5 r2.2 (y7 ++ ([r2.1] : List (Int)))) else none)))) (Option.bind (r_pick_f_c n (y5, y6, y1)) fun r3 => (if (List.length y7 + List.length ([r3.1] : List (Int))) * 8 ≤ 140737488355328 then (s_l20State_l0_c n b y0 y1 y2 y3 (IntKind.i64.wrap (y4 + 1)) y5 r3.2 (y7 ++ ([r3.1] : List (Int)))) else none))) (s_l20State_j1_c n b y1 y2 y5 y6 y7))
def s_l20State_j1_c : Nat → (List Int) → (Int) → (Int) → (List (Int)) → (Int) → (List (Int)) → Option ((List (Int)) × (Int))
  | 0, _, _, _, _, _, _ => none
  | n + 1, b, y0, y1, y2, y3, y4 => (Option.bind (r_odd_f_c n (y2, y3, y1)) fun r1 => (cond (r1.1) (Option.bind (r_pick_f_c n (y2, r1.2, 2)) fun r2 => (cond ((r2.1 == 0)) (if 79 = 79 ∧ y2 = b then (some (([] : List (Int)), r2.2)) else none) (if (0 : Int) ≤ (IntKind.i64.wrap ((List.length y4 : Int) - 1)) ∧ (IntKind.i64.wrap ((List.length y4 : Int) - 1)) < (List.length y4 : Int) then (if 79 = 79 ∧ y2 = b then (some ((List.set y4 ((IntKind.i64.wrap ((List.length y4 : Int) - 1)) : Int).toNat y0), r2.2)) else none) else none))) (if 79 = 79 ∧ y2 = b then (some (y4, r1.2)) else none)))
end
def s_l20State_f_c (n : Nat) : ((List (Int))) × ((Int)) × ((Int)) × ((Int)) × ((Int)) → Option ((List (Int)) × (Int))
  | (x0, x1, x2, x3, x4) => (Option.bind (r_pick_f_c n (x0, x1, 3)) fun r1 => (s_l20State_l0_c n x0 x2 x3 x4 r1.1 0 x0 r1.2 ([] : List (Int))))
mutual
theorem s_l20State_l0_c_le : (n : Nat) → (b : List Int) → (y0 : Int) → (y1 : Int) → (y2 : Int) → (y3 : Int) → (y4 : Int) → (y5 : List (Int)) → (y6 : Int) → (y7 : List (Int)) → OLe (s_l20State_l0_c n b y0 y1 y2 y3 y4 y5 y6 y7) (s_l20State_l0 b y0 y1 y2 y3 y4 y5 y6 y7)
  | 0, _, _, _, _, _, _, _, _, _ => OLe.none _
  | n + 1, b, y0, y1, y2, y3, y4, y5, y6, y7 => by
    rw [s_l20State_l0_c, s_l20State_l0_eq]
    repeat' first | with_reducible exact OLe.refl _ | with_reducible exact OLe.none _ | with_reducible apply r_pick_f_c_le | with_reducible apply r_odd_f_c_le | with_reducible apply s_l20State_l0_c_le | with_reducible apply s_l20State_j1_c_le | with_reducible refine OLe.cond ?_ ?_ | with_reducible refine OLe.ite ?_ ?_ | with_reducible refine OLe.bind ?_ ?_ | intro _
theorem s_l20State_j1_c_le : (n : Nat) → (b : List Int) → (y0 : Int) → (y1 : Int) → (y2 : List (Int)) → (y3 : Int) → (y4 : List (Int)) → OLe (s_l20State_j1_c n b y0 y1 y2 y3 y4) (s_l20State_j1 b y0 y1 y2 y3 y4)
  | 0, _, _, _, _, _, _ => OLe.none _
  | n + 1, b, y0, y1, y2, y3, y4 => by
    rw [s_l20State_j1_c, s_l20State_j1_eq]
    repeat' first | with_reducible exact OLe.refl _ | with_reducible exact OLe.none _ | with_reducible apply r_pick_f_c_le | with_reducible apply r_odd_f_c_le | with_reducible apply s_l20State_l0_c_le | with_reducible apply s_l20State_j1_c_le | with_reducible refine OLe.cond ?_ ?_ | with_reducible refine OLe.ite ?_ ?_ | with_reducible refine OLe.bind ?_ ?_ | intro _
end
theorem s_l20State_f_c_le (n : Nat) (x : Ts s_l20State_sig.pc) : OLe (s_l20State_f_c n x) (s_l20State_f x) := by
  obtain ⟨x0, x1, x2, x3, x4⟩ := x
  rw [s_l20State_f_c, s_l20State_f_eq]
  repeat' first | with_reducible exact OLe.refl _ | with_reducible exact OLe.none _ | with_reducible apply r_pick_f_c_le | with_reducible apply r_odd_f_c_le | with_reducible apply s_l20State_l0_c_le | with_reducible apply s_l20State_j1_c_le | with_reducible refine OLe.cond ?_ ?_ | with_reducible refine OLe.ite ?_ ?_ | with_reducible refine OLe.bind ?_ ?_ | intro _
theorem s_l20State_ent : Entb Try.prog 51 := ⟨Try.f51, by kernel_rfl, by kernel_rfl, by kernel_rfl⟩
theorem s_l20State_ok : CtrOk Try.prog 51 ⟨s_l20State_sig, s_l20State_f⟩ :=
  ctr_of (fn := Try.f51) (by kernel_rfl) (by kernel_rfl) (fun x : Ts s_l20State_sig.pc => s_l20State_E x.1) (fun x => ⟨(fn_cons ⟨r_pick_ok, r_pick_ent⟩ (fn_cons ⟨r_odd_ok, r_odd_ent⟩ fn_none)), clo_none, wr_none⟩) (fun _ x => ⟨rfl, fun b ps h => rd_head h⟩) follows_ (fun _ _ => trivial)
end FN
set_option linter.unusedVariables false
namespace FN
open Go Go.Proofs
/-! loop.example/firingnets/spec.DrawSquareWindings -/
@[reducible] def s_DrawSquareWindings_sig : Sig := { ps := [none], pc := [.view .u8], rs := [none, none, none], rc := [.int .i64, .int .i64, .row 3 .i64] }
noncomputable def s_DrawSquareWindings_E : Env' := { fn := fun f => if f = 42 then some ⟨s_l20Open_sig, s_l20Open_f⟩ else if f = 50 then some ⟨s_l20Grid_sig, s_l20Grid_f⟩ else if f = 51 then some ⟨s_l20State_sig, s_l20State_f⟩ else none, ck := ckT, cuts := [], mine := fun i => i == 9 || i == 12 || i == 23 }
noncomputable def s_DrawSquareWindings_f (x : Ts s_DrawSquareWindings_sig.pc) : Option (Ts s_DrawSquareWindings_sig.rc) := runFn Try.prog (s_DrawSquareWindings_E) Try.f26 s_DrawSquareWindings_sig x
theorem s_DrawSquareWindings_f_eq (x0 : (List (Int))) : s_DrawSquareWindings_f x0 = (Option.bind (s_l20Open_f x0) fun r1 => (Option.bind (s_l20Grid_f (r1.1, r1.2)) fun r2 => (Option.bind (s_l20State_f (r1.1, r2.2.2, (Int.tmod (if 1 > (IntKind.i64.wrap (r2.1 * r2.2.1)) then 1 else (IntKind.i64.wrap (r2.1 * r2.2.1))) 7), 3, 0)) fun r3 => (some (r2.1, r2.2.1, r3.1))))) := by
  kernel_rfl
def s_DrawSquareWindings_f_c (n : Nat) : ((List (Int))) → Option ((Int) × (Int) × (List (Int)))
  | x0 => (Option.bind (s_l20Open_f_c n x0) fun r1 => (Option.bind (s_l20Grid_f_c n (r1.1, r1.2)) fun r2 => (Option.bind (s_l20State_f_c n (r1.1, r2.2.2, (Int.tmod (if 1 > (IntKind.i64.wrap (r2.1 * r2.2.1)) then 1 else (IntKind.i64.wrap (r2.1 * r2.2.1))) 7), 3, 0)) fun r3 => (some (r2.1, r2.2.1, r3.1)))))
theorem s_DrawSquareWindings_f_c_le (n : Nat) (x : Ts s_DrawSquareWindings_sig.pc) : OLe (s_DrawSquareWindings_f_c n x) (s_DrawSquareWindings_f x) := by
  rw [s_DrawSquareWindings_f_c, s_DrawSquareWindings_f_eq]
  repeat' first | with_reducible exact OLe.refl _ | with_reducible exact OLe.none _ | with_reducible apply s_l20Open_f_c_le | with_reducible apply s_l20Grid_f_c_le | with_reducible apply s_l20State_f_c_le | with_reducible refine OLe.cond ?_ ?_ | with_reducible refine OLe.ite ?_ ?_ | with_reducible refine OLe.bind ?_ ?_ | intro _
theorem s_DrawSquareWindings_ent : Entb Try.prog 26 := ⟨Try.f26, by kernel_rfl, by kernel_rfl, by kernel_rfl⟩
theorem s_DrawSquareWindings_ok : CtrOk Try.prog 26 ⟨s_DrawSquareWindings_sig, s_DrawSquareWindings_f⟩ :=
  ctr_of (fn := Try.f26) (by kernel_rfl) (by kernel_rfl) (fun x : Ts s_DrawSquareWindings_sig.pc => s_DrawSquareWindings_E) (fun x => ⟨(fn_cons ⟨s_l20Open_ok, s_l20Open_ent⟩ (fn_cons ⟨s_l20Grid_ok, s_l20Grid_ent⟩ (fn_cons ⟨s_l20State_ok, s_l20State_ent⟩ fn_none))), clo_none, wr_none⟩) (fun h => by cases h) follows_ (fun _ _ => trivial)
end FN
set_option linter.unusedVariables false
namespace FN
open Go Go.Proofs
/-! loop.example/firingnets/spec.l1In -/
@[reducible] def s_l1In_sig : Sig := { ps := [none, none, none], pc := [.int .i64, .int .i64, .int .i64], rs := [none], rc := [.bool] }
noncomputable def s_l1In_E : Env' := { fn := fun f => none, ck := ckT, cuts := [], mine := fun i => false }
noncomputable def s_l1In_f (x : Ts s_l1In_sig.pc) : Option (Ts s_l1In_sig.rc) := runFn Try.prog (s_l1In_E) Try.f73 s_l1In_sig x
theorem s_l1In_f_eq (x0 : (Int)) (x1 : (Int)) (x2 : (Int)) : s_l1In_f (x0, x1, x2) = (cond ((decide (x1 ≤ x0))) (some (decide (x0 ≤ x2))) (some false)) := by
  kernel_rfl
def s_l1In_f_c (n : Nat) : ((Int)) × ((Int)) × ((Int)) → Option ((Bool))
  | (x0, x1, x2) => (cond ((decide (x1 ≤ x0))) (some (decide (x0 ≤ x2))) (some false))
theorem s_l1In_f_c_le (n : Nat) (x : Ts s_l1In_sig.pc) : OLe (s_l1In_f_c n x) (s_l1In_f x) := by
  obtain ⟨x0, x1, x2⟩ := x
  rw [s_l1In_f_c, s_l1In_f_eq]
  repeat' first | with_reducible exact OLe.refl _ | with_reducible exact OLe.none _ | with_reducible refine OLe.cond ?_ ?_ | with_reducible refine OLe.ite ?_ ?_ | with_reducible refine OLe.bind ?_ ?_ | intro _
theorem s_l1In_ent : Entb Try.prog 73 := ⟨Try.f73, by kernel_rfl, by kernel_rfl, by kernel_rfl⟩
theorem s_l1In_ok : CtrOk Try.prog 73 ⟨s_l1In_sig, s_l1In_f⟩ :=
  ctr_of (fn := Try.f73) (by kernel_rfl) (by kernel_rfl) (fun x : Ts s_l1In_sig.pc => s_l1In_E) (fun x => ⟨fn_none, clo_none, wr_none⟩) (fun h => by cases h) follows_ (fun _ _ => trivial)
end FN
set_option linter.unusedVariables false
namespace FN
open Go Go.Proofs
/-! loop.example/firingnets/spec.l12Ok -/
@[reducible] def s_l12Ok_sig : Sig := { ps := [none, none], pc := [.int .i64, .int .i64], rs := [none], rc := [.bool] }
noncomputable def s_l12Ok_E : Env' := { fn := fun f => if f = 73 then some ⟨s_l1In_sig, s_l1In_f⟩ else none, ck := ckT, cuts := [], mine := fun i => false }
noncomputable def s_l12Ok_f (x : Ts s_l12Ok_sig.pc) : Option (Ts s_l12Ok_sig.rc) := runFn Try.prog (s_l12Ok_E) Try.f62 s_l12Ok_sig x
theorem s_l12Ok_f_eq (x0 : (Int)) (x1 : (Int)) : s_l12Ok_f (x0, x1) = (Option.bind (s_l1In_f (x0, 1, 6)) fun r1 => (cond (r1) (Option.bind (s_l1In_f (x1, 1, 6)) fun r2 => (cond (r2) (some (decide ((IntKind.i64.wrap (x0 * x1)) ≤ 6))) (some false))) (some false))) := by
  kernel_rfl
def s_l12Ok_f_c (n : Nat) : ((Int)) × ((Int)) → Option ((Bool))
  | (x0, x1) => (Option.bind (s_l1In_f_c n (x0, 1, 6)) fun r1 => (cond (r1) (Option.bind (s_l1In_f_c n (x1, 1, 6)) fun r2 => (cond (r2) (some (decide ((IntKind.i64.wrap (x0 * x1)) ≤ 6))) (some false))) (some false)))
theorem s_l12Ok_f_c_le (n : Nat) (x : Ts s_l12Ok_sig.pc) : OLe (s_l12Ok_f_c n x) (s_l12Ok_f x) := by
  obtain ⟨x0, x1⟩ := x
  rw [s_l12Ok_f_c, s_l12Ok_f_eq]
  repeat' first | with_reducible exact OLe.refl _ | with_reducible exact OLe.none _ | with_reducible apply s_l1In_f_c_le | with_reducible refine OLe.cond ?_ ?_ | with_reducible refine OLe.ite ?_ ?_ | with_reducible refine OLe.bind ?_ ?_ | intro _
theorem s_l12Ok_ent : Entb Try.prog 62 := ⟨Try.f62, by kernel_rfl, by kernel_rfl, by kernel_rfl⟩
theorem s_l12Ok_ok : CtrOk Try.prog 62 ⟨s_l12Ok_sig, s_l12Ok_f⟩ :=
  ctr_of (fn := Try.f62) (by kernel_rfl) (by kernel_rfl) (fun x : Ts s_l12Ok_sig.pc => s_l12Ok_E) (fun x => ⟨(fn_cons ⟨s_l1In_ok, s_l1In_ent⟩ fn_none), clo_none, wr_none⟩) (fun h => by cases h) follows_ (fun _ _ => trivial)
end FN
set_option linter.unusedVariables false
namespace FN
open Go Go.Proofs
/-! loop.example/firingnets/spec.GridNet -/
@[reducible] def s_GridNet_sig : Sig := { ps := [none, none], pc := [.int .i64, .int .i64], rs := [none], rc := [.row 3 .i64] }
noncomputable def s_GridNet_E : Env' := { fn := fun f => if f = 62 then some ⟨s_l12Ok_sig, s_l12Ok_f⟩ else none, ck := ckT, cuts := [(3, [0, 1, 5, 6]), (8, [0, 1, 5, 6, 7]), (10, [0, 1, 5, 6, 7]), (12, [0, 1, 5, 6, 7])], mine := fun i => false }
noncomputable def s_GridNet_f (x : Ts s_GridNet_sig.pc) : Option (Ts s_GridNet_sig.rc) := runFn Try.prog (s_GridNet_E) Try.f44 s_GridNet_sig x
noncomputable def s_GridNet_l0 (y0 : Int) (y1 : Int) (y2 : Int) (y3 : List (Int)) : Option ((List (Int))) := from_ Try.prog (s_GridNet_E) Try.f44 s_GridNet_sig [1, 1, 0, 1, 0] ⟨mkT 67 [(0, .int .i64 y0), (1, .int .i64 y1), (5, .own 0), (6, .int .i64 y2)], [some (.arr 3 true .i64 y3)]⟩
noncomputable def s_GridNet_j1 (y0 : Int) (y1 : Int) (y2 : Int) (y3 : Int) (y4 : List (Int)) : Option ((List (Int))) := from_ Try.prog (s_GridNet_E) Try.f44 s_GridNet_sig [1, 1, 0, 1, 0, 0, 1, 0, 0, 1, 1] ⟨mkT 67 [(0, .int .i64 y0), (1, .int .i64 y1), (5, .own 0), (6, .int .i64 y2), (7, .int .i64 y3)], [some (.arr 3 true .i64 y4)]⟩
noncomputable def s_GridNet_j2 (y0 : Int) (y1 : Int) (y2 : Int) (y3 : Int) (y4 : List (Int)) : Option ((List (Int))) := from_ Try.prog (s_GridNet_E) Try.f44 s_GridNet_sig [1, 1, 0, 1, 0, 0, 1, 0, 0, 1, 1, 1] ⟨mkT 67 [(0, .int .i64 y0), (1, .int .i64 y1), (5, .own 0), (6, .int .i64 y2), (7, .int .i64 y3)], [some (.arr 3 true .i64 y4)]⟩
noncomputable def s_GridNet_j3 (y0 : Int) (y1 : Int) (y2 : Int) (y3 : Int) (y4 : List (Int)) : Option ((List (Int))) := from_ Try.prog (s_GridNet_E) Try.f44 s_GridNet_sig [1, 1, 0, 1, 0, 0, 1, 0, 0, 1, 1, 1, 1] ⟨mkT 67 [(0, .int .i64 y0), (1, .int .i64 y1), (5, .own 0), (6, .int .i64 y2), (7, .int .i64 y3)], [some (.arr 3 true .i64 y4)]⟩
theorem s_GridNet_f_eq (x0 : (Int)) (x1 : (Int)) : s_GridNet_f (x0, x1) = (s_GridNet_l0 x0 x1 0 ([] : List (Int))) := by
  kernel_rfl
theorem s_GridNet_l0_eq (y0 : Int) (y1 : Int) (y2 : Int) (y3 : List (Int)) : s_GridNet_l0 y0 y1 y2 y3 = (Option.bind (s_l12Ok_f (y0, y1)) fun r1 => (cond (r1) (cond ((decide (y2 < (IntKind.i64.wrap (y0 * y1))))) (if y1 = 0 then none else (cond ((decide (0 < (Int.tmod y2 y1)))) (if (IntKind.i64.wrap (y2 - 1)) < 0 then none else (s_GridNet_j1 y0 y1 y2 (Go.bits .or IntKind.i64 0 (IntKind.i64.wrap (1 * 2 ^ min ((IntKind.i64.wrap (y2 - 1)) : Int).toNat IntKind.i64.bits))) y3)) (s_GridNet_j1 y0 y1 y2 0 y3))) (some y3)) (some y3))) := by
  refine (loopK_eq Try.prog (s_GridNet_E) (sub (Try.f44.body.getD .skip) [1, 1, 0, 1, 0, 0]) _ _).trans ?_
  kernel_rfl
theorem s_GridNet_j1_eq (y0 : Int) (y1 : Int) (y2 : Int) (y3 : Int) (y4 : List (Int)) : s_GridNet_j1 y0 y1 y2 y3 y4 = (if y1 = 0 then none else (cond ((decide ((Int.tmod y2 y1) < (IntKind.i64.wrap (y1 - 1))))) (if (IntKind.i64.wrap (y2 + 1)) < 0 then none else (s_GridNet_j2 y0 y1 y2 (Go.bits .or IntKind.i64 y3 (IntKind.i64.wrap (1 * 2 ^ min ((IntKind.i64.wrap (y2 + 1)) : Int).toNat IntKind.i64.bits))) y4)) (s_GridNet_j2 y0 y1 y2 y3 y4))) := by
  kernel_rfl
theorem s_GridNet_j2_eq (y0 : Int) (y1 : Int) (y2 : Int) (y3 : Int) (y4 : List (Int)) : s_GridNet_j2 y0 y1 y2 y3 y4 = (cond ((decide (y1 ≤ y2))) (if (IntKind.i64.wrap (y2 - y1)) < 0 then none else (s_GridNet_j3 y0 y1 y2 (Go.bits .or IntKind.i64 y3 (IntKind.i64.wrap (1 * 2 ^ min ((IntKind.i64.wrap (y2 - y1)) : Int).toNat IntKind.i64.bits))) y4)) (s_GridNet_j3 y0 y1 y2 y3 y4)) := by
  kernel_rfl
theorem s_GridNet_j3_eq (y0 : Int) (y1 : Int) (y2 : Int) (y3 : Int) (y4 : List (Int)) : s_GridNet_j3 y0 y1 y2 y3 y4 = (cond ((decide (y2 < (IntKind.i64.wrap ((IntKind.i64.wrap (y0 - 1)) * y1))))) (if (IntKind.i64.wrap (y2 + y1)) < 0 then none else (if (List.length y4 + List.length ([(Go.bits .or IntKind.i64 y3 (IntKind.i64.wrap (1 * 2 ^ min ((IntKind.i64.wrap (y2 + y1)) : Int).toNat IntKind.i64.bits)))] : List (Int))) * 8 ≤ 140737488355328 then (s_GridNet_l0 y0 y1 (IntKind.i64.wrap (y2 + 1)) (y4 ++ ([(Go.bits .or IntKind.i64 y3 (IntKind.i64.wrap (1 * 2 ^ min ((IntKind.i64.wrap (y2 + y1)) : Int).toNat IntKind.i64.bits)))] : List (Int)))) else none)) (if (List.length y4 + List.length ([y3] : List (Int))) * 8 ≤ 140737488355328 then (s_GridNet_l0 y0 y1 (IntKind.i64.wrap (y2 + 1)) (y4 ++ ([y3] : List (Int)))) else none)) := by
  kernel_rfl
mutual
def s_GridNet_l0_c : Nat → (Int) → (Int) → (Int) → (List (Int)) → Option ((List (Int)))
  | 0, _, _, _, _ => none
  | n + 1, y0, y1, y2, y3 => (Option.bind (s_l12Ok_f_c n (y0, y1)) fun r1 => (cond (r1) (cond ((decide (y2 < (IntKind.i64.wrap (y0 * y1))))) (if y1 = 0 then none else (cond ((decide (0 < (Int.tmod y2 y1)))) (if (IntKind.i64.wrap (y2 - 1)) < 0 then none else (s_GridNet_j1_c n y0 y1 y2 (Go.bits .or IntKind.i64 0 (IntKind.i64.wrap (1 * 2 ^ min ((IntKind.i64.wrap (y2 - 1)) : Int).toNat IntKind.i64.bits))) y3)) (s_GridNet_j1_c n y0 y1 y2 0 y3))) (some y3)) (some y3)))
def s_GridNet_j1_c : Nat → (Int) → (Int) → (Int) → (Int) → (List (Int)) → Option ((List (Int)))
  | 0, _, _, _, _, _ => none
  | n + 1, y0, y1, y2, y3, y4 => (if y1 = 0 then none else (cond ((decide ((Int.tmod y2 y1) < (IntKind.i64.wrap (y1 - 1))))) (if (IntKind.i64.wrap (y2 + 1)) < 0 then none else (s_GridNet_j2_c n y0 y1 y2 (Go.bits .or IntKind.i64 y3 (IntKind.i64.wrap (1 * 2 ^ min ((IntKind.i64.wrap (y2 + 1)) : Int).toNat IntKind.i64.bits))) y4)) (s_GridNet_j2_c n y0 y1 y2 y3 y4)))
def s_GridNet_j2_c : Nat → (Int) → (Int) → (Int) → (Int) → (List (Int)) → Option ((List (Int)))
  | 0, _, _, _, _, _ => none
  | n + 1, y0, y1, y2, y3, y4 => (cond ((decide (y1 ≤ y2))) (if (IntKind.i64.wrap (y2 - y1)) < 0 then none else (s_GridNet_j3_c n y0 y1 y2 (Go.bits .or IntKind.i64 y3 (IntKind.i64.wrap (1 * 2 ^ min ((IntKind.i64.wrap (y2 - y1)) : Int).toNat IntKind.i64.bits))) y4)) (s_GridNet_j3_c n y0 y1 y2 y3 y4))
def s_GridNet_j3_c : Nat → (Int) → (Int) → (Int) → (Int) → (List (Int)) → Option ((List (Int)))
  | 0, _, _, _, _, _ => none
  | n + 1, y0, y1, y2, y3, y4 => (cond ((decide (y2 < (IntKind.i64.wrap ((IntKind.i64.wrap (y0 - 1)) * y1))))) (if (IntKind.i64.wrap (y2 + y1)) < 0 then none else (if (List.length y4 + List.length ([(Go.bits .or IntKind.i64 y3 (IntKind.i64.wrap (1 * 2 ^ min ((IntKind.i64.wrap (y2 + y1)) : Int).toNat IntKind.i64.bits)))] : List (Int))) * 8 ≤ 140737488355328 then (s_GridNet_l0_c n y0 y1 (IntKind.i64.wrap (y2 + 1)) (y4 ++ ([(Go.bits .or IntKind.i64 y3 (IntKind.i64.wrap (1 * 2 ^ min ((IntKind.i64.wrap (y2 + y1)) : Int).toNat IntKind.i64.bits)))] : List (Int)))) else none)) (if (List.length y4 + List.length ([y3] : List (Int))) * 8 ≤ 140737488355328 then (s_GridNet_l0_c n y0 y1 (IntKind.i64.wrap (y2 + 1)) (y4 ++ ([y3] : List (Int)))) else none))
end
def s_GridNet_f_c (n : Nat) : ((Int)) × ((Int)) → Option ((List (Int)))
  | (x0, x1) => (s_GridNet_l0_c n x0 x1 0 ([] : List (Int)))
mutual
theorem s_GridNet_l0_c_le : (n : Nat) → (y0 : Int) → (y1 : Int) → (y2 : Int) → (y3 : List (Int)) → OLe (s_GridNet_l0_c n y0 y1 y2 y3) (s_GridNet_l0 y0 y1 y2 y3)
  | 0, _, _, _, _ => OLe.none _
  | n + 1, y0, y1, y2, y3 => by
    rw [s_GridNet_l0_c, s_GridNet_l0_eq]
    repeat' first | with_reducible exact OLe.refl _ | with_reducible exact OLe.none _ | with_reducible apply s_l12Ok_f_c_le | with_reducible apply s_GridNet_l0_c_le | with_reducible apply s_GridNet_j1_c_le | with_reducible apply s_GridNet_j2_c_le | with_reducible apply s_GridNet_j3_c_le | with_reducible refine OLe.cond ?_ ?_ | with_reducible refine OLe.ite ?_ ?_ | with_reducible refine OLe.bind ?_ ?_ | intro _
theorem s_GridNet_j1_c_le : (n : Nat) → (y0 : Int) → (y1 : Int) → (y2 : Int) → (y3 : Int) → (y4 : List (Int)) → OLe (s_GridNet_j1_c n y0 y1 y2 y3 y4) (s_GridNet_j1 y0 y1 y2 y3 y4)
  | 0, _, _, _, _, _ => OLe.none _
  | n + 1, y0, y1, y2, y3, y4 => by
    rw [s_GridNet_j1_c, s_GridNet_j1_eq]
    repeat' first | with_reducible exact OLe.refl _ | with_reducible exact OLe.none _ | with_reducible apply s_l12Ok_f_c_le | with_reducible apply s_GridNet_l0_c_le | with_reducible apply s_GridNet_j1_c_le | with_reducible apply s_GridNet_j2_c_le | with_reducible apply s_GridNet_j3_c_le | with_reducible refine OLe.cond ?_ ?_ | with_reducible refine OLe.ite ?_ ?_ | with_reducible refine OLe.bind ?_ ?_ | intro _
theorem s_GridNet_j2_c_le : (n : Nat) → (y0 : Int) → (y1 : Int) → (y2 : Int) → (y3 : Int) → (y4 : List (Int)) → OLe (s_GridNet_j2_c n y0 y1 y2 y3 y4) (s_GridNet_j2 y0 y1 y2 y3 y4)
  | 0, _, _, _, _, _ => OLe.none _
  | n + 1, y0, y1, y2, y3, y4 => by
    rw [s_GridNet_j2_c, s_GridNet_j2_eq]
    repeat' first | with_reducible exact OLe.refl _ | with_reducible exact OLe.none _ | with_reducible apply s_l12Ok_f_c_le | with_reducible apply s_GridNet_l0_c_le | with_reducible apply s_GridNet_j1_c_le | with_reducible apply s_GridNet_j2_c_le | with_reducible apply s_GridNet_j3_c_le | with_reducible refine OLe.cond ?_ ?_ | with_reducible refine OLe.ite ?_ ?_ | with_reducible refine OLe.bind ?_ ?_ | intro _
theorem s_GridNet_j3_c_le : (n : Nat) → (y0 : Int) → (y1 : Int) → (y2 : Int) → (y3 : Int) → (y4 : List (Int)) → OLe (s_GridNet_j3_c n y0 y1 y2 y3 y4) (s_GridNet_j3 y0 y1 y2 y3 y4)
  | 0, _, _, _, _, _ => OLe.none _
  | n + 1, y0, y1, y2, y3, y4 => by
    rw [s_GridNet_j3_c, s_GridNet_j3_eq]
    repeat' first | with_reducible exact OLe.refl _ | with_reducible exact OLe.none _ | with_reducible apply s_l12Ok_f_c_le | with_reducible apply s_GridNet_l0_c_le | with_reducible apply s_GridNet_j1_c_le | with_reducible apply s_GridNet_j2_c_le | with_reducible apply s_GridNet_j3_c_le | with_reducible refine OLe.cond ?_ ?_ | with_reducible refine OLe.ite ?_ ?_ | with_reducible refine OLe.bind ?_ ?_ | intro _
end
theorem s_GridNet_f_c_le (n : Nat) (x : Ts s_GridNet_sig.pc) : OLe (s_GridNet_f_c n x) (s_GridNet_f x) := by
  obtain ⟨x0, x1⟩ := x
  rw [s_GridNet_f_c, s_GridNet_f_eq]
  repeat' first | with_reducible exact OLe.refl _ | with_reducible exact OLe.none _ | with_reducible apply s_l12Ok_f_c_le | with_reducible apply s_GridNet_l0_c_le | with_reducible apply s_GridNet_j1_c_le | with_reducible apply s_GridNet_j2_c_le | with_reducible apply s_GridNet_j3_c_le | with_reducible refine OLe.cond ?_ ?_ | with_reducible refine OLe.ite ?_ ?_ | with_reducible refine OLe.bind ?_ ?_ | intro _
theorem s_GridNet_ent : Entb Try.prog 44 := ⟨Try.f44, by kernel_rfl, by kernel_rfl, by kernel_rfl⟩
theorem s_GridNet_ok : CtrOk Try.prog 44 ⟨s_GridNet_sig, s_GridNet_f⟩ :=
  ctr_of (fn := Try.f44) (by kernel_rfl) (by kernel_rfl) (fun x : Ts s_GridNet_sig.pc => s_GridNet_E) (fun x => ⟨(fn_cons ⟨s_l12Ok_ok, s_l12Ok_ent⟩ fn_none), clo_none, wr_none⟩) (fun h => by cases h) follows_ (fun _ _ => trivial)
end FN
set_option linter.unusedVariables false
namespace FN
open Go Go.Proofs
/-! loop.example/firingnets/spec.SquareTours -/
@[reducible] def s_SquareTours_sig : Sig := { ps := [none, none], pc := [.int .i64, .int .i64], rs := [none], rc := [.row 22 .intss] }
noncomputable def s_SquareTours_E : Env' := { fn := fun f => if f = 62 then some ⟨s_l12Ok_sig, s_l12Ok_f⟩ else none, ck := ckT, cuts := [(3, [0, 1, 5, 6])], mine := fun i => false }
noncomputable def s_SquareTours_f (x : Ts s_SquareTours_sig.pc) : Option (Ts s_SquareTours_sig.rc) := runFn Try.prog (s_SquareTours_E) Try.f45 s_SquareTours_sig x
noncomputable def s_SquareTours_l0 (y0 : Int) (y1 : Int) (y2 : Int) (y3 : List (List Int)) : Option ((List (List Int))) := from_ Try.prog (s_SquareTours_E) Try.f45 s_SquareTours_sig [1, 1, 0, 1, 0] ⟨mkT 50 [(0, .int .i64 y0), (1, .int .i64 y1), (5, .own 0), (6, .int .i64 y2)], [some (.arr 22 true .intss y3)]⟩
theorem s_SquareTours_f_eq (x0 : (Int)) (x1 : (Int)) : s_SquareTours_f (x0, x1) = (s_SquareTours_l0 x0 x1 0 ([] : List (List Int))) := by
  kernel_rfl
theorem s_SquareTours_l0_eq (y0 : Int) (y1 : Int) (y2 : Int) (y3 : List (List Int)) : s_SquareTours_l0 y0 y1 y2 y3 = (Option.bind (s_l12Ok_f (y0, y1)) fun r1 => (cond (r1) (cond ((decide (y2 < (IntKind.i64.wrap (y0 * y1))))) (if y1 = 0 then none else (cond ((decide ((Int.tmod y2 y1) < (IntKind.i64.wrap (y1 - 1))))) (cond ((decide (y2 < (IntKind.i64.wrap ((IntKind.i64.wrap (y0 - 1)) * y1))))) (if (List.length y3 + List.length ([([y2, (IntKind.i64.wrap (y2 + 1)), (IntKind.i64.wrap ((IntKind.i64.wrap (y2 + y1)) + 1)), (IntKind.i64.wrap (y2 + y1)), y2] : List (Int))] : List (List Int))) * 24 ≤ 140737488355328 then (s_SquareTours_l0 y0 y1 (IntKind.i64.wrap (y2 + 1)) (y3 ++ ([([y2, (IntKind.i64.wrap (y2 + 1)), (IntKind.i64.wrap ((IntKind.i64.wrap (y2 + y1)) + 1)), (IntKind.i64.wrap (y2 + y1)), y2] : List (Int))] : List (List Int)))) else none) (s_SquareTours_l0 y0 y1 (IntKind.i64.wrap (y2 + 1)) y3)) (s_SquareTours_l0 y0 y1 (IntKind.i64.wrap (y2 + 1)) y3))) (some y3)) (some y3))) := by
  refine (loopK_eq Try.prog (s_SquareTours_E) (sub (Try.f45.body.getD .skip) [1, 1, 0, 1, 0, 0]) _ _).trans ?_
  kernel_rfl
mutual
def s_SquareTours_l0_c : Nat → (Int) → (Int) → (Int) → (List (List Int)) → Option ((List (List Int)))
  | 0, _, _, _, _ => none
  | n + 1, y0, y1, y2, y3 => (Option.bind (s_l12Ok_f_c n (y0, y1)) fun r1 => (cond (r1) (cond ((decide (y2 < (IntKind.i64.wrap (y0 * y1))))) (if y1 = 0 then none else (cond ((decide ((Int.tmod y2 y1) < (IntKind.i64.wrap (y1 - 1))))) (cond ((decide (y2 < (IntKind.i64.wrap ((IntKind.i64.wrap (y0 - 1)) * y1))))) (if (List.length y3 + List.length ([([y2, (IntKind.i64.wrap (y2 + 1)), (IntKind.i64.wrap ((IntKind.i64.wrap (y2 + y1)) + 1)), (IntKind.i64.wrap (y2 + y1)), y2] : List (Int))] : List (List Int))) * 24 ≤ 140737488355328 then (s_SquareTours_l0_c n y0 y1 (IntKind.i64.wrap (y2 + 1)) (y3 ++ ([([y2, (IntKind.i64.wrap (y2 + 1)), (IntKind.i64.wrap ((IntKind.i64.wrap (y2 + y1)) + 1)), (IntKind.i64.wrap (y2 + y1)), y2] : List (Int))] : List (List Int)))) else none) (s_SquareTours_l0_c n y0 y1 (IntKind.i64.wrap (y2 + 1)) y3)) (s_SquareTours_l0_c n y0 y1 (IntKind.i64.wrap (y2 + 1)) y3))) (some y3)) (some y3)))
end
def s_SquareTours_f_c (n : Nat) : ((Int)) × ((Int)) → Option ((List (List Int)))
  | (x0, x1) => (s_SquareTours_l0_c n x0 x1 0 ([] : List (List Int)))
mutual
theorem s_SquareTours_l0_c_le : (n : Nat) → (y0 : Int) → (y1 : Int) → (y2 : Int) → (y3 : List (List Int)) → OLe (s_SquareTours_l0_c n y0 y1 y2 y3) (s_SquareTours_l0 y0 y1 y2 y3)
  | 0, _, _, _, _ => OLe.none _
  | n + 1, y0, y1, y2, y3 => by
    rw [s_SquareTours_l0_c, s_SquareTours_l0_eq]
    repeat' first | with_reducible exact OLe.refl _ | with_reducible exact OLe.none _ | with_reducible apply s_l12Ok_f_c_le | with_reducible apply s_SquareTours_l0_c_le | with_reducible refine OLe.cond ?_ ?_ | with_reducible refine OLe.ite ?_ ?_ | with_reducible refine OLe.bind ?_ ?_ | intro _
end
theorem s_SquareTours_f_c_le (n : Nat) (x : Ts s_SquareTours_sig.pc) : OLe (s_SquareTours_f_c n x) (s_SquareTours_f x) := by
  obtain ⟨x0, x1⟩ := x
  rw [s_SquareTours_f_c, s_SquareTours_f_eq]
  repeat' first | with_reducible exact OLe.refl _ | with_reducible exact OLe.none _ | with_reducible apply s_l12Ok_f_c_le | with_reducible apply s_SquareTours_l0_c_le | with_reducible refine OLe.cond ?_ ?_ | with_reducible refine OLe.ite ?_ ?_ | with_reducible refine OLe.bind ?_ ?_ | intro _
theorem s_SquareTours_ent : Entb Try.prog 45 := ⟨Try.f45, by kernel_rfl, by kernel_rfl, by kernel_rfl⟩
theorem s_SquareTours_ok : CtrOk Try.prog 45 ⟨s_SquareTours_sig, s_SquareTours_f⟩ :=
  ctr_of (fn := Try.f45) (by kernel_rfl) (by kernel_rfl) (fun x : Ts s_SquareTours_sig.pc => s_SquareTours_E) (fun x => ⟨(fn_cons ⟨s_l12Ok_ok, s_l12Ok_ent⟩ fn_none), clo_none, wr_none⟩) (fun h => by cases h) follows_ (fun _ _ => trivial)
end FN
set_option linter.unusedVariables false
namespace FN
open Go Go.Proofs
/-! loop.example/firingnets/spec.NetOk -/
@[reducible] def s_NetOk_sig : Sig := { ps := [none], pc := [.view .i64], rs := [none], rc := [.bool] }
noncomputable def s_NetOk_E : Env' := { fn := fun f => if f = 73 then some ⟨s_l1In_sig, s_l1In_f⟩ else none, ck := ckT, cuts := [(4, [0, 3]), (8, [0]), (9, [0, 4]), (12, [0, 4, 5])], mine := fun i => false }
noncomputable def s_NetOk_f (x : Ts s_NetOk_sig.pc) : Option (Ts s_NetOk_sig.rc) := runFn Try.prog (s_NetOk_E) Try.f63 s_NetOk_sig x
noncomputable def s_NetOk_l0 (y0 : List (Int)) (y1 : Int) : Option ((Bool)) := from_ Try.prog (s_NetOk_E) Try.f63 s_NetOk_sig [1, 1, 0, 1, 0] ⟨mkT 68 [(0, .row false .i64 y0), (3, .int .i64 y1)], []⟩
noncomputable def s_NetOk_j1 (y0 : List (Int)) : Option ((Bool)) := from_ Try.prog (s_NetOk_E) Try.f63 s_NetOk_sig [1, 1, 1] ⟨mkT 68 [(0, .row false .i64 y0)], []⟩
noncomputable def s_NetOk_l2 (y0 : List (Int)) (y1 : Int) : Option ((Bool)) := from_ Try.prog (s_NetOk_E) Try.f63 s_NetOk_sig [1, 1, 1, 0, 1, 0] ⟨mkT 68 [(0, .row false .i64 y0), (4, .int .i64 y1)], []⟩
noncomputable def s_NetOk_l3 (y0 : List (Int)) (y1 : Int) (y2 : Int) : Option ((Bool)) := from_ Try.prog (s_NetOk_E) Try.f63 s_NetOk_sig [1, 1, 1, 0, 1, 0, 0, 1, 0, 0, 1, 0] ⟨mkT 68 [(0, .row false .i64 y0), (4, .int .i64 y1), (5, .int .i64 y2)], []⟩
theorem s_NetOk_f_eq (x0 : (List (Int))) : s_NetOk_f x0 = (Option.bind (s_l1In_f ((List.length x0 : Int), 1, 6)) fun r1 => (cond ((!r1)) (some false) (s_NetOk_l0 x0 0))) := by
  kernel_rfl
theorem s_NetOk_l0_eq (y0 : List (Int)) (y1 : Int) : s_NetOk_l0 y0 y1 = (cond ((decide (y1 < (List.length y0 : Int)))) (if (0 : Int) ≤ y1 ∧ y1 < (List.length y0 : Int) then (if (List.length y0 : Int) < 0 then none else (Option.bind (s_l1In_f ((List.getD y0 (y1 : Int).toNat 0), 0, (IntKind.i64.wrap ((IntKind.i64.wrap (1 * 2 ^ min ((List.length y0 : Int) : Int).toNat IntKind.i64.bits)) - 1)))) fun r1 => (cond ((!r1)) (some false) (s_NetOk_l0 y0 (IntKind.i64.wrap (y1 + 1)))))) else none) (s_NetOk_j1 y0)) := by
  refine (loopK_eq Try.prog (s_NetOk_E) (sub (Try.f63.body.getD .skip) [1, 1, 0, 1, 0, 0]) _ _).trans ?_
  kernel_rfl
theorem s_NetOk_j1_eq (y0 : List (Int)) : s_NetOk_j1 y0 = (s_NetOk_l2 y0 0) := by
  kernel_rfl
theorem s_NetOk_l2_eq (y0 : List (Int)) (y1 : Int) : s_NetOk_l2 y0 y1 = (cond ((decide (y1 < (List.length y0 : Int)))) (s_NetOk_l3 y0 y1 0) (some true)) := by
  refine (loopK_eq Try.prog (s_NetOk_E) (sub (Try.f63.body.getD .skip) [1, 1, 1, 0, 1, 0, 0]) _ _).trans ?_
  kernel_rfl
theorem s_NetOk_l3_eq (y0 : List (Int)) (y1 : Int) (y2 : Int) : s_NetOk_l3 y0 y1 y2 = (cond ((decide (y2 < (List.length y0 : Int)))) (if (0 : Int) ≤ y1 ∧ y1 < (List.length y0 : Int) then (if y2 < 0 then none else (if (0 : Int) ≤ y2 ∧ y2 < (List.length y0 : Int) then (if y1 < 0 then none else (cond (((Int.tmod (Int.fdiv (List.getD y0 (y1 : Int).toNat 0) (2 ^ min (y2 : Int).toNat IntKind.i64.bits)) 2) != (Int.tmod (Int.fdiv (List.getD y0 (y2 : Int).toNat 0) (2 ^ min (y1 : Int).toNat IntKind.i64.bits)) 2))) (some false) (cond ((y2 == y1)) (if (0 : Int) ≤ y1 ∧ y1 < (List.length y0 : Int) then (if y2 < 0 then none else (cond (((Int.tmod (Int.fdiv (List.getD y0 (y1 : Int).toNat 0) (2 ^ min (y2 : Int).toNat IntKind.i64.bits)) 2) == 1)) (some false) (s_NetOk_l3 y0 y1 (IntKind.i64.wrap (y2 + 1))))) else none) (s_NetOk_l3 y0 y1 (IntKind.i64.wrap (y2 + 1)))))) else none)) else none) (s_NetOk_l2 y0 (IntKind.i64.wrap (y1 + 1)))) := by
  refine (loopK_eq Try.prog (s_NetOk_E) (sub (Try.f63.body.getD .skip) [1, 1, 1, 0, 1, 0, 0, 1, 0, 0, 1, 0, 0]) _ _).trans ?_
  kernel_rfl
mutual
def s_NetOk_l0_c : Nat → (List (Int)) → (Int) → Option ((Bool))
  | 0, _, _ => none
  | n + 1, y0, y1 => (cond ((decide (y1 < (List.length y0 : Int)))) (if (0 : Int) ≤ y1 ∧ y1 < (List.length y0 : Int) then (if (List.length y0 : Int) < 0 then none else (Option.bind (s_l1In_f_c n ((List.getD y0 (y1 : Int).toNat 0), 0, (IntKind.i64.wrap ((IntKind.i64.wrap (1 * 2 ^ min ((List.length y0 : Int) : Int).toNat IntKind.i64.bits)) - 1)))) fun r1 => (cond ((!r1)) (some false) (s_NetOk_l0_c n y0 (IntKind.i64.wrap (y1 + 1)))))) else none) (s_NetOk_j1_c n y0))
def s_NetOk_j1_c : Nat → (List (Int)) → Option ((Bool))
  | 0, _ => none
  | n + 1, y0 => (s_NetOk_l2_c n y0 0)
def s_NetOk_l2_c : Nat → (List (Int)) → (Int) → Option ((Bool))
  | 0, _, _ => none
  | n + 1, y0, y1 => (cond ((decide (y1 < (List.length y0 : Int)))) (s_NetOk_l3_c n y0 y1 0) (some true))
def s_NetOk_l3_c : Nat → (List (Int)) → (Int) → (Int) → Option ((Bool))
  | 0, _, _, _ => none
  | n + 1, y0, y1, y2 => (cond ((decide (y2 < (List.length y0 : Int)))) (if (0 : Int) ≤ y1 ∧ y1 < (List.length y0 : Int) then (if y2 < 0 then none else (if (0 : Int) ≤ y2 ∧ y2 < (List.length y0 : Int) then (if y1 < 0 then none else (cond (((Int.tmod (Int.fdiv (List.getD y0 (y1 : Int).toNat 0) (2 ^ min (y2 : Int).toNat IntKind.i64.bits)) 2) != (Int.tmod (Int.fdiv (List.getD y0 (y2 : Int).toNat 0) (2 ^ min (y1 : Int).toNat IntKind.i64.bits)) 2))) (some false) (cond ((y2 == y1)) (if (0 : Int) ≤ y1 ∧ y1 < (List.length y0 : Int) then (if y2 < 0 then none else (cond (((Int.tmod (Int.fdiv (List.getD y0 (y1 : Int).toNat 0) (2 ^ min (y2 : Int).toNat IntKind.i64.bits)) 2) == 1)) (some false) (s_NetOk_l3_c n y0 y1 (IntKind.i64.wrap (y2 + 1))))) else none) (s_NetOk_l3_c n y0 y1 (IntKind.i64.wrap (y2 + 1)))))) else none)) else none) (s_NetOk_l2_c n y0 (IntKind.i64.wrap (y1 + 1))))
end
def s_NetOk_f_c (n : Nat) : ((List (Int))) → Option ((Bool))
  | x0 => (Option.bind (s_l1In_f_c n ((List.length x0 : Int), 1, 6)) fun r1 => (cond ((!r1)) (some false) (s_NetOk_l0_c n x0 0)))
mutual
theorem s_NetOk_l0_c_le : (n : Nat) → (y0 : List (Int)) → (y1 : Int) → OLe (s_NetOk_l0_c n y0 y1) (s_NetOk_l0 y0 y1)
  | 0, _, _ => OLe.none _
  | n + 1, y0, y1 => by
    rw [s_NetOk_l0_c, s_NetOk_l0_eq]
    repeat' first | with_reducible exact OLe.refl _ | with_reducible exact OLe.none _ | with_reducible apply s_l1In_f_c_le | with_reducible apply s_NetOk_l0_c_le | with_reducible apply s_NetOk_j1_c_le | with_reducible apply s_NetOk_l2_c_le | with_reducible apply s_NetOk_l3_c_le | with_reducible refine OLe.cond ?_ ?_ | with_reducible refine OLe.ite ?_ ?_ | with_reducible refine OLe.bind ?_ ?_ | intro _
theorem s_NetOk_j1_c_le : (n : Nat) → (y0 : List (Int)) → OLe (s_NetOk_j1_c n y0) (s_NetOk_j1 y0)
  | 0, _ => OLe.none _
  | n + 1, y0 => by
    rw [s_NetOk_j1_c, s_NetOk_j1_eq]
    repeat' first | with_reducible exact OLe.refl _ | with_reducible exact OLe.none _ | with_reducible apply s_l1In_f_c_le | with_reducible apply s_NetOk_l0_c_le | with_reducible apply s_NetOk_j1_c_le | with_reducible apply s_NetOk_l2_c_le | with_reducible apply s_NetOk_l3_c_le | with_reducible refine OLe.cond ?_ ?_ | with_reducible refine OLe.ite ?_ ?_ | with_reducible refine OLe.bind ?_ ?_ | intro _
theorem s_NetOk_l2_c_le : (n : Nat) → (y0 : List (Int)) → (y1 : Int) → OLe (s_NetOk_l2_c n y0 y1) (s_NetOk_l2 y0 y1)
  | 0, _, _ => OLe.none _
  | n + 1, y0, y1 => by
    rw [s_NetOk_l2_c, s_NetOk_l2_eq]
    repeat' first | with_reducible exact OLe.refl _ | with_reducible exact OLe.none _ | with_reducible apply s_l1In_f_c_le | with_reducible apply s_NetOk_l0_c_le | with_reducible apply s_NetOk_j1_c_le | with_reducible apply s_NetOk_l2_c_le | with_reducible apply s_NetOk_l3_c_le | with_reducible refine OLe.cond ?_ ?_ | with_reducible refine OLe.ite ?_ ?_ | with_reducible refine OLe.bind ?_ ?_ | intro _
theorem s_NetOk_l3_c_le : (n : Nat) → (y0 : List (Int)) → (y1 : Int) → (y2 : Int) → OLe (s_NetOk_l3_c n y0 y1 y2) (s_NetOk_l3 y0 y1 y2)
  | 0, _, _, _ => OLe.none _
  | n + 1, y0, y1, y2 => by
    rw [s_NetOk_l3_c, s_NetOk_l3_eq]
    repeat' first | with_reducible exact OLe.refl _ | with_reducible exact OLe.none _ | with_reducible apply s_l1In_f_c_le | with_reducible apply s_NetOk_l0_c_le | with_reducible apply s_NetOk_j1_c_le | with_reducible apply s_NetOk_l2_c_le | with_reducible apply s_NetOk_l3_c_le | with_reducible refine OLe.cond ?_ ?_ | with_reducible refine OLe.ite ?_ ?_ | with_reducible refine OLe.bind ?_ ?_ | intro _
end
theorem s_NetOk_f_c_le (n : Nat) (x : Ts s_NetOk_sig.pc) : OLe (s_NetOk_f_c n x) (s_NetOk_f x) := by
  rw [s_NetOk_f_c, s_NetOk_f_eq]
  repeat' first | with_reducible exact OLe.refl _ | with_reducible exact OLe.none _ | with_reducible apply s_l1In_f_c_le | with_reducible apply s_NetOk_l0_c_le | with_reducible apply s_NetOk_j1_c_le | with_reducible apply s_NetOk_l2_c_le | with_reducible apply s_NetOk_l3_c_le | with_reducible refine OLe.cond ?_ ?_ | with_reducible refine OLe.ite ?_ ?_ | with_reducible refine OLe.bind ?_ ?_ | intro _
theorem s_NetOk_ent : Entb Try.prog 63 := ⟨Try.f63, by kernel_rfl, by kernel_rfl, by kernel_rfl⟩
theorem s_NetOk_ok : CtrOk Try.prog 63 ⟨s_NetOk_sig, s_NetOk_f⟩ :=
  ctr_of (fn := Try.f63) (by kernel_rfl) (by kernel_rfl) (fun x : Ts s_NetOk_sig.pc => s_NetOk_E) (fun x => ⟨(fn_cons ⟨s_l1In_ok, s_l1In_ent⟩ fn_none), clo_none, wr_none⟩) (fun h => by cases h) follows_ (fun _ _ => trivial)
end FN
set_option linter.unusedVariables false
namespace FN
open Go Go.Proofs
/-! loop.example/firingnets/spec.TourOk -/
@[reducible] def s_TourOk_sig : Sig := { ps := [none, none], pc := [.view .i64, .view .i64], rs := [none], rc := [.bool] }
noncomputable def s_TourOk_E : Env' := { fn := fun f => if f = 63 then some ⟨s_NetOk_sig, s_NetOk_f⟩ else if f = 73 then some ⟨s_l1In_sig, s_l1In_f⟩ else none, ck := ckT, cuts := [(4, [0, 1, 5])], mine := fun i => false }
noncomputable def s_TourOk_f (x : Ts s_TourOk_sig.pc) : Option (Ts s_TourOk_sig.rc) := runFn Try.prog (s_TourOk_E) Try.f74 s_TourOk_sig x
noncomputable def s_TourOk_l0 (y0 : List (Int)) (y1 : List (Int)) (y2 : Int) : Option ((Bool)) := from_ Try.prog (s_TourOk_E) Try.f74 s_TourOk_sig [1, 1, 0, 1, 0] ⟨mkT 51 [(0, .row false .i64 y0), (1, .row false .i64 y1), (5, .int .i64 y2)], []⟩
theorem s_TourOk_f_eq (x0 : (List (Int))) (x1 : (List (Int))) : s_TourOk_f (x0, x1) = (Option.bind (s_NetOk_f x0) fun r1 => (cond ((!r1)) (some false) (Option.bind (s_l1In_f ((List.length x1 : Int), 1, 12)) fun r2 => (cond ((!r2)) (some false) (s_TourOk_l0 x0 x1 0))))) := by
  kernel_rfl
theorem s_TourOk_l0_eq (y0 : List (Int)) (y1 : List (Int)) (y2 : Int) : s_TourOk_l0 y0 y1 y2 = (cond ((decide (y2 < (List.length y1 : Int)))) (if (0 : Int) ≤ y2 ∧ y2 < (List.length y1 : Int) then (Option.bind (s_l1In_f ((List.getD y1 (y2 : Int).toNat 0), 0, (IntKind.i64.wrap ((List.length y0 : Int) - 1)))) fun r1 => (cond ((!r1)) (some false) (cond ((decide (0 < y2))) (if (0 : Int) ≤ (IntKind.i64.wrap (y2 - 1)) ∧ (IntKind.i64.wrap (y2 - 1)) < (List.length y1 : Int) then (if (0 : Int) ≤ (List.getD y1 ((IntKind.i64.wrap (y2 - 1)) : Int).toNat 0) ∧ (List.getD y1 ((IntKind.i64.wrap (y2 - 1)) : Int).toNat 0) < (List.length y0 : Int) then (if (0 : Int) ≤ y2 ∧ y2 < (List.length y1 : Int) then (if (List.getD y1 (y2 : Int).toNat 0) < 0 then none else (cond (((Int.tmod (Int.fdiv (List.getD y0 ((List.getD y1 ((IntKind.i64.wrap (y2 - 1)) : Int).toNat 0) : Int).toNat 0) (2 ^ min ((List.getD y1 (y2 : Int).toNat 0) : Int).toNat IntKind.i64.bits)) 2) == 0)) (some false) (s_TourOk_l0 y0 y1 (IntKind.i64.wrap (y2 + 1))))) else none) else none) else none) (s_TourOk_l0 y0 y1 (IntKind.i64.wrap (y2 + 1)))))) else none) (some true)) := by
  refine (loopK_eq Try.prog (s_TourOk_E) (sub (Try.f74.body.getD .skip) [1, 1, 0, 1, 0, 0]) _ _).trans ?_
  kernel_rfl
mutual
def s_TourOk_l0_c : Nat → (List (Int)) → (List (Int)) → (Int) → Option ((Bool))
  | 0, _, _, _ => none
  | n + 1, y0, y1, y2 => (cond ((decide (y2 < (List.length y1 : Int)))) (if (0 : Int) ≤ y2 ∧ y2 < (List.length y1 : Int) then (Option.bind (s_l1In_f_c n ((List.getD y1 (y2 : Int).toNat 0), 0, (IntKind.i64.wrap ((List.length y0 : Int) - 1)))) fun r1 => (cond ((!r1)) (some false) (cond ((decide (0 < y2))) (if (0 : Int) ≤ (IntKind.i64.wrap (y2 - 1)) ∧ (IntKind.i64.wrap (y2 - 1)) < (List.length y1 : Int) then (if (0 : Int) ≤ (List.getD y1 ((IntKind.i64.wrap (y2 - 1)) : Int).toNat 0) ∧ (List.getD y1 ((IntKind.i64.wrap (y2 - 1)) : Int).toNat 0) < (List.length y0 : Int) then (if (0 : Int) ≤ y2 ∧ y2 < (List.length y1 : Int) then (if (List.getD y1 (y2 : Int).toNat 0) < 0 then none else (cond (((Int.tmod (Int.fdiv (List.getD y0 ((List.getD y1 ((IntKind.i64.wrap (y2 - 1)) : Int).toNat 0) : Int).toNat 0) (2 ^ min ((List.getD y1 (y2 : Int).toNat 0) : Int).toNat IntKind.i64.bits)) 2) == 0)) (some false) (s_TourOk_l0_c n y0 y1 (IntKind.i64.wrap (y2 + 1))))) else none) else none) else none) (s_TourOk_l0_c n y0 y1 (IntKind.i64.wrap (y2 + 1)))))) else none) (some true))
end
def s_TourOk_f_c (n : Nat) : ((List (Int))) × ((List (Int))) → Option ((Bool))
  | (x0, x1) => (Option.bind (s_NetOk_f_c n x0) fun r1 => (cond ((!r1)) (some false) (Option.bind (s_l1In_f_c n ((List.length x1 : Int), 1, 12)) fun r2 => (cond ((!r2)) (some false) (s_TourOk_l0_c n x0 x1 0)))))
mutual
theorem s_TourOk_l0_c_le : (n : Nat) → (y0 : List (Int)) → (y1 : List (Int)) → (y2 : Int) → OLe (s_TourOk_l0_c n y0 y1 y2) (s_TourOk_l0 y0 y1 y2)
  | 0, _, _, _ => OLe.none _
  | n + 1, y0, y1, y2 => by
    rw [s_TourOk_l0_c, s_TourOk_l0_eq]
    repeat' first | with_reducible exact OLe.refl _ | with_reducible exact OLe.none _ | with_reducible apply s_NetOk_f_c_le | with_reducible apply s_l1In_f_c_le | with_reducible apply s_TourOk_l0_c_le | with_reducible refine OLe.cond ?_ ?_ | with_reducible refine OLe.ite ?_ ?_ | with_reducible refine OLe.bind ?_ ?_ | intro _
end
theorem s_TourOk_f_c_le (n : Nat) (x : Ts s_TourOk_sig.pc) : OLe (s_TourOk_f_c n x) (s_TourOk_f x) := by
  obtain ⟨x0, x1⟩ := x
  rw [s_TourOk_f_c, s_TourOk_f_eq]
  repeat' first | with_reducible exact OLe.refl _ | with_reducible exact OLe.none _ | with_reducible apply s_NetOk_f_c_le | with_reducible apply s_l1In_f_c_le | with_reducible apply s_TourOk_l0_c_le | with_reducible refine OLe.cond ?_ ?_ | with_reducible refine OLe.ite ?_ ?_ | with_reducible refine OLe.bind ?_ ?_ | intro _
theorem s_TourOk_ent : Entb Try.prog 74 := ⟨Try.f74, by kernel_rfl, by kernel_rfl, by kernel_rfl⟩
theorem s_TourOk_ok : CtrOk Try.prog 74 ⟨s_TourOk_sig, s_TourOk_f⟩ :=
  ctr_of (fn := Try.f74) (by kernel_rfl) (by kernel_rfl) (fun x : Ts s_TourOk_sig.pc => s_TourOk_E) (fun x => ⟨(fn_cons ⟨s_NetOk_ok, s_NetOk_ent⟩ (fn_cons ⟨s_l1In_ok, s_l1In_ent⟩ fn_none)), clo_none, wr_none⟩) (fun h => by cases h) follows_ (fun _ _ => trivial)
end FN
set_option linter.unusedVariables false
namespace FN
open Go Go.Proofs
/-! loop.example/firingnets/spec.StateOk -/
@[reducible] def s_StateOk_sig : Sig := { ps := [none, none], pc := [.int .i64, .view .i64], rs := [none], rc := [.bool] }
noncomputable def s_StateOk_E : Env' := { fn := fun f => if f = 73 then some ⟨s_l1In_sig, s_l1In_f⟩ else none, ck := ckT, cuts := [(2, [0, 1, 5]), (6, [0, 1])], mine := fun i => false }
noncomputable def s_StateOk_f (x : Ts s_StateOk_sig.pc) : Option (Ts s_StateOk_sig.rc) := runFn Try.prog (s_StateOk_E) Try.f64 s_StateOk_sig x
noncomputable def s_StateOk_l0 (y0 : Int) (y1 : List (Int)) (y2 : Int) : Option ((Bool)) := from_ Try.prog (s_StateOk_E) Try.f64 s_StateOk_sig [1, 0, 1, 0] ⟨mkT 32 [(0, .int .i64 y0), (1, .row false .i64 y1), (5, .int .i64 y2)], []⟩
noncomputable def s_StateOk_j1 (y0 : Int) (y1 : List (Int)) : Option ((Bool)) := from_ Try.prog (s_StateOk_E) Try.f64 s_StateOk_sig [1, 1] ⟨mkT 32 [(0, .int .i64 y0), (1, .row false .i64 y1)], []⟩
theorem s_StateOk_f_eq (x0 : (Int)) (x1 : (List (Int))) : s_StateOk_f (x0, x1) = (s_StateOk_l0 x0 x1 0) := by
  kernel_rfl
theorem s_StateOk_l0_eq (y0 : Int) (y1 : List (Int)) (y2 : Int) : s_StateOk_l0 y0 y1 y2 = (cond ((decide (y2 < (List.length y1 : Int)))) (if (0 : Int) ≤ y2 ∧ y2 < (List.length y1 : Int) then (cond ((decide ((List.getD y1 (y2 : Int).toNat 0) < 0))) (some false) (if (0 : Int) ≤ y2 ∧ y2 < (List.length y1 : Int) then (cond ((decide (y0 ≤ (List.getD y1 (y2 : Int).toNat 0)))) (some false) (s_StateOk_l0 y0 y1 (IntKind.i64.wrap (y2 + 1)))) else none)) else none) (s_StateOk_j1 y0 y1)) := by
  refine (loopK_eq Try.prog (s_StateOk_E) (sub (Try.f64.body.getD .skip) [1, 0, 1, 0, 0]) _ _).trans ?_
  kernel_rfl
theorem s_StateOk_j1_eq (y0 : Int) (y1 : List (Int)) : s_StateOk_j1 y0 y1 = (Option.bind (s_l1In_f (y0, 3, 5)) fun r1 => (cond (r1) (Option.bind (s_l1In_f ((List.length y1 : Int), 1, 6)) fun r2 => (some r2)) (some false))) := by
  kernel_rfl
mutual
def s_StateOk_l0_c : Nat → (Int) → (List (Int)) → (Int) → Option ((Bool))
  | 0, _, _, _ => none
  | n + 1, y0, y1, y2 => (cond ((decide (y2 < (List.length y1 : Int)))) (if (0 : Int) ≤ y2 ∧ y2 < (List.length y1 : Int) then (cond ((decide ((List.getD y1 (y2 : Int).toNat 0) < 0))) (some false) (if (0 : Int) ≤ y2 ∧ y2 < (List.length y1 : Int) then (cond ((decide (y0 ≤ (List.getD y1 (y2 : Int).toNat 0)))) (some false) (s_StateOk_l0_c n y0 y1 (IntKind.i64.wrap (y2 + 1)))) else none)) else none) (s_StateOk_j1_c n y0 y1))
def s_StateOk_j1_c : Nat → (Int) → (List (Int)) → Option ((Bool))
  | 0, _, _ => none
  | n + 1, y0, y1 => (Option.bind (s_l1In_f_c n (y0, 3, 5)) fun r1 => (cond (r1) (Option.bind (s_l1In_f_c n ((List.length y1 : Int), 1, 6)) fun r2 => (some r2)) (some false)))
end
def s_StateOk_f_c (n : Nat) : ((Int)) × ((List (Int))) → Option ((Bool))
  | (x0, x1) => (s_StateOk_l0_c n x0 x1 0)
mutual
theorem s_StateOk_l0_c_le : (n : Nat) → (y0 : Int) → (y1 : List (Int)) → (y2 : Int) → OLe (s_StateOk_l0_c n y0 y1 y2) (s_StateOk_l0 y0 y1 y2)
  | 0, _, _, _ => OLe.none _
  | n + 1, y0, y1, y2 => by
    rw [s_StateOk_l0_c, s_StateOk_l0_eq]
    repeat' first | with_reducible exact OLe.refl _ | with_reducible exact OLe.none _ | with_reducible apply s_l1In_f_c_le | with_reducible apply s_StateOk_l0_c_le | with_reducible apply s_StateOk_j1_c_le | with_reducible refine OLe.cond ?_ ?_ | with_reducible refine OLe.ite ?_ ?_ | with_reducible refine OLe.bind ?_ ?_ | intro _
theorem s_StateOk_j1_c_le : (n : Nat) → (y0 : Int) → (y1 : List (Int)) → OLe (s_StateOk_j1_c n y0 y1) (s_StateOk_j1 y0 y1)
  | 0, _, _ => OLe.none _
  | n + 1, y0, y1 => by
    rw [s_StateOk_j1_c, s_StateOk_j1_eq]
    repeat' first | with_reducible exact OLe.refl _ | with_reducible exact OLe.none _ | with_reducible apply s_l1In_f_c_le | with_reducible apply s_StateOk_l0_c_le | with_reducible apply s_StateOk_j1_c_le | with_reducible refine OLe.cond ?_ ?_ | with_reducible refine OLe.ite ?_ ?_ | with_reducible refine OLe.bind ?_ ?_ | intro _
end
theorem s_StateOk_f_c_le (n : Nat) (x : Ts s_StateOk_sig.pc) : OLe (s_StateOk_f_c n x) (s_StateOk_f x) := by
  obtain ⟨x0, x1⟩ := x
  rw [s_StateOk_f_c, s_StateOk_f_eq]
  repeat' first | with_reducible exact OLe.refl _ | with_reducible exact OLe.none _ | with_reducible apply s_l1In_f_c_le | with_reducible apply s_StateOk_l0_c_le | with_reducible apply s_StateOk_j1_c_le | with_reducible refine OLe.cond ?_ ?_ | with_reducible refine OLe.ite ?_ ?_ | with_reducible refine OLe.bind ?_ ?_ | intro _
theorem s_StateOk_ent : Entb Try.prog 64 := ⟨Try.f64, by kernel_rfl, by kernel_rfl, by kernel_rfl⟩
theorem s_StateOk_ok : CtrOk Try.prog 64 ⟨s_StateOk_sig, s_StateOk_f⟩ :=
  ctr_of (fn := Try.f64) (by kernel_rfl) (by kernel_rfl) (fun x : Ts s_StateOk_sig.pc => s_StateOk_E) (fun x => ⟨(fn_cons ⟨s_l1In_ok, s_l1In_ent⟩ fn_none), clo_none, wr_none⟩) (fun h => by cases h) follows_ (fun _ _ => trivial)
end FN
set_option linter.unusedVariables false
namespace FN
open Go Go.Proofs
/-! loop.example/firingnets/spec.l3Ok -/
@[reducible] def s_l3Ok_sig : Sig := { ps := [none, none, none], pc := [.view .i64, .int .i64, .view .i64], rs := [none], rc := [.bool] }
noncomputable def s_l3Ok_E : Env' := { fn := fun f => if f = 63 then some ⟨s_NetOk_sig, s_NetOk_f⟩ else if f = 64 then some ⟨s_StateOk_sig, s_StateOk_f⟩ else none, ck := ckT, cuts := [], mine := fun i => false }
noncomputable def s_l3Ok_f (x : Ts s_l3Ok_sig.pc) : Option (Ts s_l3Ok_sig.rc) := runFn Try.prog (s_l3Ok_E) Try.f46 s_l3Ok_sig x
theorem s_l3Ok_f_eq (x0 : (List (Int))) (x1 : (Int)) (x2 : (List (Int))) : s_l3Ok_f (x0, x1, x2) = (Option.bind (s_NetOk_f x0) fun r1 => (cond (r1) (Option.bind (s_StateOk_f (x1, x2)) fun r2 => (cond (r2) (some ((List.length x2 : Int) == (List.length x0 : Int))) (some false))) (some false))) := by
  kernel_rfl
def s_l3Ok_f_c (n : Nat) : ((List (Int))) × ((Int)) × ((List (Int))) → Option ((Bool))
  | (x0, x1, x2) => (Option.bind (s_NetOk_f_c n x0) fun r1 => (cond (r1) (Option.bind (s_StateOk_f_c n (x1, x2)) fun r2 => (cond (r2) (some ((List.length x2 : Int) == (List.length x0 : Int))) (some false))) (some false)))
theorem s_l3Ok_f_c_le (n : Nat) (x : Ts s_l3Ok_sig.pc) : OLe (s_l3Ok_f_c n x) (s_l3Ok_f x) := by
  obtain ⟨x0, x1, x2⟩ := x
  rw [s_l3Ok_f_c, s_l3Ok_f_eq]
  repeat' first | with_reducible exact OLe.refl _ | with_reducible exact OLe.none _ | with_reducible apply s_NetOk_f_c_le | with_reducible apply s_StateOk_f_c_le | with_reducible refine OLe.cond ?_ ?_ | with_reducible refine OLe.ite ?_ ?_ | with_reducible refine OLe.bind ?_ ?_ | intro _
theorem s_l3Ok_ent : Entb Try.prog 46 := ⟨Try.f46, by kernel_rfl, by kernel_rfl, by kernel_rfl⟩
theorem s_l3Ok_ok : CtrOk Try.prog 46 ⟨s_l3Ok_sig, s_l3Ok_f⟩ :=
  ctr_of (fn := Try.f46) (by kernel_rfl) (by kernel_rfl) (fun x : Ts s_l3Ok_sig.pc => s_l3Ok_E) (fun x => ⟨(fn_cons ⟨s_NetOk_ok, s_NetOk_ent⟩ (fn_cons ⟨s_StateOk_ok, s_StateOk_ent⟩ fn_none)), clo_none, wr_none⟩) (fun h => by cases h) follows_ (fun _ _ => trivial)
end FN
set_option linter.unusedVariables false
namespace FN
open Go Go.Proofs
/-! loop.example/firingnets/spec.l6Rise -/
@[reducible] def s_l6Rise_sig : Sig := { ps := [none, none], pc := [.int .i64, .int .i64], rs := [none], rc := [.int .i64] }
noncomputable def s_l6Rise_E : Env' := { fn := fun f => none, ck := ckT, cuts := [], mine := fun i => false }
noncomputable def s_l6Rise_f (x : Ts s_l6Rise_sig.pc) : Option (Ts s_l6Rise_sig.rc) := runFn Try.prog (s_l6Rise_E) Try.f75 s_l6Rise_sig x
theorem s_l6Rise_f_eq (x0 : (Int)) (x1 : (Int)) : s_l6Rise_f (x0, x1) = (some (IntKind.i64.wrap ((Int.tmod (IntKind.i64.wrap ((IntKind.i64.wrap ((IntKind.i64.wrap (x1 - x0)) + 3)) + 1)) 3) - 1))) := by
  kernel_rfl
def s_l6Rise_f_c (n : Nat) : ((Int)) × ((Int)) → Option ((Int))
  | (x0, x1) => (some (IntKind.i64.wrap ((Int.tmod (IntKind.i64.wrap ((IntKind.i64.wrap ((IntKind.i64.wrap (x1 - x0)) + 3)) + 1)) 3) - 1)))
theorem s_l6Rise_f_c_le (n : Nat) (x : Ts s_l6Rise_sig.pc) : OLe (s_l6Rise_f_c n x) (s_l6Rise_f x) := by
  obtain ⟨x0, x1⟩ := x
  rw [s_l6Rise_f_c, s_l6Rise_f_eq]
  repeat' first | with_reducible exact OLe.refl _ | with_reducible exact OLe.none _ | with_reducible refine OLe.cond ?_ ?_ | with_reducible refine OLe.ite ?_ ?_ | with_reducible refine OLe.bind ?_ ?_ | intro _
theorem s_l6Rise_ent : Entb Try.prog 75 := ⟨Try.f75, by kernel_rfl, by kernel_rfl, by kernel_rfl⟩
theorem s_l6Rise_ok : CtrOk Try.prog 75 ⟨s_l6Rise_sig, s_l6Rise_f⟩ :=
  ctr_of (fn := Try.f75) (by kernel_rfl) (by kernel_rfl) (fun x : Ts s_l6Rise_sig.pc => s_l6Rise_E) (fun x => ⟨fn_none, clo_none, wr_none⟩) (fun h => by cases h) follows_ (fun _ _ => trivial)
end FN
set_option linter.unusedVariables false
namespace FN
open Go Go.Proofs
/-! loop.example/firingnets/spec.ClimbOf -/
@[reducible] def s_ClimbOf_sig : Sig := { ps := [none, none, none], pc := [.view .i64, .view .i64, .view .i64], rs := [none, none], rc := [.int .i64, .bool] }
noncomputable def s_ClimbOf_E : Env' := { fn := fun f => if f = 46 then some ⟨s_l3Ok_sig, s_l3Ok_f⟩ else if f = 74 then some ⟨s_TourOk_sig, s_TourOk_f⟩ else if f = 75 then some ⟨s_l6Rise_sig, s_l6Rise_f⟩ else none, ck := ckT, cuts := [(5, [1, 2, 8, 9])], mine := fun i => false }
noncomputable def s_ClimbOf_f (x : Ts s_ClimbOf_sig.pc) : Option (Ts s_ClimbOf_sig.rc) := runFn Try.prog (s_ClimbOf_E) Try.f65 s_ClimbOf_sig x
noncomputable def s_ClimbOf_l0 (y0 : List (Int)) (y1 : List (Int)) (y2 : Int) (y3 : Int) : Option ((Int) × (Bool)) := from_ Try.prog (s_ClimbOf_E) Try.f65 s_ClimbOf_sig [1, 1, 1, 0, 1, 0] ⟨mkT 45 [(1, .row false .i64 y0), (2, .row false .i64 y1), (8, .int .i64 y2), (9, .int .i64 y3)], []⟩
theorem s_ClimbOf_f_eq (x0 : (List (Int))) (x1 : (List (Int))) (x2 : (List (Int))) : s_ClimbOf_f (x0, x1, x2) = (Option.bind (s_l3Ok_f (x0, 3, x1)) fun r1 => (cond ((!r1)) (some (0, false)) (Option.bind (s_TourOk_f (x0, x2)) fun r2 => (cond ((!r2)) (some (0, false)) (s_ClimbOf_l0 x1 x2 0 1))))) := by
  kernel_rfl
theorem s_ClimbOf_l0_eq (y0 : List (Int)) (y1 : List (Int)) (y2 : Int) (y3 : Int) : s_ClimbOf_l0 y0 y1 y2 y3 = (cond ((decide (y3 < (List.length y1 : Int)))) (if (0 : Int) ≤ (IntKind.i64.wrap (y3 - 1)) ∧ (IntKind.i64.wrap (y3 - 1)) < (List.length y1 : Int) then (if (0 : Int) ≤ (List.getD y1 ((IntKind.i64.wrap (y3 - 1)) : Int).toNat 0) ∧ (List.getD y1 ((IntKind.i64.wrap (y3 - 1)) : Int).toNat 0) < (List.length y0 : Int) then (if (0 : Int) ≤ y3 ∧ y3 < (List.length y1 : Int) then (if (0 : Int) ≤ (List.getD y1 (y3 : Int).toNat 0) ∧ (List.getD y1 (y3 : Int).toNat 0) < (List.length y0 : Int) then (Option.bind (s_l6Rise_f ((List.getD y0 ((List.getD y1 ((IntKind.i64.wrap (y3 - 1)) : Int).toNat 0) : Int).toNat 0), (List.getD y0 ((List.getD y1 (y3 : Int).toNat 0) : Int).toNat 0))) fun r1 => (s_ClimbOf_l0 y0 y1 (IntKind.i64.wrap (y2 + r1)) (IntKind.i64.wrap (y3 + 1)))) else none) else none) else none) else none) (some (y2, true))) := by
  refine (loopK_eq Try.prog (s_ClimbOf_E) (sub (Try.f65.body.getD .skip) [1, 1, 1, 0, 1, 0, 0]) _ _).trans ?_
  kernel_rfl
mutual
def s_ClimbOf_l0_c : Nat → (List (Int)) → (List (Int)) → (Int) → (Int) → Option ((Int) × (Bool))
  | 0, _, _, _, _ => none
  | n + 1, y0, y1, y2, y3 => (cond ((decide (y3 < (List.length y1 : Int)))) (if (0 : Int) ≤ (IntKind.i64.wrap (y3 - 1)) ∧ (IntKind.i64.wrap (y3 - 1)) < (List.length y1 : Int) then (if (0 : Int) ≤ (List.getD y1 ((IntKind.i64.wrap (y3 - 1)) : Int).toNat 0) ∧ (List.getD y1 ((IntKind.i64.wrap (y3 - 1)) : Int).toNat 0) < (List.length y0 : Int) then (if (0 : Int) ≤ y3 ∧ y3 < (List.length y1 : Int) then (if (0 : Int) ≤ (List.getD y1 (y3 : Int).toNat 0) ∧ (List.getD y1 (y3 : Int).toNat 0) < (List.length y0 : Int) then (Option.bind (s_l6Rise_f_c n ((List.getD y0 ((List.getD y1 ((IntKind.i64.wrap (y3 - 1)) : Int).toNat 0) : Int).toNat 0), (List.getD y0 ((List.getD y1 (y3 : Int).toNat 0) : Int).toNat 0))) fun r1 => (s_ClimbOf_l0_c n y0 y1 (IntKind.i64.wrap (y2 + r1)) (IntKind.i64.wrap (y3 + 1)))) else none) else none) else none) else none) (some (y2, true)))
end
def s_ClimbOf_f_c (n : Nat) : ((List (Int))) × ((List (Int))) × ((List (Int))) → Option ((Int) × (Bool))
  | (x0, x1, x2) => (Option.bind (s_l3Ok_f_c n (x0, 3, x1)) fun r1 => (cond ((!r1)) (some (0, false)) (Option.bind (s_TourOk_f_c n (x0, x2)) fun r2 => (cond ((!r2)) (some (0, false)) (s_ClimbOf_l0_c n x1 x2 0 1)))))
mutual
theorem s_ClimbOf_l0_c_le : (n : Nat) → (y0 : List (Int)) → (y1 : List (Int)) → (y2 : Int) → (y3 : Int) → OLe (s_ClimbOf_l0_c n y0 y1 y2 y3) (s_ClimbOf_l0 y0 y1 y2 y3)
  | 0, _, _, _, _ => OLe.none _
  | n + 1, y0, y1, y2, y3 => by
    rw [s_ClimbOf_l0_c, s_ClimbOf_l0_eq]
    repeat' first | with_reducible exact OLe.refl _ | with_reducible exact OLe.none _ | with_reducible apply s_l3Ok_f_c_le | with_reducible apply s_TourOk_f_c_le | with_reducible apply s_l6Rise_f_c_le | with_reducible apply s_ClimbOf_l0_c_le | with_reducible refine OLe.cond ?_ ?_ | with_reducible refine OLe.ite ?_ ?_ | with_reducible refine OLe.bind ?_ ?_ | intro _
end
theorem s_ClimbOf_f_c_le (n : Nat) (x : Ts s_ClimbOf_sig.pc) : OLe (s_ClimbOf_f_c n x) (s_ClimbOf_f x) := by
  obtain ⟨x0, x1, x2⟩ := x
  rw [s_ClimbOf_f_c, s_ClimbOf_f_eq]
  repeat' first | with_reducible exact OLe.refl _ | with_reducible exact OLe.none _ | with_reducible apply s_l3Ok_f_c_le | with_reducible apply s_TourOk_f_c_le | with_reducible apply s_l6Rise_f_c_le | with_reducible apply s_ClimbOf_l0_c_le | with_reducible refine OLe.cond ?_ ?_ | with_reducible refine OLe.ite ?_ ?_ | with_reducible refine OLe.bind ?_ ?_ | intro _
theorem s_ClimbOf_ent : Entb Try.prog 65 := ⟨Try.f65, by kernel_rfl, by kernel_rfl, by kernel_rfl⟩
theorem s_ClimbOf_ok : CtrOk Try.prog 65 ⟨s_ClimbOf_sig, s_ClimbOf_f⟩ :=
  ctr_of (fn := Try.f65) (by kernel_rfl) (by kernel_rfl) (fun x : Ts s_ClimbOf_sig.pc => s_ClimbOf_E) (fun x => ⟨(fn_cons ⟨s_l3Ok_ok, s_l3Ok_ent⟩ (fn_cons ⟨s_TourOk_ok, s_TourOk_ent⟩ (fn_cons ⟨s_l6Rise_ok, s_l6Rise_ent⟩ fn_none))), clo_none, wr_none⟩) (fun h => by cases h) follows_ (fun _ _ => trivial)
end FN
set_option linter.unusedVariables false
namespace FN
open Go Go.Proofs
/-! loop.example/firingnets/spec.WindingOf -/
@[reducible] def s_WindingOf_sig : Sig := { ps := [none, none, none], pc := [.view .i64, .view .i64, .view .i64], rs := [none, none], rc := [.int .i64, .bool] }
noncomputable def s_WindingOf_E : Env' := { fn := fun f => if f = 65 then some ⟨s_ClimbOf_sig, s_ClimbOf_f⟩ else none, ck := ckT, cuts := [], mine := fun i => false }
noncomputable def s_WindingOf_f (x : Ts s_WindingOf_sig.pc) : Option (Ts s_WindingOf_sig.rc) := runFn Try.prog (s_WindingOf_E) Try.f47 s_WindingOf_sig x
theorem s_WindingOf_f_eq (x0 : (List (Int))) (x1 : (List (Int))) (x2 : (List (Int))) : s_WindingOf_f (x0, x1, x2) = (Option.bind (s_ClimbOf_f (x0, x1, x2)) fun r1 => (cond ((!r1.2)) (some (0, false)) (if (0 : Int) ≤ 0 ∧ 0 < (List.length x2 : Int) then (if (0 : Int) ≤ (IntKind.i64.wrap ((List.length x2 : Int) - 1)) ∧ (IntKind.i64.wrap ((List.length x2 : Int) - 1)) < (List.length x2 : Int) then (cond (((List.getD x2 (0 : Int).toNat 0) != (List.getD x2 ((IntKind.i64.wrap ((List.length x2 : Int) - 1)) : Int).toNat 0))) (some (0, false)) (some ((IntKind.i64.wrap (Int.tdiv r1.1 3)), true))) else none) else none))) := by
  kernel_rfl
def s_WindingOf_f_c (n : Nat) : ((List (Int))) × ((List (Int))) × ((List (Int))) → Option ((Int) × (Bool))
  | (x0, x1, x2) => (Option.bind (s_ClimbOf_f_c n (x0, x1, x2)) fun r1 => (cond ((!r1.2)) (some (0, false)) (if (0 : Int) ≤ 0 ∧ 0 < (List.length x2 : Int) then (if (0 : Int) ≤ (IntKind.i64.wrap ((List.length x2 : Int) - 1)) ∧ (IntKind.i64.wrap ((List.length x2 : Int) - 1)) < (List.length x2 : Int) then (cond (((List.getD x2 (0 : Int).toNat 0) != (List.getD x2 ((IntKind.i64.wrap ((List.length x2 : Int) - 1)) : Int).toNat 0))) (some (0, false)) (some ((IntKind.i64.wrap (Int.tdiv r1.1 3)), true))) else none) else none)))
theorem s_WindingOf_f_c_le (n : Nat) (x : Ts s_WindingOf_sig.pc) : OLe (s_WindingOf_f_c n x) (s_WindingOf_f x) := by
  obtain ⟨x0, x1, x2⟩ := x
  rw [s_WindingOf_f_c, s_WindingOf_f_eq]
  repeat' first | with_reducible exact OLe.refl _ | with_reducible exact OLe.none _ | with_reducible apply s_ClimbOf_f_c_le | with_reducible refine OLe.cond ?_ ?_ | with_reducible refine OLe.ite ?_ ?_ | with_reducible refine OLe.bind ?_ ?_ | intro _
theorem s_WindingOf_ent : Entb Try.prog 47 := ⟨Try.f47, by kernel_rfl, by kernel_rfl, by kernel_rfl⟩
theorem s_WindingOf_ok : CtrOk Try.prog 47 ⟨s_WindingOf_sig, s_WindingOf_f⟩ :=
  ctr_of (fn := Try.f47) (by kernel_rfl) (by kernel_rfl) (fun x : Ts s_WindingOf_sig.pc => s_WindingOf_E) (fun x => ⟨(fn_cons ⟨s_ClimbOf_ok, s_ClimbOf_ent⟩ fn_none), clo_none, wr_none⟩) (fun h => by cases h) follows_ (fun _ _ => trivial)
end FN
set_option linter.unusedVariables false
namespace FN
open Go Go.Proofs
/-! loop.example/firingnets/spec.SquareWindings -/
@[reducible] def s_SquareWindings_sig : Sig := { ps := [none, none, none], pc := [.int .i64, .int .i64, .view .i64], rs := [none], rc := [.row 3 .i64] }
noncomputable def s_SquareWindings_E : Env' := { fn := fun f => if f = 44 then some ⟨s_GridNet_sig, s_GridNet_f⟩ else if f = 45 then some ⟨s_SquareTours_sig, s_SquareTours_f⟩ else if f = 46 then some ⟨s_l3Ok_sig, s_l3Ok_f⟩ else if f = 47 then some ⟨s_WindingOf_sig, s_WindingOf_f⟩ else none, ck := ckT, cuts := [(5, [2, 7, 8, 9, 10])], mine := fun i => false }
noncomputable def s_SquareWindings_f (x : Ts s_SquareWindings_sig.pc) : Option (Ts s_SquareWindings_sig.rc) := runFn Try.prog (s_SquareWindings_E) Try.f20 s_SquareWindings_sig x
noncomputable def s_SquareWindings_l0 (y0 : List (Int)) (y1 : List (Int)) (y2 : List (List Int)) (y3 : Int) (y4 : List (Int)) : Option ((List (Int))) := from_ Try.prog (s_SquareWindings_E) Try.f20 s_SquareWindings_sig [1, 1, 1, 1, 0, 1, 0] ⟨mkT 46 [(2, .row false .i64 y0), (7, .own 0), (8, .row true .i64 y1), (9, .row true .intss y2), (10, .int .i64 y3)], [some (.arr 3 true .i64 y4)]⟩
theorem s_SquareWindings_f_eq (x0 : (Int)) (x1 : (Int)) (x2 : (List (Int))) : s_SquareWindings_f (x0, x1, x2) = (Option.bind (s_GridNet_f (x0, x1)) fun r1 => (Option.bind (s_SquareTours_f (x0, x1)) fun r2 => (s_SquareWindings_l0 x2 r1 r2 0 ([] : List (Int))))) := by
  kernel_rfl
theorem s_SquareWindings_l0_eq (y0 : List (Int)) (y1 : List (Int)) (y2 : List (List Int)) (y3 : Int) (y4 : List (Int)) : s_SquareWindings_l0 y0 y1 y2 y3 y4 = (cond ((decide (y3 < (List.length y2 : Int)))) (Option.bind (s_l3Ok_f (y1, 3, y0)) fun r1 => (cond (r1) (if (0 : Int) ≤ y3 ∧ y3 < (List.length y2 : Int) then (Option.bind (s_WindingOf_f (y1, y0, (List.getD y2 (y3 : Int).toNat []))) fun r2 => (if (List.length y4 + List.length ([r2.1] : List (Int))) * 8 ≤ 140737488355328 then (s_SquareWindings_l0 y0 y1 y2 (IntKind.i64.wrap (y3 + 1)) (y4 ++ ([r2.1] : List (Int)))) else none)) else none) (some y4))) (some y4)) := by
  refine (loopK_eq Try.prog (s_SquareWindings_E) (sub (Try.f20.body.getD .skip) [1, 1, 1, 1, 0, 1, 0, 0]) _ _).trans ?_
  kernel_rfl
mutual
def s_SquareWindings_l0_c : Nat → (List (Int)) → (List (Int)) → (List (List Int)) → (Int) → (List (Int)) → Option ((List (Int)))
  | 0, _, _, _, _, _ => none
  | n + 1, y0, y1, y2, y3, y4 => (cond ((decide (y3 < (List.length y2 : Int)))) (Option.bind (s_l3Ok_f_c n (y1, 3, y0)) fun r1 => (cond (r1) (if (0 : Int) ≤ y3 ∧ y3 < (List.length y2 : Int) then (Option.bind (s_WindingOf_f_c n (y1, y0, (List.getD y2 (y3 : Int).toNat []))) fun r2 => (if (List.length y4 + List.length ([r2.1] : List (Int))) * 8 ≤ 140737488355328 then (s_SquareWindings_l0_c n y0 y1 y2 (IntKind.i64.wrap (y3 + 1)) (y4 ++ ([r2.1] : List (Int)))) else none)) else none) (some y4))) (some y4))
end
def s_SquareWindings_f_c (n : Nat) : ((Int)) × ((Int)) × ((List (Int))) → Option ((List (Int)))
  | (x0, x1, x2) => (Option.bind (s_GridNet_f_c n (x0, x1)) fun r1 => (Option.bind (s_SquareTours_f_c n (x0, x1)) fun r2 => (s_SquareWindings_l0_c n x2 r1 r2 0 ([] : List (Int)))))
mutual
theorem s_SquareWindings_l0_c_le : (n : Nat) → (y0 : List (Int)) → (y1 : List (Int)) → (y2 : List (List Int)) → (y3 : Int) → (y4 : List (Int)) → OLe (s_SquareWindings_l0_c n y0 y1 y2 y3 y4) (s_SquareWindings_l0 y0 y1 y2 y3 y4)
  | 0, _, _, _, _, _ => OLe.none _
  | n + 1, y0, y1, y2, y3, y4 => by
    rw [s_SquareWindings_l0_c, s_SquareWindings_l0_eq]
    repeat' first | with_reducible exact OLe.refl _ | with_reducible exact OLe.none _ | with_reducible apply s_GridNet_f_c_le | with_reducible apply s_SquareTours_f_c_le | with_reducible apply s_l3Ok_f_c_le | with_reducible apply s_WindingOf_f_c_le | with_reducible apply s_SquareWindings_l0_c_le | with_reducible refine OLe.cond ?_ ?_ | with_reducible refine OLe.ite ?_ ?_ | with_reducible refine OLe.bind ?_ ?_ | intro _
end
theorem s_SquareWindings_f_c_le (n : Nat) (x : Ts s_SquareWindings_sig.pc) : OLe (s_SquareWindings_f_c n x) (s_SquareWindings_f x) := by
  obtain ⟨x0, x1, x2⟩ := x
  rw [s_SquareWindings_f_c, s_SquareWindings_f_eq]
  repeat' first | with_reducible exact OLe.refl _ | with_reducible exact OLe.none _ | with_reducible apply s_GridNet_f_c_le | with_reducible apply s_SquareTours_f_c_le | with_reducible apply s_l3Ok_f_c_le | with_reducible apply s_WindingOf_f_c_le | with_reducible apply s_SquareWindings_l0_c_le | with_reducible refine OLe.cond ?_ ?_ | with_reducible refine OLe.ite ?_ ?_ | with_reducible refine OLe.bind ?_ ?_ | intro _
theorem s_SquareWindings_ent : Entb Try.prog 20 := ⟨Try.f20, by kernel_rfl, by kernel_rfl, by kernel_rfl⟩
theorem s_SquareWindings_ok : CtrOk Try.prog 20 ⟨s_SquareWindings_sig, s_SquareWindings_f⟩ :=
  ctr_of (fn := Try.f20) (by kernel_rfl) (by kernel_rfl) (fun x : Ts s_SquareWindings_sig.pc => s_SquareWindings_E) (fun x => ⟨(fn_cons ⟨s_GridNet_ok, s_GridNet_ent⟩ (fn_cons ⟨s_SquareTours_ok, s_SquareTours_ent⟩ (fn_cons ⟨s_l3Ok_ok, s_l3Ok_ent⟩ (fn_cons ⟨s_WindingOf_ok, s_WindingOf_ent⟩ fn_none)))), clo_none, wr_none⟩) (fun h => by cases h) follows_ (fun _ _ => trivial)
end FN
set_option linter.unusedVariables false
namespace FN
open Go Go.Proofs
/-! loop.example/firingnets/laws.alive -/
@[reducible] def w_alive_sig : Sig := { ps := [], pc := [], rs := [none], rc := [.bool] }
noncomputable def w_alive_E : Env' := { fn := fun f => if f = 43 then some ⟨i_NetOk_sig, i_NetOk_f⟩ else none, ck := ckT, cuts := [], mine := fun i => false }
noncomputable def w_alive_f (x : Ts w_alive_sig.pc) : Option (Ts w_alive_sig.rc) := runFn Try.prog (w_alive_E) Try.f19 w_alive_sig x
theorem w_alive_f_eq  : w_alive_f () = (Option.bind (i_NetOk_f ([2, 1] : List (Int))) fun r1 => (cond (r1) (Option.bind (i_NetOk_f ([1] : List (Int))) fun r2 => (some (!r2))) (some false))) := by
  kernel_rfl
def w_alive_f_c (n : Nat) : Unit → Option ((Bool))
  | () => (Option.bind (i_NetOk_f_c n ([2, 1] : List (Int))) fun r1 => (cond (r1) (Option.bind (i_NetOk_f_c n ([1] : List (Int))) fun r2 => (some (!r2))) (some false)))
theorem w_alive_f_c_le (n : Nat) (x : Ts w_alive_sig.pc) : OLe (w_alive_f_c n x) (w_alive_f x) := by
  rw [w_alive_f_c, w_alive_f_eq]
  repeat' first | with_reducible exact OLe.refl _ | with_reducible exact OLe.none _ | with_reducible apply i_NetOk_f_c_le | with_reducible refine OLe.cond ?_ ?_ | with_reducible refine OLe.ite ?_ ?_ | with_reducible refine OLe.bind ?_ ?_ | intro _
theorem w_alive_ent : Entb Try.prog 19 := ⟨Try.f19, by kernel_rfl, by kernel_rfl, by kernel_rfl⟩
theorem w_alive_ok : CtrOk Try.prog 19 ⟨w_alive_sig, w_alive_f⟩ :=
  ctr_of (fn := Try.f19) (by kernel_rfl) (by kernel_rfl) (fun x : Ts w_alive_sig.pc => w_alive_E) (fun x => ⟨(fn_cons ⟨i_NetOk_ok, i_NetOk_ent⟩ fn_none), clo_none, wr_none⟩) (fun h => by cases h) follows_ (fun _ _ => trivial)
end FN
set_option linter.unusedVariables false
namespace FN
open Go Go.Proofs
/-! loop.example/firingnets/laws.sameInts -/
@[reducible] def w_sameInts_sig : Sig := { ps := [none, none], pc := [.view .i64, .view .i64], rs := [none], rc := [.bool] }
noncomputable def w_sameInts_E : Env' := { fn := fun f => none, ck := ckT, cuts := [(4, [0, 1, 5])], mine := fun i => false }
noncomputable def w_sameInts_f (x : Ts w_sameInts_sig.pc) : Option (Ts w_sameInts_sig.rc) := runFn Try.prog (w_sameInts_E) Try.f27 w_sameInts_sig x
noncomputable def w_sameInts_l0 (y0 : List (Int)) (y1 : List (Int)) (y2 : Int) : Option ((Bool)) := from_ Try.prog (w_sameInts_E) Try.f27 w_sameInts_sig [1, 1, 0, 1, 0] ⟨mkT 26 [(0, .row false .i64 y0), (1, .row false .i64 y1), (5, .int .i64 y2)], []⟩
theorem w_sameInts_f_eq (x0 : (List (Int))) (x1 : (List (Int))) : w_sameInts_f (x0, x1) = (cond (((List.length x0 : Int) != (List.length x1 : Int))) (some false) (w_sameInts_l0 x0 x1 0)) := by
  kernel_rfl
theorem w_sameInts_l0_eq (y0 : List (Int)) (y1 : List (Int)) (y2 : Int) : w_sameInts_l0 y0 y1 y2 = (cond ((decide (y2 < (List.length y0 : Int)))) (if (0 : Int) ≤ y2 ∧ y2 < (List.length y0 : Int) then (if (0 : Int) ≤ y2 ∧ y2 < (List.length y1 : Int) then (cond (((List.getD y0 (y2 : Int).toNat 0) != (List.getD y1 (y2 : Int).toNat 0))) (some false) (w_sameInts_l0 y0 y1 (IntKind.i64.wrap (y2 + 1)))) else none) else none) (some true)) := by
  refine (loopK_eq Try.prog (w_sameInts_E) (sub (Try.f27.body.getD .skip) [1, 1, 0, 1, 0, 0]) _ _).trans ?_
  kernel_rfl
mutual
def w_sameInts_l0_c : Nat → (List (Int)) → (List (Int)) → (Int) → Option ((Bool))
  | 0, _, _, _ => none
  | n + 1, y0, y1, y2 => (cond ((decide (y2 < (List.length y0 : Int)))) (if (0 : Int) ≤ y2 ∧ y2 < (List.length y0 : Int) then (if (0 : Int) ≤ y2 ∧ y2 < (List.length y1 : Int) then (cond (((List.getD y0 (y2 : Int).toNat 0) != (List.getD y1 (y2 : Int).toNat 0))) (some false) (w_sameInts_l0_c n y0 y1 (IntKind.i64.wrap (y2 + 1)))) else none) else none) (some true))
end
def w_sameInts_f_c (n : Nat) : ((List (Int))) × ((List (Int))) → Option ((Bool))
  | (x0, x1) => (cond (((List.length x0 : Int) != (List.length x1 : Int))) (some false) (w_sameInts_l0_c n x0 x1 0))
mutual
theorem w_sameInts_l0_c_le : (n : Nat) → (y0 : List (Int)) → (y1 : List (Int)) → (y2 : Int) → OLe (w_sameInts_l0_c n y0 y1 y2) (w_sameInts_l0 y0 y1 y2)
  | 0, _, _, _ => OLe.none _
  | n + 1, y0, y1, y2 => by
    rw [w_sameInts_l0_c, w_sameInts_l0_eq]
    repeat' first | with_reducible exact OLe.refl _ | with_reducible exact OLe.none _ | with_reducible apply w_sameInts_l0_c_le | with_reducible refine OLe.cond ?_ ?_ | with_reducible refine OLe.ite ?_ ?_ | with_reducible refine OLe.bind ?_ ?_ | intro _
end
theorem w_sameInts_f_c_le (n : Nat) (x : Ts w_sameInts_sig.pc) : OLe (w_sameInts_f_c n x) (w_sameInts_f x) := by
  obtain ⟨x0, x1⟩ := x
  rw [w_sameInts_f_c, w_sameInts_f_eq]
  repeat' first | with_reducible exact OLe.refl _ | with_reducible exact OLe.none _ | with_reducible apply w_sameInts_l0_c_le | with_reducible refine OLe.cond ?_ ?_ | with_reducible refine OLe.ite ?_ ?_ | with_reducible refine OLe.bind ?_ ?_ | intro _
theorem w_sameInts_ent : Entb Try.prog 27 := ⟨Try.f27, by kernel_rfl, by kernel_rfl, by kernel_rfl⟩
theorem w_sameInts_ok : CtrOk Try.prog 27 ⟨w_sameInts_sig, w_sameInts_f⟩ :=
  ctr_of (fn := Try.f27) (by kernel_rfl) (by kernel_rfl) (fun x : Ts w_sameInts_sig.pc => w_sameInts_E) (fun x => ⟨fn_none, clo_none, wr_none⟩) (fun h => by cases h) follows_ (fun _ _ => trivial)
end FN
set_option linter.unusedVariables false
namespace FN
open Go Go.Proofs
/-! loop.example/firingnets/laws.FnSquareWindings -/
@[reducible] def w_FnSquareWindings_sig : Sig := { ps := [none], pc := [.view .u8], rs := [none], rc := [.bool] }
noncomputable def w_FnSquareWindings_E : Env' := { fn := fun f => if f = 19 then some ⟨w_alive_sig, w_alive_f⟩ else if f = 20 then some ⟨s_SquareWindings_sig, s_SquareWindings_f⟩ else if f = 22 then some ⟨i_SquareWindings_sig, i_SquareWindings_f⟩ else if f = 26 then some ⟨s_DrawSquareWindings_sig, s_DrawSquareWindings_f⟩ else if f = 27 then some ⟨w_sameInts_sig, w_sameInts_f⟩ else if f = 28 then some ⟨i_GridNet_sig, i_GridNet_f⟩ else if f = 29 then some ⟨i_WindingOf_sig, i_WindingOf_f⟩ else if f = 30 then some ⟨i_BorderTour_sig, i_BorderTour_f⟩ else if f = 31 then some ⟨i_FlatOk_sig, i_FlatOk_f⟩ else none, ck := ckT, cuts := [(13, [3, 4, 5, 6, 7, 8, 9, 10]), (19, [3, 4, 5, 7, 8, 9])], mine := fun i => false }
noncomputable def w_FnSquareWindings_f (x : Ts w_FnSquareWindings_sig.pc) : Option (Ts w_FnSquareWindings_sig.rc) := runFn Try.prog (w_FnSquareWindings_E) Try.f6 w_FnSquareWindings_sig x
noncomputable def w_FnSquareWindings_l0 (y0 : Int) (y1 : Int) (y2 : List (Int)) (y3 : List (Int)) (y4 : List (Int)) (y5 : Int) (y6 : Bool) (y7 : Int) : Option ((Bool)) := from_ Try.prog (w_FnSquareWindings_E) Try.f6 w_FnSquareWindings_sig [1, 1, 1, 1, 1, 1, 1, 1, 1, 0, 1, 0] ⟨mkT 121 [(3, .int .i64 y0), (4, .int .i64 y1), (5, .row true .i64 y2), (6, .row true .i64 y3), (7, .row true .i64 y4), (8, .int .i64 y5), (9, .bool y6), (10, .int .i64 y7)], []⟩
noncomputable def w_FnSquareWindings_j1 (y0 : Int) (y1 : Int) (y2 : List (Int)) (y3 : List (Int)) (y4 : Int) (y5 : Bool) : Option ((Bool)) := from_ Try.prog (w_FnSquareWindings_E) Try.f6 w_FnSquareWindings_sig [1, 1, 1, 1, 1, 1, 1, 1, 1, 1] ⟨mkT 121 [(3, .int .i64 y0), (4, .int .i64 y1), (5, .row true .i64 y2), (7, .row true .i64 y3), (8, .int .i64 y4), (9, .bool y5)], []⟩
theorem w_FnSquareWindings_f_eq (x0 : (List (Int))) : w_FnSquareWindings_f x0 = (cond ((decide (1048576 < (List.length x0 : Int)))) (some true) (Option.bind (s_DrawSquareWindings_f x0) fun r1 => (Option.bind (i_SquareWindings_f (r1.1, r1.2.1, r1.2.2)) fun r2 => (Option.bind (s_SquareWindings_f (r1.1, r1.2.1, r1.2.2)) fun r3 => (Option.bind (w_sameInts_f (r2, r3)) fun r4 => (cond ((!r4)) (some false) (Option.bind (i_GridNet_f (r1.1, r1.2.1)) fun r5 => (cond (List.isEmpty r5) (cond (((List.length r2 : Int) == 0)) (Option.bind (w_alive_f ()) fun r6 => (some r6)) (some false)) (cond (((List.length r5 : Int) == 0)) (cond (((List.length r2 : Int) == 0)) (Option.bind (w_alive_f ()) fun r7 => (some r7)) (some false)) (cond (((List.length r1.2.2 : Int) != (List.length r5 : Int))) (cond (((List.length r2 : Int) == 0)) (Option.bind (w_alive_f ()) fun r8 => (some r8)) (some false)) (w_FnSquareWindings_l0 r1.1 r1.2.1 r1.2.2 r2 r5 0 true 0))))))))))) := by
  kernel_rfl
theorem w_FnSquareWindings_l0_eq (y0 : Int) (y1 : Int) (y2 : List (Int)) (y3 : List (Int)) (y4 : List (Int)) (y5 : Int) (y6 : Bool) (y7 : Int) : w_FnSquareWindings_l0 y0 y1 y2 y3 y4 y5 y6 y7 = (cond ((decide (y7 < (List.length y3 : Int)))) (if (0 : Int) ≤ y7 ∧ y7 < (List.length y3 : Int) then (cond ((decide ((List.getD y3 (y7 : Int).toNat 0) < (-1)))) (some false) (if (0 : Int) ≤ y7 ∧ y7 < (List.length y3 : Int) then (cond ((decide (1 < (List.getD y3 (y7 : Int).toNat 0)))) (some false) (if (0 : Int) ≤ y7 ∧ y7 < (List.length y3 : Int) then (cond (y6) (if (0 : Int) ≤ y7 ∧ y7 < (List.length y3 : Int) then (w_FnSquareWindings_l0 y0 y1 y2 y3 y4 (IntKind.i64.wrap (y5 + (List.getD y3 (y7 : Int).toNat 0))) ((List.getD y3 (y7 : Int).toNat 0) == 0) (IntKind.i64.wrap (y7 + 1))) else none) (w_FnSquareWindings_l0 y0 y1 y2 y3 y4 (IntKind.i64.wrap (y5 + (List.getD y3 (y7 : Int).toNat 0))) false (IntKind.i64.wrap (y7 + 1)))) else none)) else none)) else none) (w_FnSquareWindings_j1 y0 y1 y2 y4 y5 y6)) := by
  refine (loopK_eq Try.prog (w_FnSquareWindings_E) (sub (Try.f6.body.getD .skip) [1, 1, 1, 1, 1, 1, 1, 1, 1, 0, 1, 0, 0]) _ _).trans ?_
  kernel_rfl
theorem w_FnSquareWindings_j1_eq (y0 : Int) (y1 : Int) (y2 : List (Int)) (y3 : List (Int)) (y4 : Int) (y5 : Bool) : w_FnSquareWindings_j1 y0 y1 y2 y3 y4 y5 = (Option.bind (i_BorderTour_f (y0, y1)) fun r1 => (Option.bind (i_WindingOf_f (y3, y2, r1)) fun r2 => (cond ((!r2.2)) (cond ((decide (y0 < 2))) (Option.bind (i_FlatOk_f (y3, y2)) fun r3 => (cond ((r3 == y5)) (Option.bind (w_alive_f ()) fun r4 => (some r4)) (some false))) (cond ((decide (y1 < 2))) (Option.bind (i_FlatOk_f (y3, y2)) fun r5 => (cond ((r5 == y5)) (Option.bind (w_alive_f ()) fun r6 => (some r6)) (some false))) (cond (r2.2) (Option.bind (i_FlatOk_f (y3, y2)) fun r7 => (cond ((r7 == y5)) (Option.bind (w_alive_f ()) fun r8 => (some r8)) (some false))) (some false)))) (cond ((r2.1 == y4)) (cond ((decide (y0 < 2))) (Option.bind (i_FlatOk_f (y3, y2)) fun r9 => (cond ((r9 == y5)) (Option.bind (w_alive_f ()) fun r10 => (some r10)) (some false))) (cond ((decide (y1 < 2))) (Option.bind (i_FlatOk_f (y3, y2)) fun r11 => (cond ((r11 == y5)) (Option.bind (w_alive_f ()) fun r12 => (some r12)) (some false))) (cond (r2.2) (Option.bind (i_FlatOk_f (y3, y2)) fun r13 => (cond ((r13 == y5)) (Option.bind (w_alive_f ()) fun r14 => (some r14)) (some false))) (some false)))) (some false))))) := by
  kernel_rfl
mutual
def w_FnSquareWindings_l0_c : Nat → (Int) → (Int) → (List (Int)) → (List (Int)) → (List (Int)) → (Int) → (Bool) → (Int) → Option ((Bool))
  | 0, _, _, _, _, _, _, _, _ => none
  | n + 1, y0, y1, y2, y3, y4, y5, y6, y7 => (cond ((decide (y7 < (List.length y3 : Int)))) (if (0 : Int) ≤ y7 ∧ y7 < (List.length y3 : Int) then (cond ((decide ((List.getD y3 (y7 : Int).toNat 0) < (-1)))) (some false) (if (0 : Int) ≤ y7 ∧ y7 < (List.length y3 : Int) then (cond ((decide (1 < (List.getD y3 (y7 : Int).toNat 0)))) (some false) (if (0 : Int) ≤ y7 ∧ y7 < (List.length y3 : Int) then (cond (y6) (if (0 : Int) ≤ y7 ∧ y7 < (List.length y3 : Int) then (w_FnSquareWindings_l0_c n y0 y1 y2 y3 y4 (IntKind.i64.wrap (y5 + (List.getD y3 (y7 : Int).toNat 0))) ((List.getD y3 (y7 : Int).toNat 0) == 0) (IntKind.i64.wrap (y7 + 1))) else none) (w_FnSquareWindings_l0_c n y0 y1 y2 y3 y4 (IntKind.i64.wrap (y5 + (List.getD y3 (y7 : Int).toNat 0))) false (IntKind.i64.wrap (y7 + 1)))) else none)) else none)) else none) (w_FnSquareWindings_j1_c n y0 y1 y2 y4 y5 y6))
def w_FnSquareWindings_j1_c : Nat → (Int) → (Int) → (List (Int)) → (List (Int)) → (Int) → (Bool) → Option ((Bool))
  | 0, _, _, _, _, _, _ => none
  | n + 1, y0, y1, y2, y3, y4, y5 => (Option.bind (i_BorderTour_f_c n (y0, y1)) fun r1 => (Option.bind (i_WindingOf_f_c n (y3, y2, r1)) fun r2 => (cond ((!r2.2)) (cond ((decide (y0 < 2))) (Option.bind (i_FlatOk_f_c n (y3, y2)) fun r3 => (cond ((r3 == y5)) (Option.bind (w_alive_f_c n ()) fun r4 => (some r4)) (some false))) (cond ((decide (y1 < 2))) (Option.bind (i_FlatOk_f_c n (y3, y2)) fun r5 => (cond ((r5 == y5)) (Option.bind (w_alive_f_c n ()) fun r6 => (some r6)) (some false))) (cond (r2.2) (Option.bind (i_FlatOk_f_c n (y3, y2)) fun r7 => (cond ((r7 == y5)) (Option.bind (w_alive_f_c n ()) fun r8 => (some r8)) (some false))) (some false)))) (cond ((r2.1 == y4)) (cond ((decide (y0 < 2))) (Option.bind (i_FlatOk_f_c n (y3, y2)) fun r9 => (cond ((r9 == y5)) (Option.bind (w_alive_f_c n ()) fun r10 => (some r10)) (some false))) (cond ((decide (y1 < 2))) (Option.bind (i_FlatOk_f_c n (y3, y2)) fun r11 => (cond ((r11 == y5)) (Option.bind (w_alive_f_c n ()) fun r12 => (some r12)) (some false))) (cond (r2.2) (Option.bind (i_FlatOk_f_c n (y3, y2)) fun r13 => (cond ((r13 == y5)) (Option.bind (w_alive_f_c n ()) fun r14 => (some r14)) (some false))) (some false)))) (some false)))))
end
def w_FnSquareWindings_f_c (n : Nat) : ((List (Int))) → Option ((Bool))
  | x0 => (cond ((decide (1048576 < (List.length x0 : Int)))) (some true) (Option.bind (s_DrawSquareWindings_f_c n x0) fun r1 => (Option.bind (i_SquareWindings_f_c n (r1.1, r1.2.1, r1.2.2)) fun r2 => (Option.bind (s_SquareWindings_f_c n (r1.1, r1.2.1, r1.2.2)) fun r3 => (Option.bind (w_sameInts_f_c n (r2, r3)) fun r4 => (cond ((!r4)) (some false) (Option.bind (i_GridNet_f_c n (r1.1, r1.2.1)) fun r5 => (cond (List.isEmpty r5) (cond (((List.length r2 : Int) == 0)) (Option.bind (w_alive_f_c n ()) fun r6 => (some r6)) (some false)) (cond (((List.length r5 : Int) == 0)) (cond (((List.length r2 : Int) == 0)) (Option.bind (w_alive_f_c n ()) fun r7 => (some r7)) (some false)) (cond (((List.length r1.2.2 : Int) != (List.length r5 : Int))) (cond (((List.length r2 : Int) == 0)) (Option.bind (w_alive_f_c n ()) fun r8 => (some r8)) (some false)) (w_FnSquareWindings_l0_c n r1.1 r1.2.1 r1.2.2 r2 r5 0 true 0)))))))))))
mutual
theorem w_FnSquareWindings_l0_c_le : (n : Nat) → (y0 : Int) → (y1 : Int) → (y2 : List (Int)) → (y3 : List (Int)) → (y4 : List (Int)) → (y5 : Int) → (y6 : Bool) → (y7 : Int) → OLe (w_FnSquareWindings_l0_c n y0 y1 y2 y3 y4 y5 y6 y7) (w_FnSquareWindings_l0 y0 y1 y2 y3 y4 y5 y6 y7)
  | 0, _, _, _, _, _, _, _, _ => OLe.none _
  | n + 1, y0, y1, y2, y3, y4, y5, y6, y7 => by
    rw [w_FnSquareWindings_l0_c, w_FnSquareWindings_l0_eq]
    repeat' first | with_reducible exact OLe.refl _ | with_reducible exact OLe.none _ | with_reducible apply w_alive_f_c_le | with_reducible apply s_SquareWindings_f_c_le | with_reducible apply i_SquareWindings_f_c_le | with_reducible apply s_DrawSquareWindings_f_c_le | with_reducible apply w_sameInts_f_c_le | with_reducible apply i_GridNet_f_c_le | with_reducible apply i_WindingOf_f_c_le | with_reducible apply i_BorderTour_f_c_le | with_reducible apply i_FlatOk_f_c_le | with_reducible apply w_FnSquareWindings_l0_c_le | with_reducible apply w_FnSquareWindings_j1_c_le | with_reducible refine OLe.cond ?_ ?_ | with_reducible refine OLe.ite ?_ ?_ | with_reducible refine OLe.bind ?_ ?_ | intro _
theorem w_FnSquareWindings_j1_c_le : (n : Nat) → (y0 : Int) → (y1 : Int) → (y2 : List (Int)) → (y3 : List (Int)) → (y4 : Int) → (y5 : Bool) → OLe (w_FnSquareWindings_j1_c n y0 y1 y2 y3 y4 y5) (w_FnSquareWindings_j1 y0 y1 y2 y3 y4 y5)
  | 0, _, _, _, _, _, _ => OLe.none _
  | n + 1, y0, y1, y2, y3, y4, y5 => by
    rw [w_FnSquareWindings_j1_c, w_FnSquareWindings_j1_eq]
    repeat' first | with_reducible exact OLe.refl _ | with_reducible exact OLe.none _ | with_reducible apply w_alive_f_c_le | with_reducible apply s_SquareWindings_f_c_le | with_reducible apply i_SquareWindings_f_c_le | with_reducible apply s_DrawSquareWindings_f_c_le | with_reducible apply w_sameInts_f_c_le | with_reducible apply i_GridNet_f_c_le | with_reducible apply i_WindingOf_f_c_le | with_reducible apply i_BorderTour_f_c_le | with_reducible apply i_FlatOk_f_c_le | with_reducible apply w_FnSquareWindings_l0_c_le | with_reducible apply w_FnSquareWindings_j1_c_le | with_reducible refine OLe.cond ?_ ?_ | with_reducible refine OLe.ite ?_ ?_ | with_reducible refine OLe.bind ?_ ?_ | intro _
end
theorem w_FnSquareWindings_f_c_le (n : Nat) (x : Ts w_FnSquareWindings_sig.pc) : OLe (w_FnSquareWindings_f_c n x) (w_FnSquareWindings_f x) := by
  rw [w_FnSquareWindings_f_c, w_FnSquareWindings_f_eq]
  repeat' first | with_reducible exact OLe.refl _ | with_reducible exact OLe.none _ | with_reducible apply w_alive_f_c_le | with_reducible apply s_SquareWindings_f_c_le | with_reducible apply i_SquareWindings_f_c_le | with_reducible apply s_DrawSquareWindings_f_c_le | with_reducible apply w_sameInts_f_c_le | with_reducible apply i_GridNet_f_c_le | with_reducible apply i_WindingOf_f_c_le | with_reducible apply i_BorderTour_f_c_le | with_reducible apply i_FlatOk_f_c_le | with_reducible apply w_FnSquareWindings_l0_c_le | with_reducible apply w_FnSquareWindings_j1_c_le | with_reducible refine OLe.cond ?_ ?_ | with_reducible refine OLe.ite ?_ ?_ | with_reducible refine OLe.bind ?_ ?_ | intro _
theorem w_FnSquareWindings_ent : Entb Try.prog 6 := ⟨Try.f6, by kernel_rfl, by kernel_rfl, by kernel_rfl⟩
theorem w_FnSquareWindings_ok : CtrOk Try.prog 6 ⟨w_FnSquareWindings_sig, w_FnSquareWindings_f⟩ :=
  ctr_of (fn := Try.f6) (by kernel_rfl) (by kernel_rfl) (fun x : Ts w_FnSquareWindings_sig.pc => w_FnSquareWindings_E) (fun x => ⟨(fn_cons ⟨w_alive_ok, w_alive_ent⟩ (fn_cons ⟨s_SquareWindings_ok, s_SquareWindings_ent⟩ (fn_cons ⟨i_SquareWindings_ok, i_SquareWindings_ent⟩ (fn_cons ⟨s_DrawSquareWindings_ok, s_DrawSquareWindings_ent⟩ (fn_cons ⟨w_sameInts_ok, w_sameInts_ent⟩ (fn_cons ⟨i_GridNet_ok, i_GridNet_ent⟩ (fn_cons ⟨i_WindingOf_ok, i_WindingOf_ent⟩ (fn_cons ⟨i_BorderTour_ok, i_BorderTour_ent⟩ (fn_cons ⟨i_FlatOk_ok, i_FlatOk_ent⟩ fn_none))))))))), clo_none, wr_none⟩) (fun h => by cases h) follows_ (fun _ _ => trivial)
end FN
set_option linter.unusedVariables false
namespace FN
open Go Go.Proofs
/-! loop.example/firingnets/impl.PlaceOk -/
@[reducible] def i_PlaceOk_sig : Sig := { ps := [some 3], pc := [.view .i64, .int .i64, .view .i64], rs := [none], rc := [.bool] }
noncomputable def i_PlaceOk_E : Env' := { fn := fun f => if f = 48 then some ⟨i_asked_sig, i_asked_f⟩ else none, ck := ckT, cuts := [], mine := fun i => false }
noncomputable def i_PlaceOk_f (x : Ts i_PlaceOk_sig.pc) : Option (Ts i_PlaceOk_sig.rc) := runFn Try.prog (i_PlaceOk_E) Try.f35 i_PlaceOk_sig x
theorem i_PlaceOk_f_eq (x0 : (List (Int))) (x1 : (Int)) (x2 : (List (Int))) : i_PlaceOk_f (x0, x1, x2) = (Option.bind (i_asked_f (x0, x1, x2)) fun r1 => (some r1)) := by
  kernel_rfl
theorem i_PlaceOk_ent : Entb Try.prog 35 := ⟨Try.f35, by kernel_rfl, by kernel_rfl, by kernel_rfl⟩
theorem i_PlaceOk_ok : CtrOk Try.prog 35 ⟨i_PlaceOk_sig, i_PlaceOk_f⟩ :=
  ctr_of (fn := Try.f35) (by kernel_rfl) (by kernel_rfl) (fun x : Ts i_PlaceOk_sig.pc => i_PlaceOk_E) (fun x => ⟨(fn_cons ⟨i_asked_ok, i_asked_ent⟩ fn_none), clo_none, wr_none⟩) (fun h => by cases h) follows_ (fun _ _ => trivial)
end FN
set_option linter.unusedVariables false
namespace FN
open Go Go.Proofs
/-! loop.example/firingnets/spec.PlaceOk -/
@[reducible] def s_PlaceOk_sig : Sig := { ps := [some 3], pc := [.view .i64, .int .i64, .view .i64], rs := [none], rc := [.bool] }
noncomputable def s_PlaceOk_E : Env' := { fn := fun f => if f = 46 then some ⟨s_l3Ok_sig, s_l3Ok_f⟩ else none, ck := ckT, cuts := [], mine := fun i => false }
noncomputable def s_PlaceOk_f (x : Ts s_PlaceOk_sig.pc) : Option (Ts s_PlaceOk_sig.rc) := runFn Try.prog (s_PlaceOk_E) Try.f33 s_PlaceOk_sig x
theorem s_PlaceOk_f_eq (x0 : (List (Int))) (x1 : (Int)) (x2 : (List (Int))) : s_PlaceOk_f (x0, x1, x2) = (Option.bind (s_l3Ok_f (x0, x1, x2)) fun r1 => (some r1)) := by
  kernel_rfl
theorem s_PlaceOk_ent : Entb Try.prog 33 := ⟨Try.f33, by kernel_rfl, by kernel_rfl, by kernel_rfl⟩
theorem s_PlaceOk_ok : CtrOk Try.prog 33 ⟨s_PlaceOk_sig, s_PlaceOk_f⟩ :=
  ctr_of (fn := Try.f33) (by kernel_rfl) (by kernel_rfl) (fun x : Ts s_PlaceOk_sig.pc => s_PlaceOk_E) (fun x => ⟨(fn_cons ⟨s_l3Ok_ok, s_l3Ok_ent⟩ fn_none), clo_none, wr_none⟩) (fun h => by cases h) follows_ (fun _ _ => trivial)
end FN
set_option linter.unusedVariables false
namespace FN
open Go Go.Proofs
/-! loop.example/firingnets/laws.toIntS -/
@[reducible] def w_toIntS_sig : Sig := { ps := [none], pc := [.view .i64], rs := [none], rc := [.row 3 .i64] }
noncomputable def w_toIntS_E : Env' := { fn := fun f => none, ck := ckT, cuts := [(3, [0, 3, 4])], mine := fun i => false }
noncomputable def w_toIntS_f (x : Ts w_toIntS_sig.pc) : Option (Ts w_toIntS_sig.rc) := runFn Try.prog (w_toIntS_E) Try.f21 w_toIntS_sig x
noncomputable def w_toIntS_l0 (y0 : List (Int)) (y1 : Int) (y2 : List (Int)) : Option ((List (Int))) := from_ Try.prog (w_toIntS_E) Try.f21 w_toIntS_sig [1, 1, 0, 1, 0] ⟨mkT 22 [(0, .row false .i64 y0), (3, .own 0), (4, .int .i64 y1)], [some (.arr 3 true .i64 y2)]⟩
theorem w_toIntS_f_eq (x0 : (List (Int))) : w_toIntS_f x0 = (if (0 : Int) ≤ (List.length x0 : Int) ∧ (List.length x0 : Int) * 8 ≤ 140737488355328 ∧ (List.length x0 : Int) ≤ 140737488355328 then (w_toIntS_l0 x0 0 (List.replicate ((List.length x0 : Int) : Int).toNat 0 : List (Int))) else none) := by
  kernel_rfl
theorem w_toIntS_l0_eq (y0 : List (Int)) (y1 : Int) (y2 : List (Int)) : w_toIntS_l0 y0 y1 y2 = (cond ((decide (y1 < (List.length y0 : Int)))) (if (0 : Int) ≤ y1 ∧ y1 < (List.length y0 : Int) then (if (0 : Int) ≤ y1 ∧ y1 < (List.length y2 : Int) then (w_toIntS_l0 y0 (IntKind.i64.wrap (y1 + 1)) (List.set y2 (y1 : Int).toNat (List.getD y0 (y1 : Int).toNat 0))) else none) else none) (some y2)) := by
  refine (loopK_eq Try.prog (w_toIntS_E) (sub (Try.f21.body.getD .skip) [1, 1, 0, 1, 0, 0]) _ _).trans ?_
  kernel_rfl
mutual
def w_toIntS_l0_c : Nat → (List (Int)) → (Int) → (List (Int)) → Option ((List (Int)))
  | 0, _, _, _ => none
  | n + 1, y0, y1, y2 => (cond ((decide (y1 < (List.length y0 : Int)))) (if (0 : Int) ≤ y1 ∧ y1 < (List.length y0 : Int) then (if (0 : Int) ≤ y1 ∧ y1 < (List.length y2 : Int) then (w_toIntS_l0_c n y0 (IntKind.i64.wrap (y1 + 1)) (List.set y2 (y1 : Int).toNat (List.getD y0 (y1 : Int).toNat 0))) else none) else none) (some y2))
end
def w_toIntS_f_c (n : Nat) : ((List (Int))) → Option ((List (Int)))
  | x0 => (if (0 : Int) ≤ (List.length x0 : Int) ∧ (List.length x0 : Int) * 8 ≤ 140737488355328 ∧ (List.length x0 : Int) ≤ 140737488355328 then (w_toIntS_l0_c n x0 0 (List.replicate ((List.length x0 : Int) : Int).toNat 0 : List (Int))) else none)
mutual
theorem w_toIntS_l0_c_le : (n : Nat) → (y0 : List (Int)) → (y1 : Int) → (y2 : List (Int)) → OLe (w_toIntS_l0_c n y0 y1 y2) (w_toIntS_l0 y0 y1 y2)
  | 0, _, _, _ => OLe.none _
  | n + 1, y0, y1, y2 => by
    rw [w_toIntS_l0_c, w_toIntS_l0_eq]
    repeat' first | with_reducible exact OLe.refl _ | with_reducible exact OLe.none _ | with_reducible apply w_toIntS_l0_c_le | with_reducible refine OLe.cond ?_ ?_ | with_reducible refine OLe.ite ?_ ?_ | with_reducible refine OLe.bind ?_ ?_ | intro _
end
theorem w_toIntS_f_c_le (n : Nat) (x : Ts w_toIntS_sig.pc) : OLe (w_toIntS_f_c n x) (w_toIntS_f x) := by
  rw [w_toIntS_f_c, w_toIntS_f_eq]
  repeat' first | with_reducible exact OLe.refl _ | with_reducible exact OLe.none _ | with_reducible apply w_toIntS_l0_c_le | with_reducible refine OLe.cond ?_ ?_ | with_reducible refine OLe.ite ?_ ?_ | with_reducible refine OLe.bind ?_ ?_ | intro _
theorem w_toIntS_ent : Entb Try.prog 21 := ⟨Try.f21, by kernel_rfl, by kernel_rfl, by kernel_rfl⟩
theorem w_toIntS_ok : CtrOk Try.prog 21 ⟨w_toIntS_sig, w_toIntS_f⟩ :=
  ctr_of (fn := Try.f21) (by kernel_rfl) (by kernel_rfl) (fun x : Ts w_toIntS_sig.pc => w_toIntS_E) (fun x => ⟨fn_none, clo_none, wr_none⟩) (fun h => by cases h) follows_ (fun _ _ => trivial)
end FN
set_option linter.unusedVariables false
namespace FN
open Go Go.Proofs
/-! loop.example/firingnets/laws.eqIntS -/
@[reducible] def w_eqIntS_sig : Sig := { ps := [none, none], pc := [.view .i64, .view .i64], rs := [none], rc := [.bool] }
noncomputable def w_eqIntS_E : Env' := { fn := fun f => none, ck := ckT, cuts := [(4, [0, 1, 5])], mine := fun i => false }
noncomputable def w_eqIntS_f (x : Ts w_eqIntS_sig.pc) : Option (Ts w_eqIntS_sig.rc) := runFn Try.prog (w_eqIntS_E) Try.f23 w_eqIntS_sig x
noncomputable def w_eqIntS_l0 (y0 : List (Int)) (y1 : List (Int)) (y2 : Int) : Option ((Bool)) := from_ Try.prog (w_eqIntS_E) Try.f23 w_eqIntS_sig [1, 1, 0, 1, 0] ⟨mkT 26 [(0, .row false .i64 y0), (1, .row false .i64 y1), (5, .int .i64 y2)], []⟩
theorem w_eqIntS_f_eq (x0 : (List (Int))) (x1 : (List (Int))) : w_eqIntS_f (x0, x1) = (cond (((List.length x0 : Int) != (List.length x1 : Int))) (some false) (w_eqIntS_l0 x0 x1 0)) := by
  kernel_rfl
theorem w_eqIntS_l0_eq (y0 : List (Int)) (y1 : List (Int)) (y2 : Int) : w_eqIntS_l0 y0 y1 y2 = (cond ((decide (y2 < (List.length y0 : Int)))) (if (0 : Int) ≤ y2 ∧ y2 < (List.length y0 : Int) then (if (0 : Int) ≤ y2 ∧ y2 < (List.length y1 : Int) then (cond (((List.getD y0 (y2 : Int).toNat 0) != (List.getD y1 (y2 : Int).toNat 0))) (some false) (w_eqIntS_l0 y0 y1 (IntKind.i64.wrap (y2 + 1)))) else none) else none) (some true)) := by
  refine (loopK_eq Try.prog (w_eqIntS_E) (sub (Try.f23.body.getD .skip) [1, 1, 0, 1, 0, 0]) _ _).trans ?_
  kernel_rfl
mutual
def w_eqIntS_l0_c : Nat → (List (Int)) → (List (Int)) → (Int) → Option ((Bool))
  | 0, _, _, _ => none
  | n + 1, y0, y1, y2 => (cond ((decide (y2 < (List.length y0 : Int)))) (if (0 : Int) ≤ y2 ∧ y2 < (List.length y0 : Int) then (if (0 : Int) ≤ y2 ∧ y2 < (List.length y1 : Int) then (cond (((List.getD y0 (y2 : Int).toNat 0) != (List.getD y1 (y2 : Int).toNat 0))) (some false) (w_eqIntS_l0_c n y0 y1 (IntKind.i64.wrap (y2 + 1)))) else none) else none) (some true))
end
def w_eqIntS_f_c (n : Nat) : ((List (Int))) × ((List (Int))) → Option ((Bool))
  | (x0, x1) => (cond (((List.length x0 : Int) != (List.length x1 : Int))) (some false) (w_eqIntS_l0_c n x0 x1 0))
mutual
theorem w_eqIntS_l0_c_le : (n : Nat) → (y0 : List (Int)) → (y1 : List (Int)) → (y2 : Int) → OLe (w_eqIntS_l0_c n y0 y1 y2) (w_eqIntS_l0 y0 y1 y2)
  | 0, _, _, _ => OLe.none _
  | n + 1, y0, y1, y2 => by
    rw [w_eqIntS_l0_c, w_eqIntS_l0_eq]
    repeat' first | with_reducible exact OLe.refl _ | with_reducible exact OLe.none _ | with_reducible apply w_eqIntS_l0_c_le | with_reducible refine OLe.cond ?_ ?_ | with_reducible refine OLe.ite ?_ ?_ | with_reducible refine OLe.bind ?_ ?_ | intro _
end
theorem w_eqIntS_f_c_le (n : Nat) (x : Ts w_eqIntS_sig.pc) : OLe (w_eqIntS_f_c n x) (w_eqIntS_f x) := by
  obtain ⟨x0, x1⟩ := x
  rw [w_eqIntS_f_c, w_eqIntS_f_eq]
  repeat' first | with_reducible exact OLe.refl _ | with_reducible exact OLe.none _ | with_reducible apply w_eqIntS_l0_c_le | with_reducible refine OLe.cond ?_ ?_ | with_reducible refine OLe.ite ?_ ?_ | with_reducible refine OLe.bind ?_ ?_ | intro _
theorem w_eqIntS_ent : Entb Try.prog 23 := ⟨Try.f23, by kernel_rfl, by kernel_rfl, by kernel_rfl⟩
theorem w_eqIntS_ok : CtrOk Try.prog 23 ⟨w_eqIntS_sig, w_eqIntS_f⟩ :=
  ctr_of (fn := Try.f23) (by kernel_rfl) (by kernel_rfl) (fun x : Ts w_eqIntS_sig.pc => w_eqIntS_E) (fun x => ⟨fn_none, clo_none, wr_none⟩) (fun h => by cases h) follows_ (fun _ _ => trivial)
end FN
set_option linter.unusedVariables false
namespace FN
open Go Go.Proofs
/-! loop.example/firingnets/laws.heldIntS -/
@[reducible] def w_heldIntS_sig : Sig := { ps := [none, none], pc := [.view .i64, .int .i64], rs := [none], rc := [.int .i64] }
noncomputable def w_heldIntS_E : Env' := { fn := fun f => none, ck := ckT, cuts := [(2, [0, 1, 5])], mine := fun i => false }
noncomputable def w_heldIntS_f (x : Ts w_heldIntS_sig.pc) : Option (Ts w_heldIntS_sig.rc) := runFn Try.prog (w_heldIntS_E) Try.f25 w_heldIntS_sig x
noncomputable def w_heldIntS_l0 (y0 : List (Int)) (y1 : Int) (y2 : Int) : Option ((Int)) := from_ Try.prog (w_heldIntS_E) Try.f25 w_heldIntS_sig [1, 0, 1, 0] ⟨mkT 21 [(0, .row false .i64 y0), (1, .int .i64 y1), (5, .int .i64 y2)], []⟩
theorem w_heldIntS_f_eq (x0 : (List (Int))) (x1 : (Int)) : w_heldIntS_f (x0, x1) = (w_heldIntS_l0 x0 x1 0) := by
  kernel_rfl
theorem w_heldIntS_l0_eq (y0 : List (Int)) (y1 : Int) (y2 : Int) : w_heldIntS_l0 y0 y1 y2 = (cond ((decide (y2 < (List.length y0 : Int)))) (if (0 : Int) ≤ y2 ∧ y2 < (List.length y0 : Int) then (cond (((List.getD y0 (y2 : Int).toNat 0) != y1)) (some (-1)) (w_heldIntS_l0 y0 (IntKind.i64.wrap (y1 + 1)) (IntKind.i64.wrap (y2 + 1)))) else none) (some y1)) := by
  refine (loopK_eq Try.prog (w_heldIntS_E) (sub (Try.f25.body.getD .skip) [1, 0, 1, 0, 0]) _ _).trans ?_
  kernel_rfl
mutual
def w_heldIntS_l0_c : Nat → (List (Int)) → (Int) → (Int) → Option ((Int))
  | 0, _, _, _ => none
  | n + 1, y0, y1, y2 => (cond ((decide (y2 < (List.length y0 : Int)))) (if (0 : Int) ≤ y2 ∧ y2 < (List.length y0 : Int) then (cond (((List.getD y0 (y2 : Int).toNat 0) != y1)) (some (-1)) (w_heldIntS_l0_c n y0 (IntKind.i64.wrap (y1 + 1)) (IntKind.i64.wrap (y2 + 1)))) else none) (some y1))
end
def w_heldIntS_f_c (n : Nat) : ((List (Int))) × ((Int)) → Option ((Int))
  | (x0, x1) => (w_heldIntS_l0_c n x0 x1 0)
mutual
theorem w_heldIntS_l0_c_le : (n : Nat) → (y0 : List (Int)) → (y1 : Int) → (y2 : Int) → OLe (w_heldIntS_l0_c n y0 y1 y2) (w_heldIntS_l0 y0 y1 y2)
  | 0, _, _, _ => OLe.none _
  | n + 1, y0, y1, y2 => by
    rw [w_heldIntS_l0_c, w_heldIntS_l0_eq]
    repeat' first | with_reducible exact OLe.refl _ | with_reducible exact OLe.none _ | with_reducible apply w_heldIntS_l0_c_le | with_reducible refine OLe.cond ?_ ?_ | with_reducible refine OLe.ite ?_ ?_ | with_reducible refine OLe.bind ?_ ?_ | intro _
end
theorem w_heldIntS_f_c_le (n : Nat) (x : Ts w_heldIntS_sig.pc) : OLe (w_heldIntS_f_c n x) (w_heldIntS_f x) := by
  obtain ⟨x0, x1⟩ := x
  rw [w_heldIntS_f_c, w_heldIntS_f_eq]
  repeat' first | with_reducible exact OLe.refl _ | with_reducible exact OLe.none _ | with_reducible apply w_heldIntS_l0_c_le | with_reducible refine OLe.cond ?_ ?_ | with_reducible refine OLe.ite ?_ ?_ | with_reducible refine OLe.bind ?_ ?_ | intro _
theorem w_heldIntS_ent : Entb Try.prog 25 := ⟨Try.f25, by kernel_rfl, by kernel_rfl, by kernel_rfl⟩
theorem w_heldIntS_ok : CtrOk Try.prog 25 ⟨w_heldIntS_sig, w_heldIntS_f⟩ :=
  ctr_of (fn := Try.f25) (by kernel_rfl) (by kernel_rfl) (fun x : Ts w_heldIntS_sig.pc => w_heldIntS_E) (fun x => ⟨fn_none, clo_none, wr_none⟩) (fun h => by cases h) follows_ (fun _ _ => trivial)
end FN
set_option linter.unusedVariables false
namespace FN
open Go Go.Proofs
/-! loop.example/firingnets/spec.PathNet -/
@[reducible] def s_PathNet_sig : Sig := { ps := [none], pc := [.int .i64], rs := [none], rc := [.row 3 .i64] }
noncomputable def s_PathNet_E : Env' := { fn := fun f => if f = 73 then some ⟨s_l1In_sig, s_l1In_f⟩ else none, ck := ckT, cuts := [(3, [0, 3, 4]), (8, [0, 3, 4, 5])], mine := fun i => false }
noncomputable def s_PathNet_f (x : Ts s_PathNet_sig.pc) : Option (Ts s_PathNet_sig.rc) := runFn Try.prog (s_PathNet_E) Try.f76 s_PathNet_sig x
noncomputable def s_PathNet_l0 (y0 : Int) (y1 : Int) (y2 : List (Int)) : Option ((List (Int))) := from_ Try.prog (s_PathNet_E) Try.f76 s_PathNet_sig [1, 1, 0, 1, 0] ⟨mkT 37 [(0, .int .i64 y0), (3, .own 0), (4, .int .i64 y1)], [some (.arr 3 true .i64 y2)]⟩
noncomputable def s_PathNet_j1 (y0 : Int) (y1 : Int) (y2 : Int) (y3 : List (Int)) : Option ((List (Int))) := from_ Try.prog (s_PathNet_E) Try.f76 s_PathNet_sig [1, 1, 0, 1, 0, 0, 1, 0, 0, 1, 1] ⟨mkT 37 [(0, .int .i64 y0), (3, .own 0), (4, .int .i64 y1), (5, .int .i64 y2)], [some (.arr 3 true .i64 y3)]⟩
theorem s_PathNet_f_eq (x0 : (Int)) : s_PathNet_f x0 = (s_PathNet_l0 x0 0 ([] : List (Int))) := by
  kernel_rfl
theorem s_PathNet_l0_eq (y0 : Int) (y1 : Int) (y2 : List (Int)) : s_PathNet_l0 y0 y1 y2 = (cond ((decide (y1 < y0))) (Option.bind (s_l1In_f (y0, 1, 6)) fun r1 => (cond (r1) (cond ((decide (0 < y1))) (if (IntKind.i64.wrap (y1 - 1)) < 0 then none else (s_PathNet_j1 y0 y1 (Go.bits .or IntKind.i64 0 (IntKind.i64.wrap (1 * 2 ^ min ((IntKind.i64.wrap (y1 - 1)) : Int).toNat IntKind.i64.bits))) y2)) (s_PathNet_j1 y0 y1 0 y2)) (some y2))) (some y2)) := by
  refine (loopK_eq Try.prog (s_PathNet_E) (sub (Try.f76.body.getD .skip) [1, 1, 0, 1, 0, 0]) _ _).trans ?_
  kernel_rfl
theorem s_PathNet_j1_eq (y0 : Int) (y1 : Int) (y2 : Int) (y3 : List (Int)) : s_PathNet_j1 y0 y1 y2 y3 = (cond ((decide ((IntKind.i64.wrap (y1 + 1)) < y0))) (if (IntKind.i64.wrap (y1 + 1)) < 0 then none else (if (List.length y3 + List.length ([(Go.bits .or IntKind.i64 y2 (IntKind.i64.wrap (1 * 2 ^ min ((IntKind.i64.wrap (y1 + 1)) : Int).toNat IntKind.i64.bits)))] : List (Int))) * 8 ≤ 140737488355328 then (s_PathNet_l0 y0 (IntKind.i64.wrap (y1 + 1)) (y3 ++ ([(Go.bits .or IntKind.i64 y2 (IntKind.i64.wrap (1 * 2 ^ min ((IntKind.i64.wrap (y1 + 1)) : Int).toNat IntKind.i64.bits)))] : List (Int)))) else none)) (if (List.length y3 + List.length ([y2] : List (Int))) * 8 ≤ 140737488355328 then (s_PathNet_l0 y0 (IntKind.i64.wrap (y1 + 1)) (y3 ++ ([y2] : List (Int)))) else none)) := by
  kernel_rfl
theorem s_PathNet_ent : Entb Try.prog 76 := ⟨Try.f76, by kernel_rfl, by kernel_rfl, by kernel_rfl⟩
theorem s_PathNet_ok : CtrOk Try.prog 76 ⟨s_PathNet_sig, s_PathNet_f⟩ :=
  ctr_of (fn := Try.f76) (by kernel_rfl) (by kernel_rfl) (fun x : Ts s_PathNet_sig.pc => s_PathNet_E) (fun x => ⟨(fn_cons ⟨s_l1In_ok, s_l1In_ent⟩ fn_none), clo_none, wr_none⟩) (fun h => by cases h) follows_ (fun _ _ => trivial)
end FN
set_option linter.unusedVariables false
namespace FN
open Go Go.Proofs
/-! loop.example/firingnets/spec.RingNet -/
@[reducible] def s_RingNet_sig : Sig := { ps := [none], pc := [.int .i64], rs := [none], rc := [.row 3 .i64] }
noncomputable def s_RingNet_E : Env' := { fn := fun f => if f = 73 then some ⟨s_l1In_sig, s_l1In_f⟩ else none, ck := ckT, cuts := [(3, [0, 3, 4])], mine := fun i => false }
noncomputable def s_RingNet_f (x : Ts s_RingNet_sig.pc) : Option (Ts s_RingNet_sig.rc) := runFn Try.prog (s_RingNet_E) Try.f77 s_RingNet_sig x
noncomputable def s_RingNet_l0 (y0 : Int) (y1 : Int) (y2 : List (Int)) : Option ((List (Int))) := from_ Try.prog (s_RingNet_E) Try.f77 s_RingNet_sig [1, 1, 0, 1, 0] ⟨mkT 32 [(0, .int .i64 y0), (3, .own 0), (4, .int .i64 y1)], [some (.arr 3 true .i64 y2)]⟩
theorem s_RingNet_f_eq (x0 : (Int)) : s_RingNet_f x0 = (s_RingNet_l0 x0 0 ([] : List (Int))) := by
  kernel_rfl
theorem s_RingNet_l0_eq (y0 : Int) (y1 : Int) (y2 : List (Int)) : s_RingNet_l0 y0 y1 y2 = (cond ((decide (y1 < y0))) (Option.bind (s_l1In_f (y0, 3, 6)) fun r1 => (cond (r1) (if y0 = 0 then none else (if (Int.tmod (IntKind.i64.wrap (y1 + 1)) y0) < 0 then none else (if y0 = 0 then none else (if (Int.tmod (IntKind.i64.wrap ((IntKind.i64.wrap (y1 + y0)) - 1)) y0) < 0 then none else (if (List.length y2 + List.length ([(Go.bits .or IntKind.i64 (IntKind.i64.wrap (1 * 2 ^ min ((Int.tmod (IntKind.i64.wrap (y1 + 1)) y0) : Int).toNat IntKind.i64.bits)) (IntKind.i64.wrap (1 * 2 ^ min ((Int.tmod (IntKind.i64.wrap ((IntKind.i64.wrap (y1 + y0)) - 1)) y0) : Int).toNat IntKind.i64.bits)))] : List (Int))) * 8 ≤ 140737488355328 then (s_RingNet_l0 y0 (IntKind.i64.wrap (y1 + 1)) (y2 ++ ([(Go.bits .or IntKind.i64 (IntKind.i64.wrap (1 * 2 ^ min ((Int.tmod (IntKind.i64.wrap (y1 + 1)) y0) : Int).toNat IntKind.i64.bits)) (IntKind.i64.wrap (1 * 2 ^ min ((Int.tmod (IntKind.i64.wrap ((IntKind.i64.wrap (y1 + y0)) - 1)) y0) : Int).toNat IntKind.i64.bits)))] : List (Int)))) else none))))) (some y2))) (some y2)) := by
  refine (loopK_eq Try.prog (s_RingNet_E) (sub (Try.f77.body.getD .skip) [1, 1, 0, 1, 0, 0]) _ _).trans ?_
  kernel_rfl
theorem s_RingNet_ent : Entb Try.prog 77 := ⟨Try.f77, by kernel_rfl, by kernel_rfl, by kernel_rfl⟩
theorem s_RingNet_ok : CtrOk Try.prog 77 ⟨s_RingNet_sig, s_RingNet_f⟩ :=
  ctr_of (fn := Try.f77) (by kernel_rfl) (by kernel_rfl) (fun x : Ts s_RingNet_sig.pc => s_RingNet_E) (fun x => ⟨(fn_cons ⟨s_l1In_ok, s_l1In_ent⟩ fn_none), clo_none, wr_none⟩) (fun h => by cases h) follows_ (fun _ _ => trivial)
end FN
set_option linter.unusedVariables false
namespace FN
open Go Go.Proofs
/-! loop.example/firingnets/spec.l20Net -/
@[reducible] def s_l20Net_sig : Sig := { rd := some 79, ps := [none], pc := [.view .u8, .int .i64, .int .i64], rs := [none], rc := [.row 3 .i64, .int .i64] }
noncomputable def s_l20Net_E (b : List Int) : Env' := { keep := [0], rdb := b, fn := fun f => if f = 58 then some ⟨r_pick_sig, r_pick_f⟩ else if f = 61 then some ⟨r_odd_sig, r_odd_f⟩ else if f = 76 then some ⟨s_PathNet_sig, s_PathNet_f⟩ else if f = 77 then some ⟨s_RingNet_sig, s_RingNet_f⟩ else none, ck := ckT, cuts := [(9, [0, 1, 5, 6]), (10, [0, 1, 5, 6, 7]), (17, [0, 1, 5, 6])], mine := fun i => i == 11 || i == 14 || i == 16 || i == 22 || i == 28 || i == 35 || i == 38 || i == 64 || i == 66 }
noncomputable def s_l20Net_f (x : Ts s_l20Net_sig.pc) : Option (Ts s_l20Net_sig.rc) := runFn Try.prog (s_l20Net_E x.1) Try.f69 s_l20Net_sig x
noncomputable def s_l20Net_j0 (b : List Int) (y0 : Int) (y1 : Int) (y2 : List (Int)) (y3 : Int) (y4 : List (Int)) : Option ((List (Int)) × (Int)) := from_ Try.prog (s_l20Net_E b) Try.f69 s_l20Net_sig [1, 1, 1, 1] ⟨mkT 92 [(0, .ptr 0 0), (1, .int .i64 y0), (5, .int .i64 y1), (6, .own 1)], [some (.box 79 [.row false .u8 y2, .int .i64 y3]), some (.arr 3 true .i64 y4)]⟩
noncomputable def s_l20Net_l1 (b : List Int) (y0 : Int) (y1 : Int) (y2 : Int) (y3 : List (Int)) (y4 : Int) (y5 : List (Int)) : Option ((List (Int)) × (Int)) := from_ Try.prog (s_l20Net_E b) Try.f69 s_l20Net_sig [1, 1, 1, 1, 0, 1, 0] ⟨mkT 92 [(0, .ptr 0 0), (1, .int .i64 y0), (5, .int .i64 y1), (6, .own 1), (7, .int .i64 y2)], [some (.box 79 [.row false .u8 y3, .int .i64 y4]), some (.arr 3 true .i64 y5)]⟩
noncomputable def s_l20Net_j2 (b : List Int) (y0 : Int) (y1 : Int) (y2 : List (Int)) (y3 : Int) (y4 : List (Int)) : Option ((List (Int)) × (Int)) := from_ Try.prog (s_l20Net_E b) Try.f69 s_l20Net_sig [1, 1, 1, 1, 1] ⟨mkT 92 [(0, .ptr 0 0), (1, .int .i64 y0), (5, .int .i64 y1), (6, .own 1)], [some (.box 79 [.row false .u8 y2, .int .i64 y3]), some (.arr 3 true .i64 y4)]⟩
theorem s_l20Net_f_eq (x0 : (List (Int))) (x1 : (Int)) (x2 : (Int)) : s_l20Net_f (x0, x1, x2) = (Option.bind (r_pick_f (x0, x1, 6)) fun r1 => (Option.bind (s_PathNet_f (IntKind.i64.wrap (1 + r1.1))) fun r2 => (Option.bind (r_pick_f (x0, r1.2, 4)) fun r3 => (cond ((r3.1 == 0)) (cond ((decide (3 ≤ (IntKind.i64.wrap (1 + r1.1))))) (Option.bind (s_RingNet_f (IntKind.i64.wrap (1 + r1.1))) fun r4 => (s_l20Net_j0 x0 x2 (IntKind.i64.wrap (1 + r1.1)) x0 r3.2 r4)) (s_l20Net_j0 x0 x2 (IntKind.i64.wrap (1 + r1.1)) x0 r3.2 r2)) (cond ((r3.1 == 1)) (if (0 : Int) ≤ (IntKind.i64.wrap (1 + r1.1)) ∧ (IntKind.i64.wrap (1 + r1.1)) * 8 ≤ 140737488355328 ∧ (IntKind.i64.wrap (1 + r1.1)) ≤ 140737488355328 then (s_l20Net_j0 x0 x2 (IntKind.i64.wrap (1 + r1.1)) x0 r3.2 (List.replicate ((IntKind.i64.wrap (1 + r1.1)) : Int).toNat 0 : List (Int))) else none) (s_l20Net_j0 x0 x2 (IntKind.i64.wrap (1 + r1.1)) x0 r3.2 r2)))))) := by
  kernel_rfl
theorem s_l20Net_j0_eq (b : List Int) (y0 : Int) (y1 : Int) (y2 : List (Int)) (y3 : Int) (y4 : List (Int)) : s_l20Net_j0 b y0 y1 y2 y3 y4 = (Option.bind (r_pick_f (y2, y3, 6)) fun r1 => (s_l20Net_l1 b y0 y1 r1.1 y2 r1.2 y4)) := by
  kernel_rfl
theorem s_l20Net_l1_eq (b : List Int) (y0 : Int) (y1 : Int) (y2 : Int) (y3 : List (Int)) (y4 : Int) (y5 : List (Int)) : s_l20Net_l1 b y0 y1 y2 y3 y4 y5 = (cond ((decide (0 < y2))) (Option.bind (r_pick_f (y3, y4, y1)) fun r1 => (Option.bind (r_pick_f (y3, r1.2, y1)) fun r2 => (cond ((r1.1 != r2.1)) (if (0 : Int) ≤ r1.1 ∧ r1.1 < (List.length y5 : Int) then (if r2.1 < 0 then none else (if (0 : Int) ≤ r1.1 ∧ r1.1 < (List.length y5 : Int) then (if (0 : Int) ≤ r2.1 ∧ r2.1 < (List.length (List.set y5 (r1.1 : Int).toNat (Go.bits .or IntKind.i64 (List.getD y5 (r1.1 : Int).toNat 0) (IntKind.i64.wrap (1 * 2 ^ min (r2.1 : Int).toNat IntKind.i64.bits)))) : Int) then (if r1.1 < 0 then none else (if (0 : Int) ≤ r2.1 ∧ r2.1 < (List.length (List.set y5 (r1.1 : Int).toNat (Go.bits .or IntKind.i64 (List.getD y5 (r1.1 : Int).toNat 0) (IntKind.i64.wrap (1 * 2 ^ min (r2.1 : Int).toNat IntKind.i64.bits)))) : Int) then (s_l20Net_l1 b y0 y1 (IntKind.i64.wrap (y2 - 1)) y3 r2.2 (List.set (List.set y5 (r1.1 : Int).toNat (Go.bits .or IntKind.i64 (List.getD y5 (r1.1 : Int).toNat 0) (IntKind.i64.wrap (1 * 2 ^ min (r2.1 : Int).toNat IntKind.i64.bits)))) (r2.1 : Int).toNat (Go.bits .or IntKind.i64 (List.getD (List.set y5 (r1.1 : Int).toNat (Go.bits .or IntKind.i64 (List.getD y5 (r1.1 : Int).toNat 0) (IntKind.i64.wrap (1 * 2 ^ min (r2.1 : Int).toNat IntKind.i64.bits)))) (r2.1 : Int).toNat 0) (IntKind.i64.wrap (1 * 2 ^ min (r1.1 : Int).toNat IntKind.i64.bits))))) else none)) else none) else none)) else none) (s_l20Net_l1 b y0 y1 (IntKind.i64.wrap (y2 - 1)) y3 r2.2 y5)))) (s_l20Net_j2 b y0 y1 y3 y4 y5)) := by
  refine (loopK_eq Try.prog (s_l20Net_E b) (sub (Try.f69.body.getD .skip) [1, 1, 1, 1, 0, 1, 0, 0]) _ _).trans ?_
  kernel_rfl
theorem s_l20Net_j2_eq (b : List Int) (y0 : Int) (y1 : Int) (y2 : List (Int)) (y3 : Int) (y4 : List (Int)) : s_l20Net_j2 b y0 y1 y2 y3 y4 = (Option.bind (r_odd_f (y2, y3, y0)) fun r1 => (cond (r1.1) (Option.bind (r_pick_f (y2, r1.2, 3)) fun r2 => (cond ((r2.1 == 0)) (if 79 = 79 ∧ y2 = b then (some (([] : List (Int)), r2.2)) else none) (cond ((r2.1 == 1)) (if (0 : Int) ≤ 0 ∧ 0 < (List.length y4 : Int) then (if (0 : Int) ≤ 0 ∧ 0 < (List.length y4 : Int) then (if 79 = 79 ∧ y2 = b then (some ((List.set y4 (0 : Int).toNat (Go.bits .or IntKind.i64 (List.getD y4 (0 : Int).toNat 0) 1)), r2.2)) else none) else none) else none) (if (0 : Int) ≤ 0 ∧ 0 < (List.length y4 : Int) then (if (IntKind.i64.wrap (y1 - 1)) < 0 then none else (if (0 : Int) ≤ 0 ∧ 0 < (List.length y4 : Int) then (cond ((y1 == 1)) (if (0 : Int) ≤ 0 ∧ 0 < (List.length (List.set y4 (0 : Int).toNat (Go.bits .xor IntKind.i64 (List.getD y4 (0 : Int).toNat 0) (IntKind.i64.wrap (1 * 2 ^ min ((IntKind.i64.wrap (y1 - 1)) : Int).toNat IntKind.i64.bits)))) : Int) then (if 79 = 79 ∧ y2 = b then (some ((List.set (List.set y4 (0 : Int).toNat (Go.bits .xor IntKind.i64 (List.getD y4 (0 : Int).toNat 0) (IntKind.i64.wrap (1 * 2 ^ min ((IntKind.i64.wrap (y1 - 1)) : Int).toNat IntKind.i64.bits)))) (0 : Int).toNat (-1)), r2.2)) else none) else none) (if 79 = 79 ∧ y2 = b then (some ((List.set y4 (0 : Int).toNat (Go.bits .xor IntKind.i64 (List.getD y4 (0 : Int).toNat 0) (IntKind.i64.wrap (1 * 2 ^ min ((IntKind.i64.wrap (y1 - 1)) : Int).toNat IntKind.i64.bits)))), r2.2)) else none)) else none)) else none)))) (if 79 = 79 ∧ y2 = b then (some (y4, r1.2)) else none))) := by
  kernel_rfl
theorem s_l20Net_ent : Entb Try.prog 69 := ⟨Try.f69, by kernel_rfl, by kernel_rfl, by kernel_rfl⟩
theorem s_l20Net_ok : CtrOk Try.prog 69 ⟨s_l20Net_sig, s_l20Net_f⟩ :=
  ctr_of (fn := Try.f69) (by kernel_rfl) (by kernel_rfl) (fun x : Ts s_l20Net_sig.pc => s_l20Net_E x.1) (fun x => ⟨(fn_cons ⟨r_pick_ok, r_pick_ent⟩ (fn_cons ⟨r_odd_ok, r_odd_ent⟩ (fn_cons ⟨s_PathNet_ok, s_PathNet_ent⟩ (fn_cons ⟨s_RingNet_ok, s_RingNet_ent⟩ fn_none)))), clo_none, wr_none⟩) (fun _ x => ⟨rfl, fun b ps h => rd_head h⟩) follows_ (fun _ _ => trivial)
end FN
set_option linter.unusedVariables false
namespace FN
open Go Go.Proofs
/-! loop.example/firingnets/spec.l20Place -/
@[reducible] def s_l20Place_sig : Sig := { rd := some 79, ps := [none], pc := [.view .u8, .int .i64, .int .i64], rs := [some 3], rc := [.row 3 .i64, .int .i64, .row 3 .i64, .int .i64] }
noncomputable def s_l20Place_E (b : List Int) : Env' := { keep := [0], rdb := b, fn := fun f => if f = 51 then some ⟨s_l20State_sig, s_l20State_f⟩ else if f = 58 then some ⟨r_pick_sig, r_pick_f⟩ else if f = 61 then some ⟨r_odd_sig, r_odd_f⟩ else if f = 69 then some ⟨s_l20Net_sig, s_l20Net_f⟩ else none, ck := ckT, cuts := [], mine := fun i => i == 7 || i == 9 || i == 11 || i == 21 || i == 25 || i == 27 || i == 40 }
noncomputable def s_l20Place_f (x : Ts s_l20Place_sig.pc) : Option (Ts s_l20Place_sig.rc) := runFn Try.prog (s_l20Place_E x.1) Try.f57 s_l20Place_sig x
theorem s_l20Place_f_eq (x0 : (List (Int))) (x1 : (Int)) (x2 : (Int)) : s_l20Place_f (x0, x1, x2) = (Option.bind (s_l20Net_f (x0, x1, 0)) fun r1 => (Option.bind (r_pick_f (x0, r1.2, 3)) fun r2 => (Option.bind (r_pick_f (x0, r2.2, 2)) fun r3 => (Option.bind (s_l20State_f (x0, r3.2, (List.length r1.1 : Int), (IntKind.i64.wrap (3 + (IntKind.i64.wrap (r2.1 * r3.1)))), 0)) fun r4 => (Option.bind (r_odd_f (x0, r4.2, x2)) fun r5 => (cond (r5.1) (Option.bind (r_pick_f (x0, r5.2, 3)) fun r6 => (cond ((r6.1 == 0)) (if (List.length r4.1 + List.length ([0] : List (Int))) * 8 ≤ 140737488355328 then (if 79 = 79 ∧ x0 = x0 then (some (r1.1, (IntKind.i64.wrap (3 + (IntKind.i64.wrap (r2.1 * r3.1)))), (r4.1 ++ ([0] : List (Int))), r6.2)) else none) else none) (cond ((r6.1 == 1)) (Option.bind (r_pick_f (x0, r6.2, 2)) fun r7 => (if (0 : Int) ≤ r7.1 ∧ r7.1 < (List.length ([2, 6] : List (Int)) : Int) then (if 79 = 79 ∧ x0 = x0 then (some (r1.1, (List.getD ([2, 6] : List (Int)) (r7.1 : Int).toNat 0), r4.1, r7.2)) else none) else none)) (if 79 = 79 ∧ x0 = x0 then (some ([], 0, [], r6.2)) else none)))) (if 79 = 79 ∧ x0 = x0 then (some (r1.1, (IntKind.i64.wrap (3 + (IntKind.i64.wrap (r2.1 * r3.1)))), r4.1, r5.2)) else none))))))) := by
  kernel_rfl
theorem s_l20Place_ent : Entb Try.prog 57 := ⟨Try.f57, by kernel_rfl, by kernel_rfl, by kernel_rfl⟩
theorem s_l20Place_ok : CtrOk Try.prog 57 ⟨s_l20Place_sig, s_l20Place_f⟩ :=
  ctr_of (fn := Try.f57) (by kernel_rfl) (by kernel_rfl) (fun x : Ts s_l20Place_sig.pc => s_l20Place_E x.1) (fun x => ⟨(fn_cons ⟨s_l20State_ok, s_l20State_ent⟩ (fn_cons ⟨r_pick_ok, r_pick_ent⟩ (fn_cons ⟨r_odd_ok, r_odd_ent⟩ (fn_cons ⟨s_l20Net_ok, s_l20Net_ent⟩ fn_none)))), clo_none, wr_none⟩) (fun _ x => ⟨rfl, fun b ps h => rd_head h⟩) follows_ (fun _ _ => trivial)
end FN
/-! What writes one number behind the other into a row. -/
namespace FN
open Go Go.Proofs
noncomputable def E0 : Env' := { fn := fun _ => none, ck := ckT, cuts := [], mine := fun _ => false }
theorem E0c : E0.cuts = [] := rfl
theorem E0_ok : EnvOk Try.prog E0 := ⟨fn_none, clo_none, wr_none⟩
noncomputable def mB : Code := sub (Try.f24.body.getD .skip) [1, 0, 1, 0, 0]
theorem m_el : elemT Try.prog 22 = some 3 := by kernel_rfl
theorem m_sz : szOf Try.prog 3 = 1 := by kernel_rfl
theorem m_info : (Try.prog.info? 3).isSome = true := by kernel_rfl
section
variable {R : Type} {id : Nat} {e : TypeId} {f : Bool}
theorem m_store {h : Hp} {xs : List Int} (hg : h.get id = some (.arr e f .i64 xs)) (n : Nat) (k : Int) (K : Hp → Option R) :
    storeK Try.prog 3 (.ep id .i64 n 0) (.int .i64 k) h K = K (h.set id (some (.arr e f .i64 (xs.set n k)))) := by
  simp only [storeK, cellsOf, frzs, frz, hg, m_sz, m_info]
  simp [CK.sz, oneP, CK.flds, decE]
theorem m_iter {h : Hp} {xs : List Int} (hg : h.get id = some (.arr e f .i64 xs)) (hl : xs.length ≤ 4611686018427387904) {i k : Int} (hi : 0 ≤ i) (hi' : i ≤ xs.length) (hk : 0 ≤ k) (hk' : k ≤ 4611686018427387904) (a2 a3 a4 a6 a7 a8 a9 a10 a11 a12 a13 a14 a15 a16 a17 a18 : PV) (K : AX → St → Option R) :
    exCode Try.prog E0 mB ⟨[.own id, .int .i64 k, a2, a3, a4, .int .i64 i, a6, a7, a8, a9, a10, a11, a12, a13, a14, a15, a16, a17, a18], h⟩ K =
      if i < xs.length then K .norm ⟨[.own id, .int .i64 (k + 1), a2, a3, a4, .int .i64 (i + 1), .int .i64 i, .own id, .int .i64 xs.length, .bool true, .int .i64 i, .int .i64 (i + 1), .own id, .int .i64 i, .int .i64 k, .ep id .i64 i.toNat 0, .int .i64 k, .int .i64 (k + 1), a18], h.set id (some (.arr e f .i64 (xs.set i.toNat k)))⟩
      else K (.ex 0) ⟨[.own id, .int .i64 k, a2, a3, a4, .int .i64 i, .int .i64 i, .own id, .int .i64 xs.length, .bool false, a10, a11, a12, a13, a14, a15, a16, a17, a18], h⟩ := by
  have w1 : IntKind.i64.wrap (k + 1) = k + 1 := by simp [IntKind.wrap, IntKind.bits, IntKind.signed]; split <;> omega
  have w2 : IntKind.i64.wrap (i + 1) = i + 1 := by simp [IntKind.wrap, IntKind.bits, IntKind.signed]; split <;> omega
  simp only [mB, sub, Try.f24, Option.getD_some, exCode, cutS0 E0c]
  simp only [regOrd, Bool.false_eq_true, if_false, exOps, opK, ev, ofVal, List.getD_cons_zero, List.getD_cons_succ, putT, List.set_cons_zero, List.set_cons_succ]
  simp only [lenK, hg, m_el, Option.isSome_some, if_true, binK]
  by_cases c : i < xs.length
  · rw [if_pos c]
    simp only [decide_eq_true c, cond_true, m_sz, CK.sz, if_true]
    rw [if_pos ⟨hi, c⟩, m_store hg]
    simp only [w1, w2]
  · rw [if_neg c]
    simp only [decide_eq_false c, cond_false]
theorem get_set {h : Hp} {b b' : Blk} (hg : h.get id = some b) : Hp.get (h.set id (some b')) id = some b' := by
  have hl : id < h.length := by
    rcases Nat.lt_or_ge id h.length with hh | hh
    · exact hh
    · simp [Hp.get, List.getElem?_eq_none hh] at hg
  simp [Hp.get, hl]
theorem hset_same {h : Hp} {b : Blk} (hg : h.get id = some b) : h.set id (some b) = h := by
  apply List.ext_getElem?
  intro j
  rw [List.getElem?_set]
  split
  · rename_i e
    subst e
    split
    · rename_i hl
      simp only [Hp.get] at hg
      rw [List.getElem?_eq_getElem hl] at hg ⊢
      simp only [Option.getD_some] at hg
      rw [hg]
    · rename_i hl
      rw [List.getElem?_eq_none (by omega)]
  · rfl
theorem m_loop (r : Option R) (K : AX → St → Option R) : ∀ (n : Nat) {h : Hp} {xs : List Int} (_ : h.get id = some (.arr e f .i64 xs)) (_ : xs.length ≤ 4611686018427387904) {i k : Int} (_ : 0 ≤ i) (_ : i + n = xs.length) (_ : 0 ≤ k) (_ : k + n ≤ 4611686018427387904) (a2 a3 a4 a6 a7 a8 a9 a10 a11 a12 a13 a14 a15 a16 a17 a18 : PV),
    (∀ c6 c7 c8 c9 c10 c11 c12 c13 c14 c15 c16 c17 : PV, K (.ex 0) ⟨[.own id, .int .i64 (k + n), a2, a3, a4, .int .i64 (i + n), c6, c7, c8, c9, c10, c11, c12, c13, c14, c15, c16, c17, a18], h.set id (some (.arr e f .i64 (xs.take i.toNat ++ markL k (xs.drop i.toNat))))⟩ = r) →
    loopK E0 (exCode Try.prog E0 mB) mB ⟨[.own id, .int .i64 k, a2, a3, a4, .int .i64 i, a6, a7, a8, a9, a10, a11, a12, a13, a14, a15, a16, a17, a18], h⟩ K = r := by
  intro n
  induction n with
  | zero =>
    intro h xs hg hl i k hi hn hk hk' a2 a3 a4 a6 a7 a8 a9 a10 a11 a12 a13 a14 a15 a16 a17 a18 hr
    rw [loopK_eq, m_iter hg hl hi (by omega) hk (by omega), if_neg (by omega)]
    simp only
    have e1 : xs.take i.toNat ++ markL k (xs.drop i.toNat) = xs := by
      rw [List.drop_eq_nil_of_le (by omega), List.take_of_length_le (by omega)]
      simp [markL]
    rw [e1, hset_same hg] at hr
    have := hr (.int .i64 i) (.own id) (.int .i64 xs.length) (.bool false) a10 a11 a12 a13 a14 a15 a16 a17
    simpa using this
  | succ n ih =>
    intro h xs hg hl i k hi hn hk hk' a2 a3 a4 a6 a7 a8 a9 a10 a11 a12 a13 a14 a15 a16 a17 a18 hr
    rw [loopK_eq, m_iter hg hl hi (by omega) hk (by omega), if_pos (by omega)]
    simp only
    rw [cutK0 E0c]
    refine ih (get_set hg) (by rw [List.length_set]; exact hl) (by omega) (by rw [List.length_set]; omega) (by omega) (by omega) a2 a3 a4 _ _ _ _ _ _ _ _ _ _ _ _ a18 fun c6 c7 c8 c9 c10 c11 c12 c13 c14 c15 c16 c17 => ?_
    have := hr c6 c7 c8 c9 c10 c11 c12 c13 c14 c15 c16 c17
    rw [List.set_set]
    have hlt : i.toNat < xs.length := by omega
    have e1 : (xs.set i.toNat k).take (i + 1).toNat ++ markL (k + 1) ((xs.set i.toNat k).drop (i + 1).toNat) = xs.take i.toNat ++ markL k (xs.drop i.toNat) := by
      rw [show (i + 1).toNat = i.toNat + 1 by omega, List.drop_eq_getElem_cons hlt, markL, List.take_succ_eq_append_getElem (by simpa using hlt), List.append_assoc]
      congr 1
      · rw [List.take_set_of_le (Nat.le_refl _)]
      · rw [List.getElem_set_self, List.drop_set_of_lt (Nat.lt_succ_self _)]
        rfl
    rw [e1, show k + 1 + (n : Int) = k + ((n + 1 : Nat) : Int) by omega, show i + 1 + (n : Int) = i + ((n + 1 : Nat) : Int) by omega]
    exact this
end
noncomputable def mR0 : Code := sub (Try.f24.body.getD .skip) [0]
noncomputable def mR1 : Code := sub (Try.f24.body.getD .skip) [1, 0, 0]
noncomputable def mR6 : Code := sub (Try.f24.body.getD .skip) [1, 1, 0]
theorem m_body : Try.f24.body.getD .skip = .seq mR0 (.seq (.seq mR1 (.block 0 (.loop mB))) (.seq mR6 .ret)) := by kernel_rfl
theorem m_r0 {R : Type} (p0 p1 p2 p3 p4 p5 p6 p7 p8 p9 p10 p11 p12 p13 p14 p15 p16 p17 p18 : PV) (h : Hp) (K : AX → St → Option R) :
    exCode Try.prog E0 mR0 ⟨[p0, p1, p2, p3, p4, p5, p6, p7, p8, p9, p10, p11, p12, p13, p14, p15, p16, p17, p18], h⟩ K = K .norm ⟨[p0, p1, p2, p3, .int .i64 0, p5, p6, p7, p8, p9, p10, p11, p12, p13, p14, p15, p16, p17, p18], h⟩ := by kernel_rfl
theorem m_r1 {R : Type} (p0 p1 p2 p3 p4 p5 p6 p7 p8 p9 p10 p11 p12 p13 p14 p15 p16 p17 p18 : PV) (h : Hp) (K : AX → St → Option R) :
    exCode Try.prog E0 mR1 ⟨[p0, p1, p2, p3, p4, p5, p6, p7, p8, p9, p10, p11, p12, p13, p14, p15, p16, p17, p18], h⟩ K = K .norm ⟨[p0, p1, p2, p3, p4, .int .i64 0, p6, p7, p8, p9, p10, p11, p12, p13, p14, p15, p16, p17, p18], h⟩ := by kernel_rfl
theorem m_r6 {R : Type} (p0 p1 p2 p3 p4 p5 p6 p7 p8 p9 p10 p11 p12 p13 p14 p15 p16 p17 p18 : PV) (h : Hp) (K : AX → St → Option R) :
    exCode Try.prog E0 mR6 ⟨[p0, p1, p2, p3, p4, p5, p6, p7, p8, p9, p10, p11, p12, p13, p14, p15, p16, p17, p18], h⟩ K = K .norm ⟨[p0, p1, p2, p3, p1, p5, p6, p7, p8, p9, p10, p11, p12, p13, p14, p15, p16, p17, p1], h⟩ := by kernel_rfl
theorem m_end (p0 p1 p2 p3 p4 p5 p6 p7 p8 p9 p10 p11 p12 p13 p14 p15 p16 p17 p18 : PV) (h : Hp) :
    endW Try.prog Try.f24 .ret ⟨[p0, p1, p2, p3, p4, p5, p6, p7, p8, p9, p10, p11, p12, p13, p14, p15, p16, p17, p18], h⟩ = some (p4, h) := by kernel_rfl
theorem exSeq {R : Type} {x y : Code} {s : St} {K : AX → St → Option R} : exCode Try.prog E0 (.seq x y) s K = exCode Try.prog E0 x s (fun e s' => match e with | .norm => exCode Try.prog E0 y s' K | e => K e s') := by
  rw [exCode]
  congr 1
  funext e s'
  cases e <;> first | rfl | exact cutS0 E0c
theorem exBlock {R : Type} {i : Nat} {b : Code} {s : St} {K : AX → St → Option R} : exCode Try.prog E0 (.block i b) s K = exCode Try.prog E0 b s (fun e s' => match e with | .ex j => if j = i then K .norm s' else K (.ex j) s' | e => K e s') := by
  rw [exCode]
  congr 1
theorem exLoop {R : Type} {b : Code} {s : St} {K : AX → St → Option R} : exCode Try.prog E0 (.loop b) s K = loopK E0 (exCode Try.prog E0 b) b s K := by
  rw [exCode, cutK0 E0c]
theorem exRet {R : Type} {s : St} {K : AX → St → Option R} : exCode Try.prog E0 .ret s K = K .ret s := by rw [exCode]
theorem m_whole {p0 p1 : PV} {h : Hp} {r : Option (PV × Hp)} (hl : ∀ K : AX → St → Option (PV × Hp), (∀ c2 c3 c4 c6 c7 c8 c9 c10 c11 c12 c13 c14 c15 c16 c17 c18 k i q g, K (.ex 0) ⟨[q, k, c2, c3, c4, i, c6, c7, c8, c9, c10, c11, c12, c13, c14, c15, c16, c17, c18], g⟩ = some (k, g)) → loopK E0 (exCode Try.prog E0 mB) mB ⟨[p0, p1, .junk, .junk, .int .i64 0, .int .i64 0, .junk, .junk, .junk, .junk, .junk, .junk, .junk, .junk, .junk, .junk, .junk, .junk, .junk], h⟩ K = r) :
    exCode Try.prog E0 (Try.f24.body.getD .skip) ⟨[p0, p1] ++ List.replicate (Try.f24.ntmps - 2) .junk, h⟩ (endW Try.prog Try.f24) = r := by
  have e : List.replicate (Try.f24.ntmps - 2) PV.junk = [.junk, .junk, .junk, .junk, .junk, .junk, .junk, .junk, .junk, .junk, .junk, .junk, .junk, .junk, .junk, .junk, .junk] := by kernel_rfl
  rw [m_body, e, exSeq, List.cons_append, List.cons_append, List.nil_append, m_r0]
  simp only
  rw [exSeq, exSeq, m_r1]
  simp only
  rw [exBlock, exLoop]
  refine hl _ fun c2 c3 c4 c6 c7 c8 c9 c10 c11 c12 c13 c14 c15 c16 c17 c18 k i q g => ?_
  simp only [if_true]
  rw [exSeq, m_r6]
  simp only
  rw [exRet]
  exact m_end _ _ _ _ _ _ _ _ _ _ _ _ _ _ _ _ _ _ _ g
theorem ints_run {id : Nat} {e : TypeId} {f : Bool} {h : Hp} {xs : List Int} (hg : h.get id = some (.arr e f .i64 xs)) {k : Int} (hk : 0 ≤ k) (hk' : k + xs.length ≤ 4611686018427387904) :
    exCode Try.prog E0 (Try.f24.body.getD .skip) ⟨[.own id, .int .i64 k] ++ List.replicate (Try.f24.ntmps - 2) .junk, h⟩ (endW Try.prog Try.f24) = some (.int .i64 (k + xs.length), h.set id (some (.arr e f .i64 (markL k xs)))) :=
  m_whole fun K hK => m_loop _ K xs.length hg (by omega) (by omega) (by omega) hk hk' _ _ _ _ _ _ _ _ _ _ _ _ _ _ _ _ fun c6 c7 c8 c9 c10 c11 c12 c13 c14 c15 c16 c17 => hK _ _ _ _ _ _ _ _ _ _ _ _ _ _ _ _ _ _ _ _
theorem m_nil {R : Type} (h : Hp) (p1 : PV) (K : AX → St → Option R) : exCode Try.prog E0 mB ⟨[.nilS, p1, .junk, .junk, .int .i64 0, .int .i64 0, .junk, .junk, .junk, .junk, .junk, .junk, .junk, .junk, .junk, .junk, .junk, .junk, .junk], h⟩ K = K (.ex 0) ⟨[.nilS, p1, .junk, .junk, .int .i64 0, .int .i64 0, .int .i64 0, .nilS, .int .i64 0, .bool false, .junk, .junk, .junk, .junk, .junk, .junk, .junk, .junk, .junk], h⟩ := by kernel_rfl
theorem ints_nil {h : Hp} {k : Int} : exCode Try.prog E0 (Try.f24.body.getD .skip) ⟨[.nilS, .int .i64 k] ++ List.replicate (Try.f24.ntmps - 2) .junk, h⟩ (endW Try.prog Try.f24) = some (.int .i64 k, h) :=
  m_whole fun K hK => by
    rw [loopK_eq, m_nil]
    exact hK _ _ _ _ _ _ _ _ _ _ _ _ _ _ _ _ _ _ _ _
theorem w_markIntS_mk : MkOk Try.prog 24 .ints := by
  intro ps h h' p pin base w ρ us hk hI hH hus
  have fin : exCode Try.prog E0 (Try.f24.body.getD .skip) ⟨ps ++ List.replicate (Try.f24.ntmps - ps.length) .junk, h⟩ (endW Try.prog Try.f24) = some (p, h') := by
    unfold markK at hk
    split at hk
    · rename_i q k _
      unfold markI at hk
      split at hk
      · injection hk with hk; injection hk with h1 h2; subst h1; subst h2; exact ints_nil
      · split at hk
        · rename_i id e f xs hg
          split at hk
          · rename_i hc
            injection hk with hk; injection hk with h1 h2; subst h1; subst h2
            exact ints_run hg hc.1 hc.2
          · cases hk
        · cases hk
      · cases hk
    all_goals first | (rename_i hm _; cases hm; done) | (rename_i hm; cases hm; done) | (cases hk; done) | contradiction
  exact wr_of (E := E0) E0_ok E0c follows_ (fn := Try.f24) (c := Try.f24.body.getD .skip) (by kernel_rfl) (by kernel_rfl) rfl fin hI hH hus
noncomputable def E1 : Env' := withWr E0 (fun f => if f = 24 then some .ints else none)
theorem E1c : E1.cuts = [] := rfl
theorem E1_ok : EnvOk Try.prog E1 := withWr_ok E0_ok (tab_cons w_markIntS_mk tab_none)
theorem get_last (h : Hp) (b : Option Blk) : Hp.get (h ++ [b]) h.length = b := by simp [Hp.get]
theorem e1_call {R : Type} {p : PV} {k : Int} {mn : Bool} {h : Hp} {K : PV → Hp → Option R} : callK E1 24 [p, .int .i64 k] mn h K = markI p k h fun k h => K (.int .i64 k) h := by kernel_rfl
noncomputable def pC : Code := Try.f13.body.getD .skip
theorem p_o0 : offOf Try.prog 26 0 = some (0, 22) := by kernel_rfl
theorem p_o2 : offOf Try.prog 26 2 = some (2, 22) := by kernel_rfl
theorem p_sz : szOf Try.prog 22 = 1 := by kernel_rfl
theorem p_load {R : Type} {h : Hp} {id off : Nat} {t : TypeId} {cells : List PV} {p : PV} (hg : h.get id = some (.box t cells)) (hp : cells[off]? = some p) (K : PV → Option R) : loadK Try.prog 22 (.ptr id off) h K = K p := by
  have hu : ∃ u, Try.prog.underlying 22 = some u := ⟨_, Try.underlying22⟩
  obtain ⟨u, hu⟩ := hu
  have ha : isAggB Try.prog 22 = false := by kernel_rfl
  simp only [loadK, hg, readK, hu, ha, Bool.false_eq_true, if_false, hp]
theorem p_run {R : Type} {p q : PV} {x k k1 : Int} {h h2 : Hp} (hp : oneP p = true) (hq : oneP q = true) (h1 : ∀ (R : Type) (F : Int → Hp → Option R), markI p k (h ++ [some (.box 26 [p, .int .i64 x, q])]) F = F k1 h2) (hb : Hp.get h2 h.length = some (.box 26 [p, .int .i64 x, q])) (K : AX → St → Option R) (a2 a3 a4 a5 a6 a7 a8 a9 a10 a11 a12 a13 : PV) :
    ∃ G : PV → List PV, (∀ v, (G v).getD 4 .junk = v) ∧ exCode Try.prog E1 pC ⟨[.agg [p, .int .i64 x, q], .int .i64 k, a2, a3, a4, a5, a6, a7, a8, a9, a10, a11, a12, a13], h⟩ K = markI q k1 h2 fun k h => K .ret ⟨G (.int .i64 k), h⟩ := by
  have hi : oneP (.int .i64 x) = true := rfl
  refine ⟨fun v => [.agg [p, .int .i64 x, q], v, .ptr h.length 0, a3, v, .ptr h.length 0, p, .int .i64 k, .int .i64 k1, .ptr h.length 2, q, .int .i64 k1, v, v], fun v => rfl, ?_⟩
  simp only [pC, Try.f13, Option.getD_some, exCode, cutS0 E1c]
  simp only [regOrd, Bool.false_eq_true, if_false, exOps, opK, ev, ofVal, cellsOf, List.all_cons, List.all_nil, hp, hq, hi, Bool.and_true, if_true, List.getD_cons_zero, List.getD_cons_succ, putT, List.set_cons_zero, List.set_cons_succ, p_o0, p_o2, p_sz, Nat.one_ne_zero]
  rw [p_load (get_last h _) (by rfl)]
  simp only [List.map_cons, List.map_nil, ev, List.getD_cons_zero, List.getD_cons_succ, e1_call, h1]
  rw [p_load hb (by rfl)]
theorem markI_some {p : PV} {k : Int} {h : Hp} {R : Type} {F : Int → Hp → Option R} {r : R} (hk : markI p k h F = some r) : oneP p = true ∧ ∃ k1 h2, (∀ (R : Type) (F : Int → Hp → Option R), markI p k h F = F k1 h2) ∧ F k1 h2 = some r ∧ ∀ id t cells, h.get id = some (.box t cells) → h2.get id = some (.box t cells) := by
  unfold markI at hk
  split at hk
  · exact ⟨rfl, k, h, fun _ _ => rfl, hk, fun _ _ _ hb => hb⟩
  · rename_i id
    split at hk
    · rename_i e f xs hg
      split at hk
      · rename_i hc
        refine ⟨rfl, _, _, fun R F => ?_, hk, fun j t cells hb => ?_⟩
        · simp only [markI, hg, hc, and_self, if_true]
        · by_cases e : j = id
          · subst e; rw [hg] at hb; cases hb
          · simp only [Hp.get] at hb ⊢
            rw [List.getElem?_set_ne (Ne.symm e)]
            exact hb
      · cases hk
    · cases hk
  · cases hk
theorem w_markPlace_mk : MkOk Try.prog 13 (.place 26) := by
  intro ps h h' p pin base w ρ us hk hI hH hus
  have fin : exCode Try.prog E1 (Try.f13.body.getD .skip) ⟨ps ++ List.replicate (Try.f13.ntmps - ps.length) .junk, h⟩ (endW Try.prog Try.f13) = some (p, h') := by
    unfold markK at hk
    split at hk
    case h_2 t p0 x q k he =>
      injection he with he
      subst he
      obtain ⟨o1, k1, h2, g1, g2, g3⟩ := markI_some hk
      obtain ⟨o2, k3, h4, g4, g5, g6⟩ := markI_some g2
      have hb := g3 h.length _ _ (get_last h _)
      obtain ⟨G, hG, hrun⟩ := p_run (q := q) (x := x) o1 o2 g1 hb (endW Try.prog Try.f13) .junk .junk .junk .junk .junk .junk .junk .junk .junk .junk .junk .junk
      have e : List.replicate (Try.f13.ntmps - 2) PV.junk = [.junk, .junk, .junk, .junk, .junk, .junk, .junk, .junk, .junk, .junk, .junk, .junk] := by kernel_rfl
      refine Eq.trans (congrArg (fun t => exCode Try.prog E1 (Try.f13.body.getD .skip) ⟨t, h⟩ (endW Try.prog Try.f13)) (show _ = [.agg [p0, .int .i64 x, q], .int .i64 k, .junk, .junk, .junk, .junk, .junk, .junk, .junk, .junk, .junk, .junk, .junk, .junk] from congrArg ([PV.agg [p0, .int .i64 x, q], .int .i64 k] ++ ·) e)) ?_
      refine hrun.trans ?_
      rw [g4]
      injection g5 with g5
      injection g5 with g5 g7
      subst g5; subst g7
      have hr : Try.f13.results.toList = [.tmp 4] := by kernel_rfl
      simp only [endW, hr, resPs, Option.map_some, Option.bind_some, hG]
    all_goals first | (cases hk; done) | (rename_i he; cases he; done) | (rename_i he _; cases he; done) | contradiction
  exact wr_of (E := E1) E1_ok E1c follows_ (fn := Try.f13) (c := Try.f13.body.getD .skip) (by kernel_rfl) (by kernel_rfl) rfl fin hI hH hus
end FN
set_option linter.unusedVariables false
namespace FN
open Go Go.Proofs
/-! loop.example/firingnets/laws.FnExactSquareWindings -/
@[reducible] def w_FnExactSquareWindings_sig : Sig := { ps := [none, none, none], pc := [.int .i64, .int .i64, .view .i64], rs := [none], rc := [.bool] }
noncomputable def w_FnExactSquareWindings_E : Env' := withWr { fn := fun f => if f = 20 then some ⟨s_SquareWindings_sig, s_SquareWindings_f⟩ else if f = 21 then some ⟨w_toIntS_sig, w_toIntS_f⟩ else if f = 22 then some ⟨i_SquareWindings_sig, i_SquareWindings_f⟩ else if f = 23 then some ⟨w_eqIntS_sig, w_eqIntS_f⟩ else if f = 25 then some ⟨w_heldIntS_sig, w_heldIntS_f⟩ else none, ck := ckT, cuts := [], mine := fun i => i == 20 || i == 21 || i == 23 || i == 27 || i == 30 || i == 34 || i == 35 || i == 39 || i == 45 || i == 50 || i == 53 || i == 62 || i == 63 || i == 66 || i == 70 } (fun f => if f = 24 then some (.ints) else none)
noncomputable def w_FnExactSquareWindings_f (x : Ts w_FnExactSquareWindings_sig.pc) : Option (Ts w_FnExactSquareWindings_sig.rc) := runFn Try.prog (w_FnExactSquareWindings_E) Try.f5 w_FnExactSquareWindings_sig x
theorem w_FnExactSquareWindings_f_eq (x0 : (Int)) (x1 : (Int)) (x2 : (List (Int))) : w_FnExactSquareWindings_f (x0, x1, x2) = (cond ((decide (1048576 < (List.length x2 : Int)))) (some true) (Option.bind (w_toIntS_f x2) fun r1 => (Option.bind (s_SquareWindings_f (x0, x1, r1)) fun r2 => (Option.bind (w_toIntS_f x2) fun r3 => (Option.bind (i_SquareWindings_f (x0, x1, r3)) fun r4 => (Option.bind (w_eqIntS_f (r4, r2)) fun r5 => (cond ((!r5)) (some false) (Option.bind (w_toIntS_f x2) fun r6 => (Option.bind (w_eqIntS_f (r3, r6)) fun r7 => (cond ((!r7)) (some false) (if (0 : Int) ≤ 1 ∧ 1 + (List.length r3 : Int) ≤ 4611686018427387904 then (cond ((decide ((1 + (List.length r3 : Int)) < 0))) (some false) (Option.bind (w_eqIntS_f (r4, r2)) fun r8 => (cond ((!r8)) (some false) (if (0 : Int) ≤ 1 ∧ 1 + (List.length r4 : Int) ≤ 4611686018427387904 then (Option.bind (w_heldIntS_f ((markL 1 r4), 1)) fun r9 => (cond ((decide (r9 < 0))) (some false) (cond ((r9 != (1 + (List.length r4 : Int)))) (some false) (Option.bind (w_toIntS_f x2) fun r10 => (Option.bind (i_SquareWindings_f (x0, x1, r10)) fun r11 => (Option.bind (w_eqIntS_f (r11, r2)) fun r12 => (cond ((!r12)) (some false) (Option.bind (w_heldIntS_f ((markL 1 r4), 1)) fun r13 => (cond ((decide (r13 < 0))) (some false) (cond ((r13 != (1 + (List.length r4 : Int)))) (some false) (some true))))))))))) else none)))) else none))))))))))) := by
  kernel_rfl
def w_FnExactSquareWindings_f_c (n : Nat) : ((Int)) × ((Int)) × ((List (Int))) → Option ((Bool))
  | (x0, x1, x2) => (cond ((decide (1048576 < (List.length x2 : Int)))) (some true) (Option.bind (w_toIntS_f_c n x2) fun r1 => (Option.bind (s_SquareWindings_f_c n (x0, x1, r1)) fun r2 => (Option.bind (w_toIntS_f_c n x2) fun r3 => (Option.bind (i_SquareWindings_f_c n (x0, x1, r3)) fun r4 => (Option.bind (w_eqIntS_f_c n (r4, r2)) fun r5 => (cond ((!r5)) (some false) (Option.bind (w_toIntS_f_c n x2) fun r6 => (Option.bind (w_eqIntS_f_c n (r3, r6)) fun r7 => (cond ((!r7)) (some false) (if (0 : Int) ≤ 1 ∧ 1 + (List.length r3 : Int) ≤ 4611686018427387904 then (cond ((decide ((1 + (List.length r3 : Int)) < 0))) (some false) (Option.bind (w_eqIntS_f_c n (r4, r2)) fun r8 => (cond ((!r8)) (some false) (if (0 : Int) ≤ 1 ∧ 1 + (List.length r4 : Int) ≤ 4611686018427387904 then (Option.bind (w_heldIntS_f_c n ((markL 1 r4), 1)) fun r9 => (cond ((decide (r9 < 0))) (some false) (cond ((r9 != (1 + (List.length r4 : Int)))) (some false) (Option.bind (w_toIntS_f_c n x2) fun r10 => (Option.bind (i_SquareWindings_f_c n (x0, x1, r10)) fun r11 => (Option.bind (w_eqIntS_f_c n (r11, r2)) fun r12 => (cond ((!r12)) (some false) (Option.bind (w_heldIntS_f_c n ((markL 1 r4), 1)) fun r13 => (cond ((decide (r13 < 0))) (some false) (cond ((r13 != (1 + (List.length r4 : Int)))) (some false) (some true))))))))))) else none)))) else none)))))))))))
theorem w_FnExactSquareWindings_f_c_le (n : Nat) (x : Ts w_FnExactSquareWindings_sig.pc) : OLe (w_FnExactSquareWindings_f_c n x) (w_FnExactSquareWindings_f x) := by
  obtain ⟨x0, x1, x2⟩ := x
  rw [w_FnExactSquareWindings_f_c, w_FnExactSquareWindings_f_eq]
  repeat' first | with_reducible exact OLe.refl _ | with_reducible exact OLe.none _ | with_reducible apply s_SquareWindings_f_c_le | with_reducible apply w_toIntS_f_c_le | with_reducible apply i_SquareWindings_f_c_le | with_reducible apply w_eqIntS_f_c_le | with_reducible apply w_heldIntS_f_c_le | with_reducible refine OLe.cond ?_ ?_ | with_reducible refine OLe.ite ?_ ?_ | with_reducible refine OLe.bind ?_ ?_ | intro _
theorem w_FnExactSquareWindings_ent : Entb Try.prog 5 := ⟨Try.f5, by kernel_rfl, by kernel_rfl, by kernel_rfl⟩
theorem w_FnExactSquareWindings_ok : CtrOk Try.prog 5 ⟨w_FnExactSquareWindings_sig, w_FnExactSquareWindings_f⟩ :=
  ctr_of (fn := Try.f5) (by kernel_rfl) (by kernel_rfl) (fun x : Ts w_FnExactSquareWindings_sig.pc => w_FnExactSquareWindings_E) (fun x => withWr_ok ⟨(fn_cons ⟨s_SquareWindings_ok, s_SquareWindings_ent⟩ (fn_cons ⟨w_toIntS_ok, w_toIntS_ent⟩ (fn_cons ⟨i_SquareWindings_ok, i_SquareWindings_ent⟩ (fn_cons ⟨w_eqIntS_ok, w_eqIntS_ent⟩ (fn_cons ⟨w_heldIntS_ok, w_heldIntS_ent⟩ fn_none))))), clo_none, wr_none⟩ (tab_cons w_markIntS_mk (tab_none))) (fun h => by cases h) follows_ (fun _ _ => trivial)
end FN
