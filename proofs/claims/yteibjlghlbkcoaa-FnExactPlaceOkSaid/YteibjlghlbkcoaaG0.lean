/- Texts of the proof, joined: The functions, their equations and contracts. -/
import Derived.KernelRfl
import Derived.Test.YteibjlghlbkcoaaProg
import Derived.Test.YteibjlghlbkcoaaA1
set_option linter.unusedVariables false
set_option linter.unusedSimpArgs false
set_option linter.unusedSectionVars false
namespace FN
open Go Go.Proofs
def mkT (n : Nat) (l : List (Nat × PV)) : List PV := (List.range n).map fun i => (l.lookup i).getD .junk
def ckT (t : TypeId) : Option CK := if t = 3 then some .i64 else if t = 5 then some .u8 else if t = 27 then some .intss else none
instance : Gl := ⟨fun _ => True, fun _ => True, fun _ _ _ _ _ => trivial⟩
theorem follows_ : Try.prog.follows .mixedOrders = true := by kernel_rfl
theorem rd_head {x b : List Int} {l ps : List PV} (h : (PV.row false .u8 x :: l) = PV.row false .u8 b :: ps) : x = b := by
  injection h with h _
  injection h
theorem fn_none {P : Program} : ∀ (f : FuncId) (c : Ctr'), (none : Option Ctr') = some c → CtrOk P f c ∧ Entb P f := fun _ _ h => by cases h
theorem fn_cons {P : Program} {f0 : FuncId} {c0 : Ctr'} (h0 : CtrOk P f0 c0 ∧ Entb P f0) {g : FuncId → Option Ctr'} (hg : ∀ f c, g f = some c → CtrOk P f c ∧ Entb P f) : ∀ f c, (if f = f0 then some c0 else g f) = some c → CtrOk P f c ∧ Entb P f := by
  intro f c h
  split at h
  · rename_i e; injection h with h; subst e; subst h; exact h0
  · exact hg f c h
theorem clo_none {P : Program} {E : Env'} (h : E.clo = fun _ _ _ _ _ => none := by rfl) : CloOk P E := by
  intro f ps hp h' pin base w ρ args hc
  rw [h] at hc
  cases hc
/-- What the one answers, the other answers. -/
def OLe {α : Type} (a b : Option α) : Prop := ∀ r, a = some r → b = some r
theorem OLe.refl {α : Type} (a : Option α) : OLe a a := fun _ h => h
theorem OLe.none {α : Type} (a : Option α) : OLe Option.none a := fun _ h => by cases h
theorem OLe.cond {α : Type} {c : Bool} {a a' b b' : Option α} (h : OLe a a') (k : OLe b b') : OLe (cond c a b) (cond c a' b') := by cases c; exact k; exact h
theorem OLe.ite {α : Type} {c : Prop} [Decidable c] {a a' b b' : Option α} (h : OLe a a') (k : OLe b b') : OLe (if c then a else b) (if c then a' else b') := by split; exact h; exact k
theorem OLe.bind {α β : Type} {a a' : Option α} {f f' : α → Option β} (h : OLe a a') (k : ∀ x, OLe (f x) (f' x)) : OLe (a.bind f) (a'.bind f') := by
  intro r hr
  obtain ⟨x, h1, h2⟩ := Option.bind_eq_some_iff.1 hr
  exact Option.bind_eq_some_iff.2 ⟨x, h x h1, k x r h2⟩
def str0 : ByteArray := ⟨#[0, 1, 1, 2, 1, 2, 2, 3, 1, 2, 2, 3, 2, 3, 3, 4, 1, 2, 2, 3, 2, 3, 3, 4, 2, 3, 3, 4, 3, 4, 4, 5, 1, 2, 2, 3, 2, 3, 3, 4, 2, 3, 3, 4, 3, 4, 4, 5, 2, 3, 3, 4, 3, 4, 4, 5, 3, 4, 4, 5, 4, 5, 5, 6, 1, 2, 2, 3, 2, 3, 3, 4, 2, 3, 3, 4, 3, 4, 4, 5, 2, 3, 3, 4, 3, 4, 4, 5, 3, 4, 4, 5, 4, 5, 5, 6, 2, 3, 3, 4, 3, 4, 4, 5, 3, 4, 4, 5, 4, 5, 5, 6, 3, 4, 4, 5, 4, 5, 5, 6, 4, 5, 5, 6, 5, 6, 6, 7, 1, 2, 2, 3, 2, 3, 3, 4, 2, 3, 3, 4, 3, 4, 4, 5, 2, 3, 3, 4, 3, 4, 4, 5, 3, 4, 4, 5, 4, 5, 5, 6, 2, 3, 3, 4, 3, 4, 4, 5, 3, 4, 4, 5, 4, 5, 5, 6, 3, 4, 4, 5, 4, 5, 5, 6, 4, 5, 5, 6, 5, 6, 6, 7, 2, 3, 3, 4, 3, 4, 4, 5, 3, 4, 4, 5, 4, 5, 5, 6, 3, 4, 4, 5, 4, 5, 5, 6, 4, 5, 5, 6, 5, 6, 6, 7, 3, 4, 4, 5, 4, 5, 5, 6, 4, 5, 5, 6, 5, 6, 6, 7, 4, 5, 5, 6, 5, 6, 6, 7, 5, 6, 6, 7, 6, 7, 7, 8]⟩
end FN
set_option linter.unusedVariables false
namespace FN
open Go Go.Proofs
/-! loop.example/firingnets/spec.l1In -/
@[reducible] def s_l1In_sig : Sig := { ps := [none, none, none], pc := [.int .i64, .int .i64, .int .i64], rs := [none], rc := [.bool] }
noncomputable def s_l1In_E : Env' := { fn := fun f => none, ck := ckT, cuts := [], mine := fun i => false }
noncomputable def s_l1In_f (x : Ts s_l1In_sig.pc) : Option (Ts s_l1In_sig.rc) := runFn Try.prog (s_l1In_E) Try.f44 s_l1In_sig x
theorem s_l1In_f_eq (x0 : (Int)) (x1 : (Int)) (x2 : (Int)) : s_l1In_f (x0, x1, x2) = (cond ((decide (x1 ≤ x0))) (some (decide (x0 ≤ x2))) (some false)) := by
  kernel_rfl
def s_l1In_f_c (n : Nat) : ((Int)) × ((Int)) × ((Int)) → Option ((Bool))
  | (x0, x1, x2) => (cond ((decide (x1 ≤ x0))) (some (decide (x0 ≤ x2))) (some false))
theorem s_l1In_f_c_le (n : Nat) (x : Ts s_l1In_sig.pc) : OLe (s_l1In_f_c n x) (s_l1In_f x) := by
  obtain ⟨x0, x1, x2⟩ := x
  rw [s_l1In_f_c, s_l1In_f_eq]
  repeat' first | with_reducible exact OLe.refl _ | with_reducible exact OLe.none _ | with_reducible refine OLe.cond ?_ ?_ | with_reducible refine OLe.ite ?_ ?_ | with_reducible refine OLe.bind ?_ ?_ | intro _
theorem s_l1In_ent : Entb Try.prog 44 := ⟨Try.f44, by kernel_rfl, by kernel_rfl, by kernel_rfl⟩
theorem s_l1In_ok : CtrOk Try.prog 44 ⟨s_l1In_sig, s_l1In_f⟩ :=
  ctr_of (fn := Try.f44) (by kernel_rfl) (by kernel_rfl) (fun x : Ts s_l1In_sig.pc => s_l1In_E) (fun x => ⟨fn_none, clo_none⟩) (fun h => by cases h) follows_ (fun _ _ => trivial)
end FN
set_option linter.unusedVariables false
namespace FN
open Go Go.Proofs
/-! loop.example/firingnets/impl.NetOk -/
@[reducible] def i_NetOk_sig : Sig := { ps := [none], pc := [.view .i64], rs := [none], rc := [.bool] }
noncomputable def i_NetOk_E : Env' := { fn := fun f => none, ck := ckT, cuts := [(4, [0, 14, 15, 16]), (9, [0, 3, 4, 14, 15, 16, 38, 39])], mine := fun i => false }
noncomputable def i_NetOk_f (x : Ts i_NetOk_sig.pc) : Option (Ts i_NetOk_sig.rc) := runFn Try.prog (i_NetOk_E) Try.f24 i_NetOk_sig x
noncomputable def i_NetOk_l0 (y0 : List (Int)) (y1 : List (Int)) (y2 : Int) (y3 : Int) : Option ((Bool)) := from_ Try.prog (i_NetOk_E) Try.f24 i_NetOk_sig [1, 1, 0, 1, 0] ⟨mkT 56 [(0, .row false .i64 y0), (14, .row false .i64 y1), (15, .int .i64 y2), (16, .int .i64 y3)], []⟩
noncomputable def i_NetOk_l1 (y0 : List (Int)) (y1 : Int) (y2 : Int) (y3 : List (Int)) (y4 : Int) (y5 : Int) (y6 : Int) (y7 : Int) : Option ((Bool)) := from_ Try.prog (i_NetOk_E) Try.f24 i_NetOk_sig [1, 1, 0, 1, 0, 0, 1, 1, 0, 0, 1, 1, 1, 0] ⟨mkT 56 [(0, .row false .i64 y0), (3, .int .i64 y1), (4, .int .i64 y2), (14, .row false .i64 y3), (15, .int .i64 y4), (16, .int .i64 y5), (38, .int .i64 y6), (39, .int .i64 y7)], []⟩
theorem i_NetOk_f_eq (x0 : (List (Int))) : i_NetOk_f x0 = (cond ((decide ((List.length x0 : Int) < 1))) (some false) (cond ((decide (6 < (List.length x0 : Int)))) (some false) (i_NetOk_l0 x0 x0 (List.length x0 : Int) 0))) := by
  kernel_rfl
theorem i_NetOk_l0_eq (y0 : List (Int)) (y1 : List (Int)) (y2 : Int) (y3 : Int) : i_NetOk_l0 y0 y1 y2 y3 = (cond ((decide (y3 < y2))) (if (0 : Int) ≤ y3 ∧ y3 < (List.length y1 : Int) then (cond ((decide ((List.getD y1 (y3 : Int).toNat 0) < 0))) (some false) (if (List.length y0 : Int) < 0 then none else (cond ((decide ((IntKind.i64.wrap (1 * 2 ^ min ((List.length y0 : Int) : Int).toNat IntKind.i64.bits)) ≤ (List.getD y1 (y3 : Int).toNat 0)))) (some false) (if y3 < 0 then none else (cond (((Go.bits .and IntKind.i64 (Int.fdiv (List.getD y1 (y3 : Int).toNat 0) (2 ^ min (y3 : Int).toNat IntKind.i64.bits)) 1) == 1)) (some false) (i_NetOk_l1 y0 y3 (List.getD y1 (y3 : Int).toNat 0) y1 y2 y3 (List.length y0 : Int) 0)))))) else none) (some true)) := by
  refine (loopK_eq Try.prog (i_NetOk_E) (sub (Try.f24.body.getD .skip) [1, 1, 0, 1, 0, 0]) _ _).trans ?_
  kernel_rfl
theorem i_NetOk_l1_eq (y0 : List (Int)) (y1 : Int) (y2 : Int) (y3 : List (Int)) (y4 : Int) (y5 : Int) (y6 : Int) (y7 : Int) : i_NetOk_l1 y0 y1 y2 y3 y4 y5 y6 y7 = (cond ((decide (y7 < y6))) (if y7 < 0 then none else (if (0 : Int) ≤ y7 ∧ y7 < (List.length y0 : Int) then (if y1 < 0 then none else (cond (((Go.bits .and IntKind.i64 (Int.fdiv y2 (2 ^ min (y7 : Int).toNat IntKind.i64.bits)) 1) != (Go.bits .and IntKind.i64 (Int.fdiv (List.getD y0 (y7 : Int).toNat 0) (2 ^ min (y1 : Int).toNat IntKind.i64.bits)) 1))) (some false) (i_NetOk_l1 y0 y1 y2 y3 y4 y5 y6 (IntKind.i64.wrap (y7 + 1))))) else none)) (i_NetOk_l0 y0 y3 y4 (IntKind.i64.wrap (y5 + 1)))) := by
  refine (loopK_eq Try.prog (i_NetOk_E) (sub (Try.f24.body.getD .skip) [1, 1, 0, 1, 0, 0, 1, 1, 0, 0, 1, 1, 1, 0, 0]) _ _).trans ?_
  kernel_rfl
mutual
def i_NetOk_l0_c : Nat → (List (Int)) → (List (Int)) → (Int) → (Int) → Option ((Bool))
  | 0, _, _, _, _ => none
  | n + 1, y0, y1, y2, y3 => (cond ((decide (y3 < y2))) (if (0 : Int) ≤ y3 ∧ y3 < (List.length y1 : Int) then (cond ((decide ((List.getD y1 (y3 : Int).toNat 0) < 0))) (some false) (if (List.length y0 : Int) < 0 then none else (cond ((decide ((IntKind.i64.wrap (1 * 2 ^ min ((List.length y0 : Int) : Int).toNat IntKind.i64.bits)) ≤ (List.getD y1 (y3 : Int).toNat 0)))) (some false) (if y3 < 0 then none else (cond (((Go.bits .and IntKind.i64 (Int.fdiv (List.getD y1 (y3 : Int).toNat 0) (2 ^ min (y3 : Int).toNat IntKind.i64.bits)) 1) == 1)) (some false) (i_NetOk_l1_c n y0 y3 (List.getD y1 (y3 : Int).toNat 0) y1 y2 y3 (List.length y0 : Int) 0)))))) else none) (some true))
def i_NetOk_l1_c : Nat → (List (Int)) → (Int) → (Int) → (List (Int)) → (Int) → (Int) → (Int) → (Int) → Option ((Bool))
  | 0, _, _, _, _, _, _, _, _ => none
  | n + 1, y0, y1, y2, y3, y4, y5, y6, y7 => (cond ((decide (y7 < y6))) (if y7 < 0 then none else (if (0 : Int) ≤ y7 ∧ y7 < (List.length y0 : Int) then (if y1 < 0 then none else (cond (((Go.bits .and IntKind.i64 (Int.fdiv y2 (2 ^ min (y7 : Int).toNat IntKind.i64.bits)) 1) != (Go.bits .and IntKind.i64 (Int.fdiv (List.getD y0 (y7 : Int).toNat 0) (2 ^ min (y1 : Int).toNat IntKind.i64.bits)) 1))) (some false) (i_NetOk_l1_c n y0 y1 y2 y3 y4 y5 y6 (IntKind.i64.wrap (y7 + 1))))) else none)) (i_NetOk_l0_c n y0 y3 y4 (IntKind.i64.wrap (y5 + 1))))
end
def i_NetOk_f_c (n : Nat) : ((List (Int))) → Option ((Bool))
  | x0 => (cond ((decide ((List.length x0 : Int) < 1))) (some false) (cond ((decide (6 < (List.length x0 : Int)))) (some false) (i_NetOk_l0_c n x0 x0 (List.length x0 : Int) 0)))
mutual
theorem i_NetOk_l0_c_le : (n : Nat) → (y0 : List (Int)) → (y1 : List (Int)) → (y2 : Int) → (y3 : Int) → OLe (i_NetOk_l0_c n y0 y1 y2 y3) (i_NetOk_l0 y0 y1 y2 y3)
  | 0, _, _, _, _ => OLe.none _
  | n + 1, y0, y1, y2, y3 => by
    rw [i_NetOk_l0_c, i_NetOk_l0_eq]
    repeat' first | with_reducible exact OLe.refl _ | with_reducible exact OLe.none _ | with_reducible apply i_NetOk_l0_c_le | with_reducible apply i_NetOk_l1_c_le | with_reducible refine OLe.cond ?_ ?_ | with_reducible refine OLe.ite ?_ ?_ | with_reducible refine OLe.bind ?_ ?_ | intro _
theorem i_NetOk_l1_c_le : (n : Nat) → (y0 : List (Int)) → (y1 : Int) → (y2 : Int) → (y3 : List (Int)) → (y4 : Int) → (y5 : Int) → (y6 : Int) → (y7 : Int) → OLe (i_NetOk_l1_c n y0 y1 y2 y3 y4 y5 y6 y7) (i_NetOk_l1 y0 y1 y2 y3 y4 y5 y6 y7)
  | 0, _, _, _, _, _, _, _, _ => OLe.none _
  | n + 1, y0, y1, y2, y3, y4, y5, y6, y7 => by
    rw [i_NetOk_l1_c, i_NetOk_l1_eq]
    repeat' first | with_reducible exact OLe.refl _ | with_reducible exact OLe.none _ | with_reducible apply i_NetOk_l0_c_le | with_reducible apply i_NetOk_l1_c_le | with_reducible refine OLe.cond ?_ ?_ | with_reducible refine OLe.ite ?_ ?_ | with_reducible refine OLe.bind ?_ ?_ | intro _
end
theorem i_NetOk_f_c_le (n : Nat) (x : Ts i_NetOk_sig.pc) : OLe (i_NetOk_f_c n x) (i_NetOk_f x) := by
  rw [i_NetOk_f_c, i_NetOk_f_eq]
  repeat' first | with_reducible exact OLe.refl _ | with_reducible exact OLe.none _ | with_reducible apply i_NetOk_l0_c_le | with_reducible apply i_NetOk_l1_c_le | with_reducible refine OLe.cond ?_ ?_ | with_reducible refine OLe.ite ?_ ?_ | with_reducible refine OLe.bind ?_ ?_ | intro _
theorem i_NetOk_ent : Entb Try.prog 24 := ⟨Try.f24, by kernel_rfl, by kernel_rfl, by kernel_rfl⟩
theorem i_NetOk_ok : CtrOk Try.prog 24 ⟨i_NetOk_sig, i_NetOk_f⟩ :=
  ctr_of (fn := Try.f24) (by kernel_rfl) (by kernel_rfl) (fun x : Ts i_NetOk_sig.pc => i_NetOk_E) (fun x => ⟨fn_none, clo_none⟩) (fun h => by cases h) follows_ (fun _ _ => trivial)
end FN
set_option linter.unusedVariables false
namespace FN
open Go Go.Proofs
/-! loop.example/firingnets/impl.StateOk -/
@[reducible] def i_StateOk_sig : Sig := { ps := [none, none], pc := [.int .i64, .view .i64], rs := [none], rc := [.bool] }
noncomputable def i_StateOk_E : Env' := { fn := fun f => none, ck := ckT, cuts := [(2, [0, 1, 7, 8, 9]), (7, [0, 1])], mine := fun i => false }
noncomputable def i_StateOk_f (x : Ts i_StateOk_sig.pc) : Option (Ts i_StateOk_sig.rc) := runFn Try.prog (i_StateOk_E) Try.f47 i_StateOk_sig x
noncomputable def i_StateOk_l0 (y0 : Int) (y1 : List (Int)) (y2 : List (Int)) (y3 : Int) (y4 : Int) : Option ((Bool)) := from_ Try.prog (i_StateOk_E) Try.f47 i_StateOk_sig [1, 0, 1, 0] ⟨mkT 37 [(0, .int .i64 y0), (1, .row false .i64 y1), (7, .row false .i64 y2), (8, .int .i64 y3), (9, .int .i64 y4)], []⟩
noncomputable def i_StateOk_j1 (y0 : Int) (y1 : List (Int)) : Option ((Bool)) := from_ Try.prog (i_StateOk_E) Try.f47 i_StateOk_sig [1, 1] ⟨mkT 37 [(0, .int .i64 y0), (1, .row false .i64 y1)], []⟩
theorem i_StateOk_f_eq (x0 : (Int)) (x1 : (List (Int))) : i_StateOk_f (x0, x1) = (i_StateOk_l0 x0 x1 x1 (List.length x1 : Int) 0) := by
  kernel_rfl
theorem i_StateOk_l0_eq (y0 : Int) (y1 : List (Int)) (y2 : List (Int)) (y3 : Int) (y4 : Int) : i_StateOk_l0 y0 y1 y2 y3 y4 = (cond ((decide (y4 < y3))) (if (0 : Int) ≤ y4 ∧ y4 < (List.length y2 : Int) then (cond ((decide ((List.getD y2 (y4 : Int).toNat 0) < 0))) (some false) (cond ((decide (y0 ≤ (List.getD y2 (y4 : Int).toNat 0)))) (some false) (i_StateOk_l0 y0 y1 y2 y3 (IntKind.i64.wrap (y4 + 1))))) else none) (i_StateOk_j1 y0 y1)) := by
  refine (loopK_eq Try.prog (i_StateOk_E) (sub (Try.f47.body.getD .skip) [1, 0, 1, 0, 0]) _ _).trans ?_
  kernel_rfl
theorem i_StateOk_j1_eq (y0 : Int) (y1 : List (Int)) : i_StateOk_j1 y0 y1 = (cond ((decide (3 ≤ y0))) (cond ((decide (y0 ≤ 5))) (cond ((decide (1 ≤ (List.length y1 : Int)))) (some (decide ((List.length y1 : Int) ≤ 6))) (some false)) (some false)) (some false)) := by
  kernel_rfl
mutual
def i_StateOk_l0_c : Nat → (Int) → (List (Int)) → (List (Int)) → (Int) → (Int) → Option ((Bool))
  | 0, _, _, _, _, _ => none
  | n + 1, y0, y1, y2, y3, y4 => (cond ((decide (y4 < y3))) (if (0 : Int) ≤ y4 ∧ y4 < (List.length y2 : Int) then (cond ((decide ((List.getD y2 (y4 : Int).toNat 0) < 0))) (some false) (cond ((decide (y0 ≤ (List.getD y2 (y4 : Int).toNat 0)))) (some false) (i_StateOk_l0_c n y0 y1 y2 y3 (IntKind.i64.wrap (y4 + 1))))) else none) (i_StateOk_j1_c n y0 y1))
def i_StateOk_j1_c : Nat → (Int) → (List (Int)) → Option ((Bool))
  | 0, _, _ => none
  | n + 1, y0, y1 => (cond ((decide (3 ≤ y0))) (cond ((decide (y0 ≤ 5))) (cond ((decide (1 ≤ (List.length y1 : Int)))) (some (decide ((List.length y1 : Int) ≤ 6))) (some false)) (some false)) (some false))
end
def i_StateOk_f_c (n : Nat) : ((Int)) × ((List (Int))) → Option ((Bool))
  | (x0, x1) => (i_StateOk_l0_c n x0 x1 x1 (List.length x1 : Int) 0)
mutual
theorem i_StateOk_l0_c_le : (n : Nat) → (y0 : Int) → (y1 : List (Int)) → (y2 : List (Int)) → (y3 : Int) → (y4 : Int) → OLe (i_StateOk_l0_c n y0 y1 y2 y3 y4) (i_StateOk_l0 y0 y1 y2 y3 y4)
  | 0, _, _, _, _, _ => OLe.none _
  | n + 1, y0, y1, y2, y3, y4 => by
    rw [i_StateOk_l0_c, i_StateOk_l0_eq]
    repeat' first | with_reducible exact OLe.refl _ | with_reducible exact OLe.none _ | with_reducible apply i_StateOk_l0_c_le | with_reducible apply i_StateOk_j1_c_le | with_reducible refine OLe.cond ?_ ?_ | with_reducible refine OLe.ite ?_ ?_ | with_reducible refine OLe.bind ?_ ?_ | intro _
theorem i_StateOk_j1_c_le : (n : Nat) → (y0 : Int) → (y1 : List (Int)) → OLe (i_StateOk_j1_c n y0 y1) (i_StateOk_j1 y0 y1)
  | 0, _, _ => OLe.none _
  | n + 1, y0, y1 => by
    rw [i_StateOk_j1_c, i_StateOk_j1_eq]
    repeat' first | with_reducible exact OLe.refl _ | with_reducible exact OLe.none _ | with_reducible apply i_StateOk_l0_c_le | with_reducible apply i_StateOk_j1_c_le | with_reducible refine OLe.cond ?_ ?_ | with_reducible refine OLe.ite ?_ ?_ | with_reducible refine OLe.bind ?_ ?_ | intro _
end
theorem i_StateOk_f_c_le (n : Nat) (x : Ts i_StateOk_sig.pc) : OLe (i_StateOk_f_c n x) (i_StateOk_f x) := by
  obtain ⟨x0, x1⟩ := x
  rw [i_StateOk_f_c, i_StateOk_f_eq]
  repeat' first | with_reducible exact OLe.refl _ | with_reducible exact OLe.none _ | with_reducible apply i_StateOk_l0_c_le | with_reducible apply i_StateOk_j1_c_le | with_reducible refine OLe.cond ?_ ?_ | with_reducible refine OLe.ite ?_ ?_ | with_reducible refine OLe.bind ?_ ?_ | intro _
theorem i_StateOk_ent : Entb Try.prog 47 := ⟨Try.f47, by kernel_rfl, by kernel_rfl, by kernel_rfl⟩
theorem i_StateOk_ok : CtrOk Try.prog 47 ⟨i_StateOk_sig, i_StateOk_f⟩ :=
  ctr_of (fn := Try.f47) (by kernel_rfl) (by kernel_rfl) (fun x : Ts i_StateOk_sig.pc => i_StateOk_E) (fun x => ⟨fn_none, clo_none⟩) (fun h => by cases h) follows_ (fun _ _ => trivial)
end FN
set_option linter.unusedVariables false
namespace FN
open Go Go.Proofs
/-! loop.example/firingnets/impl.asked -/
@[reducible] def i_asked_sig : Sig := { ps := [none, none, none], pc := [.view .i64, .int .i64, .view .i64], rs := [none], rc := [.bool] }
noncomputable def i_asked_E : Env' := { fn := fun f => if f = 24 then some ⟨i_NetOk_sig, i_NetOk_f⟩ else if f = 47 then some ⟨i_StateOk_sig, i_StateOk_f⟩ else none, ck := ckT, cuts := [], mine := fun i => false }
noncomputable def i_asked_f (x : Ts i_asked_sig.pc) : Option (Ts i_asked_sig.rc) := runFn Try.prog (i_asked_E) Try.f38 i_asked_sig x
theorem i_asked_f_eq (x0 : (List (Int))) (x1 : (Int)) (x2 : (List (Int))) : i_asked_f (x0, x1, x2) = (Option.bind (i_NetOk_f x0) fun r1 => (cond (r1) (Option.bind (i_StateOk_f (x1, x2)) fun r2 => (cond (r2) (some ((List.length x0 : Int) == (List.length x2 : Int))) (some false))) (some false))) := by
  kernel_rfl
def i_asked_f_c (n : Nat) : ((List (Int))) × ((Int)) × ((List (Int))) → Option ((Bool))
  | (x0, x1, x2) => (Option.bind (i_NetOk_f_c n x0) fun r1 => (cond (r1) (Option.bind (i_StateOk_f_c n (x1, x2)) fun r2 => (cond (r2) (some ((List.length x0 : Int) == (List.length x2 : Int))) (some false))) (some false)))
theorem i_asked_f_c_le (n : Nat) (x : Ts i_asked_sig.pc) : OLe (i_asked_f_c n x) (i_asked_f x) := by
  obtain ⟨x0, x1, x2⟩ := x
  rw [i_asked_f_c, i_asked_f_eq]
  repeat' first | with_reducible exact OLe.refl _ | with_reducible exact OLe.none _ | with_reducible apply i_NetOk_f_c_le | with_reducible apply i_StateOk_f_c_le | with_reducible refine OLe.cond ?_ ?_ | with_reducible refine OLe.ite ?_ ?_ | with_reducible refine OLe.bind ?_ ?_ | intro _
theorem i_asked_ent : Entb Try.prog 38 := ⟨Try.f38, by kernel_rfl, by kernel_rfl, by kernel_rfl⟩
theorem i_asked_ok : CtrOk Try.prog 38 ⟨i_asked_sig, i_asked_f⟩ :=
  ctr_of (fn := Try.f38) (by kernel_rfl) (by kernel_rfl) (fun x : Ts i_asked_sig.pc => i_asked_E) (fun x => ⟨(fn_cons ⟨i_NetOk_ok, i_NetOk_ent⟩ (fn_cons ⟨i_StateOk_ok, i_StateOk_ent⟩ fn_none)), clo_none⟩) (fun h => by cases h) follows_ (fun _ _ => trivial)
end FN
set_option linter.unusedVariables false
namespace FN
open Go Go.Proofs
/-! loop.example/firingnets/impl.PlaceOk -/
@[reducible] def i_PlaceOk_sig : Sig := { ps := [some 3], pc := [.view .i64, .int .i64, .view .i64], rs := [none], rc := [.bool] }
noncomputable def i_PlaceOk_E : Env' := { fn := fun f => if f = 38 then some ⟨i_asked_sig, i_asked_f⟩ else none, ck := ckT, cuts := [], mine := fun i => false }
noncomputable def i_PlaceOk_f (x : Ts i_PlaceOk_sig.pc) : Option (Ts i_PlaceOk_sig.rc) := runFn Try.prog (i_PlaceOk_E) Try.f19 i_PlaceOk_sig x
theorem i_PlaceOk_f_eq (x0 : (List (Int))) (x1 : (Int)) (x2 : (List (Int))) : i_PlaceOk_f (x0, x1, x2) = (Option.bind (i_asked_f (x0, x1, x2)) fun r1 => (some r1)) := by
  kernel_rfl
def i_PlaceOk_f_c (n : Nat) : ((List (Int))) × ((Int)) × ((List (Int))) → Option ((Bool))
  | (x0, x1, x2) => (Option.bind (i_asked_f_c n (x0, x1, x2)) fun r1 => (some r1))
theorem i_PlaceOk_f_c_le (n : Nat) (x : Ts i_PlaceOk_sig.pc) : OLe (i_PlaceOk_f_c n x) (i_PlaceOk_f x) := by
  obtain ⟨x0, x1, x2⟩ := x
  rw [i_PlaceOk_f_c, i_PlaceOk_f_eq]
  repeat' first | with_reducible exact OLe.refl _ | with_reducible exact OLe.none _ | with_reducible apply i_asked_f_c_le | with_reducible refine OLe.cond ?_ ?_ | with_reducible refine OLe.ite ?_ ?_ | with_reducible refine OLe.bind ?_ ?_ | intro _
theorem i_PlaceOk_ent : Entb Try.prog 19 := ⟨Try.f19, by kernel_rfl, by kernel_rfl, by kernel_rfl⟩
theorem i_PlaceOk_ok : CtrOk Try.prog 19 ⟨i_PlaceOk_sig, i_PlaceOk_f⟩ :=
  ctr_of (fn := Try.f19) (by kernel_rfl) (by kernel_rfl) (fun x : Ts i_PlaceOk_sig.pc => i_PlaceOk_E) (fun x => ⟨(fn_cons ⟨i_asked_ok, i_asked_ent⟩ fn_none), clo_none⟩) (fun h => by cases h) follows_ (fun _ _ => trivial)
end FN
set_option linter.unusedVariables false
namespace FN
open Go Go.Proofs
/-! loop.example/firingnets/spec.NetOk -/
@[reducible] def s_NetOk_sig : Sig := { ps := [none], pc := [.view .i64], rs := [none], rc := [.bool] }
noncomputable def s_NetOk_E : Env' := { fn := fun f => if f = 44 then some ⟨s_l1In_sig, s_l1In_f⟩ else none, ck := ckT, cuts := [(4, [0, 3]), (8, [0]), (9, [0, 4]), (12, [0, 4, 5])], mine := fun i => false }
noncomputable def s_NetOk_f (x : Ts s_NetOk_sig.pc) : Option (Ts s_NetOk_sig.rc) := runFn Try.prog (s_NetOk_E) Try.f45 s_NetOk_sig x
noncomputable def s_NetOk_l0 (y0 : List (Int)) (y1 : Int) : Option ((Bool)) := from_ Try.prog (s_NetOk_E) Try.f45 s_NetOk_sig [1, 1, 0, 1, 0] ⟨mkT 68 [(0, .row false .i64 y0), (3, .int .i64 y1)], []⟩
noncomputable def s_NetOk_j1 (y0 : List (Int)) : Option ((Bool)) := from_ Try.prog (s_NetOk_E) Try.f45 s_NetOk_sig [1, 1, 1] ⟨mkT 68 [(0, .row false .i64 y0)], []⟩
noncomputable def s_NetOk_l2 (y0 : List (Int)) (y1 : Int) : Option ((Bool)) := from_ Try.prog (s_NetOk_E) Try.f45 s_NetOk_sig [1, 1, 1, 0, 1, 0] ⟨mkT 68 [(0, .row false .i64 y0), (4, .int .i64 y1)], []⟩
noncomputable def s_NetOk_l3 (y0 : List (Int)) (y1 : Int) (y2 : Int) : Option ((Bool)) := from_ Try.prog (s_NetOk_E) Try.f45 s_NetOk_sig [1, 1, 1, 0, 1, 0, 0, 1, 0, 0, 1, 0] ⟨mkT 68 [(0, .row false .i64 y0), (4, .int .i64 y1), (5, .int .i64 y2)], []⟩
theorem s_NetOk_f_eq (x0 : (List (Int))) : s_NetOk_f x0 = (Option.bind (s_l1In_f ((List.length x0 : Int), 1, 6)) fun r1 => (cond ((!r1)) (some false) (s_NetOk_l0 x0 0))) := by
  kernel_rfl
theorem s_NetOk_l0_eq (y0 : List (Int)) (y1 : Int) : s_NetOk_l0 y0 y1 = (cond ((decide (y1 < (List.length y0 : Int)))) (if (0 : Int) ≤ y1 ∧ y1 < (List.length y0 : Int) then (if (List.length y0 : Int) < 0 then none else (Option.bind (s_l1In_f ((List.getD y0 (y1 : Int).toNat 0), 0, (IntKind.i64.wrap ((IntKind.i64.wrap (1 * 2 ^ min ((List.length y0 : Int) : Int).toNat IntKind.i64.bits)) - 1)))) fun r1 => (cond ((!r1)) (some false) (s_NetOk_l0 y0 (IntKind.i64.wrap (y1 + 1)))))) else none) (s_NetOk_j1 y0)) := by
  refine (loopK_eq Try.prog (s_NetOk_E) (sub (Try.f45.body.getD .skip) [1, 1, 0, 1, 0, 0]) _ _).trans ?_
  kernel_rfl
theorem s_NetOk_j1_eq (y0 : List (Int)) : s_NetOk_j1 y0 = (s_NetOk_l2 y0 0) := by
  kernel_rfl
theorem s_NetOk_l2_eq (y0 : List (Int)) (y1 : Int) : s_NetOk_l2 y0 y1 = (cond ((decide (y1 < (List.length y0 : Int)))) (s_NetOk_l3 y0 y1 0) (some true)) := by
  refine (loopK_eq Try.prog (s_NetOk_E) (sub (Try.f45.body.getD .skip) [1, 1, 1, 0, 1, 0, 0]) _ _).trans ?_
  kernel_rfl
theorem s_NetOk_l3_eq (y0 : List (Int)) (y1 : Int) (y2 : Int) : s_NetOk_l3 y0 y1 y2 = (cond ((decide (y2 < (List.length y0 : Int)))) (if (0 : Int) ≤ y1 ∧ y1 < (List.length y0 : Int) then (if y2 < 0 then none else (if (0 : Int) ≤ y2 ∧ y2 < (List.length y0 : Int) then (if y1 < 0 then none else (cond (((Int.tmod (Int.fdiv (List.getD y0 (y1 : Int).toNat 0) (2 ^ min (y2 : Int).toNat IntKind.i64.bits)) 2) != (Int.tmod (Int.fdiv (List.getD y0 (y2 : Int).toNat 0) (2 ^ min (y1 : Int).toNat IntKind.i64.bits)) 2))) (some false) (cond ((y2 == y1)) (if (0 : Int) ≤ y1 ∧ y1 < (List.length y0 : Int) then (if y2 < 0 then none else (cond (((Int.tmod (Int.fdiv (List.getD y0 (y1 : Int).toNat 0) (2 ^ min (y2 : Int).toNat IntKind.i64.bits)) 2) == 1)) (some false) (s_NetOk_l3 y0 y1 (IntKind.i64.wrap (y2 + 1))))) else none) (s_NetOk_l3 y0 y1 (IntKind.i64.wrap (y2 + 1)))))) else none)) else none) (s_NetOk_l2 y0 (IntKind.i64.wrap (y1 + 1)))) := by
  refine (loopK_eq Try.prog (s_NetOk_E) (sub (Try.f45.body.getD .skip) [1, 1, 1, 0, 1, 0, 0, 1, 0, 0, 1, 0, 0]) _ _).trans ?_
  kernel_rfl
mutual
def s_NetOk_l0_c : Nat → (List (Int)) → (Int) → Option ((Bool))
  | 0, _, _ => none
  | n + 1, y0, y1 => (cond ((decide (y1 < (List.length y0 : Int)))) (if (0 : Int) ≤ y1 ∧ y1 < (List.length y0 : Int) then (if (List.length y0 : Int) < 0 then none else (Option.bind (s_l1In_f_c n ((List.getD y0 (y1 : Int).toNat 0), 0, (IntKind.i64.wrap ((IntKind.i64.wrap (1 * 2 ^ min ((List.length y0 : Int) : Int).toNat IntKind.i64.bits)) - 1)))) fun r1 => (cond ((!r1)) (some false) (s_NetOk_l0_c n y0 (IntKind.i64.wrap (y1 + 1)))))) else none) (s_NetOk_j1_c n y0))
def s_NetOk_j1_c : Nat → (List (Int)) → Option ((Bool))
  | 0, _ => none
  | n + 1, y0 => (s_NetOk_l2_c n y0 0)
def s_NetOk_l2_c : Nat → (List (Int)) → (Int) → Option ((Bool))
  | 0, _, _ => none
  | n + 1, y0, y1 => (cond ((decide (y1 < (List.length y0 : Int)))) (s_NetOk_l3_c n y0 y1 0) (some true))
def s_NetOk_l3_c : Nat → (List (Int)) → (Int) → (Int) → Option ((Bool))
  | 0, _, _, _ => none
  | n + 1, y0, y1, y2 => (cond ((decide (y2 < (List.length y0 : Int)))) (if (0 : Int) ≤ y1 ∧ y1 < (List.length y0 : Int) then (if y2 < 0 then none else (if (0 : Int) ≤ y2 ∧ y2 < (List.length y0 : Int) then (if y1 < 0 then none else (cond (((Int.tmod (Int.fdiv (List.getD y0 (y1 : Int).toNat 0) (2 ^ min (y2 : Int).toNat IntKind.i64.bits)) 2) != (Int.tmod (Int.fdiv (List.getD y0 (y2 : Int).toNat 0) (2 ^ min (y1 : Int).toNat IntKind.i64.bits)) 2))) (some false) (cond ((y2 == y1)) (if (0 : Int) ≤ y1 ∧ y1 < (List.length y0 : Int) then (if y2 < 0 then none else (cond (((Int.tmod (Int.fdiv (List.getD y0 (y1 : Int).toNat 0) (2 ^ min (y2 : Int).toNat IntKind.i64.bits)) 2) == 1)) (some false) (s_NetOk_l3_c n y0 y1 (IntKind.i64.wrap (y2 + 1))))) else none) (s_NetOk_l3_c n y0 y1 (IntKind.i64.wrap (y2 + 1)))))) else none)) else none) (s_NetOk_l2_c n y0 (IntKind.i64.wrap (y1 + 1))))
end
def s_NetOk_f_c (n : Nat) : ((List (Int))) → Option ((Bool))
  | x0 => (Option.bind (s_l1In_f_c n ((List.length x0 : Int), 1, 6)) fun r1 => (cond ((!r1)) (some false) (s_NetOk_l0_c n x0 0)))
mutual
theorem s_NetOk_l0_c_le : (n : Nat) → (y0 : List (Int)) → (y1 : Int) → OLe (s_NetOk_l0_c n y0 y1) (s_NetOk_l0 y0 y1)
  | 0, _, _ => OLe.none _
  | n + 1, y0, y1 => by
    rw [s_NetOk_l0_c, s_NetOk_l0_eq]
    repeat' first | with_reducible exact OLe.refl _ | with_reducible exact OLe.none _ | with_reducible apply s_l1In_f_c_le | with_reducible apply s_NetOk_l0_c_le | with_reducible apply s_NetOk_j1_c_le | with_reducible apply s_NetOk_l2_c_le | with_reducible apply s_NetOk_l3_c_le | with_reducible refine OLe.cond ?_ ?_ | with_reducible refine OLe.ite ?_ ?_ | with_reducible refine OLe.bind ?_ ?_ | intro _
theorem s_NetOk_j1_c_le : (n : Nat) → (y0 : List (Int)) → OLe (s_NetOk_j1_c n y0) (s_NetOk_j1 y0)
  | 0, _ => OLe.none _
  | n + 1, y0 => by
    rw [s_NetOk_j1_c, s_NetOk_j1_eq]
    repeat' first | with_reducible exact OLe.refl _ | with_reducible exact OLe.none _ | with_reducible apply s_l1In_f_c_le | with_reducible apply s_NetOk_l0_c_le | with_reducible apply s_NetOk_j1_c_le | with_reducible apply s_NetOk_l2_c_le | with_reducible apply s_NetOk_l3_c_le | with_reducible refine OLe.cond ?_ ?_ | with_reducible refine OLe.ite ?_ ?_ | with_reducible refine OLe.bind ?_ ?_ | intro _
theorem s_NetOk_l2_c_le : (n : Nat) → (y0 : List (Int)) → (y1 : Int) → OLe (s_NetOk_l2_c n y0 y1) (s_NetOk_l2 y0 y1)
  | 0, _, _ => OLe.none _
  | n + 1, y0, y1 => by
    rw [s_NetOk_l2_c, s_NetOk_l2_eq]
    repeat' first | with_reducible exact OLe.refl _ | with_reducible exact OLe.none _ | with_reducible apply s_l1In_f_c_le | with_reducible apply s_NetOk_l0_c_le | with_reducible apply s_NetOk_j1_c_le | with_reducible apply s_NetOk_l2_c_le | with_reducible apply s_NetOk_l3_c_le | with_reducible refine OLe.cond ?_ ?_ | with_reducible refine OLe.ite ?_ ?_ | with_reducible refine OLe.bind ?_ ?_ | intro _
theorem s_NetOk_l3_c_le : (n : Nat) → (y0 : List (Int)) → (y1 : Int) → (y2 : Int) → OLe (s_NetOk_l3_c n y0 y1 y2) (s_NetOk_l3 y0 y1 y2)
  | 0, _, _, _ => OLe.none _
  | n + 1, y0, y1, y2 => by
    rw [s_NetOk_l3_c, s_NetOk_l3_eq]
    repeat' first | with_reducible exact OLe.refl _ | with_reducible exact OLe.none _ | with_reducible apply s_l1In_f_c_le | with_reducible apply s_NetOk_l0_c_le | with_reducible apply s_NetOk_j1_c_le | with_reducible apply s_NetOk_l2_c_le | with_reducible apply s_NetOk_l3_c_le | with_reducible refine OLe.cond ?_ ?_ | with_reducible refine OLe.ite ?_ ?_ | with_reducible refine OLe.bind ?_ ?_ | intro _
end
theorem s_NetOk_f_c_le (n : Nat) (x : Ts s_NetOk_sig.pc) : OLe (s_NetOk_f_c n x) (s_NetOk_f x) := by
  rw [s_NetOk_f_c, s_NetOk_f_eq]
  repeat' first | with_reducible exact OLe.refl _ | with_reducible exact OLe.none _ | with_reducible apply s_l1In_f_c_le | with_reducible apply s_NetOk_l0_c_le | with_reducible apply s_NetOk_j1_c_le | with_reducible apply s_NetOk_l2_c_le | with_reducible apply s_NetOk_l3_c_le | with_reducible refine OLe.cond ?_ ?_ | with_reducible refine OLe.ite ?_ ?_ | with_reducible refine OLe.bind ?_ ?_ | intro _
theorem s_NetOk_ent : Entb Try.prog 45 := ⟨Try.f45, by kernel_rfl, by kernel_rfl, by kernel_rfl⟩
theorem s_NetOk_ok : CtrOk Try.prog 45 ⟨s_NetOk_sig, s_NetOk_f⟩ :=
  ctr_of (fn := Try.f45) (by kernel_rfl) (by kernel_rfl) (fun x : Ts s_NetOk_sig.pc => s_NetOk_E) (fun x => ⟨(fn_cons ⟨s_l1In_ok, s_l1In_ent⟩ fn_none), clo_none⟩) (fun h => by cases h) follows_ (fun _ _ => trivial)
end FN
set_option linter.unusedVariables false
namespace FN
open Go Go.Proofs
/-! loop.example/firingnets/spec.StateOk -/
@[reducible] def s_StateOk_sig : Sig := { ps := [none, none], pc := [.int .i64, .view .i64], rs := [none], rc := [.bool] }
noncomputable def s_StateOk_E : Env' := { fn := fun f => if f = 44 then some ⟨s_l1In_sig, s_l1In_f⟩ else none, ck := ckT, cuts := [(2, [0, 1, 5]), (6, [0, 1])], mine := fun i => false }
noncomputable def s_StateOk_f (x : Ts s_StateOk_sig.pc) : Option (Ts s_StateOk_sig.rc) := runFn Try.prog (s_StateOk_E) Try.f46 s_StateOk_sig x
noncomputable def s_StateOk_l0 (y0 : Int) (y1 : List (Int)) (y2 : Int) : Option ((Bool)) := from_ Try.prog (s_StateOk_E) Try.f46 s_StateOk_sig [1, 0, 1, 0] ⟨mkT 32 [(0, .int .i64 y0), (1, .row false .i64 y1), (5, .int .i64 y2)], []⟩
noncomputable def s_StateOk_j1 (y0 : Int) (y1 : List (Int)) : Option ((Bool)) := from_ Try.prog (s_StateOk_E) Try.f46 s_StateOk_sig [1, 1] ⟨mkT 32 [(0, .int .i64 y0), (1, .row false .i64 y1)], []⟩
theorem s_StateOk_f_eq (x0 : (Int)) (x1 : (List (Int))) : s_StateOk_f (x0, x1) = (s_StateOk_l0 x0 x1 0) := by
  kernel_rfl
theorem s_StateOk_l0_eq (y0 : Int) (y1 : List (Int)) (y2 : Int) : s_StateOk_l0 y0 y1 y2 = (cond ((decide (y2 < (List.length y1 : Int)))) (if (0 : Int) ≤ y2 ∧ y2 < (List.length y1 : Int) then (cond ((decide ((List.getD y1 (y2 : Int).toNat 0) < 0))) (some false) (if (0 : Int) ≤ y2 ∧ y2 < (List.length y1 : Int) then (cond ((decide (y0 ≤ (List.getD y1 (y2 : Int).toNat 0)))) (some false) (s_StateOk_l0 y0 y1 (IntKind.i64.wrap (y2 + 1)))) else none)) else none) (s_StateOk_j1 y0 y1)) := by
  refine (loopK_eq Try.prog (s_StateOk_E) (sub (Try.f46.body.getD .skip) [1, 0, 1, 0, 0]) _ _).trans ?_
  kernel_rfl
theorem s_StateOk_j1_eq (y0 : Int) (y1 : List (Int)) : s_StateOk_j1 y0 y1 = (Option.bind (s_l1In_f (y0, 3, 5)) fun r1 => (cond (r1) (Option.bind (s_l1In_f ((List.length y1 : Int), 1, 6)) fun r2 => (some r2)) (some false))) := by
  kernel_rfl
mutual
def s_StateOk_l0_c : Nat → (Int) → (List (Int)) → (Int) → Option ((Bool))
  | 0, _, _, _ => none
  | n + 1, y0, y1, y2 => (cond ((decide (y2 < (List.length y1 : Int)))) (if (0 : Int) ≤ y2 ∧ y2 < (List.length y1 : Int) then (cond ((decide ((List.getD y1 (y2 : Int).toNat 0) < 0))) (some false) (if (0 : Int) ≤ y2 ∧ y2 < (List.length y1 : Int) then (cond ((decide (y0 ≤ (List.getD y1 (y2 : Int).toNat 0)))) (some false) (s_StateOk_l0_c n y0 y1 (IntKind.i64.wrap (y2 + 1)))) else none)) else none) (s_StateOk_j1_c n y0 y1))
def s_StateOk_j1_c : Nat → (Int) → (List (Int)) → Option ((Bool))
  | 0, _, _ => none
  | n + 1, y0, y1 => (Option.bind (s_l1In_f_c n (y0, 3, 5)) fun r1 => (cond (r1) (Option.bind (s_l1In_f_c n ((List.length y1 : Int), 1, 6)) fun r2 => (some r2)) (some false)))
end
def s_StateOk_f_c (n : Nat) : ((Int)) × ((List (Int))) → Option ((Bool))
  | (x0, x1) => (s_StateOk_l0_c n x0 x1 0)
mutual
theorem s_StateOk_l0_c_le : (n : Nat) → (y0 : Int) → (y1 : List (Int)) → (y2 : Int) → OLe (s_StateOk_l0_c n y0 y1 y2) (s_StateOk_l0 y0 y1 y2)
  | 0, _, _, _ => OLe.none _
  | n + 1, y0, y1, y2 => by
    rw [s_StateOk_l0_c, s_StateOk_l0_eq]
    repeat' first | with_reducible exact OLe.refl _ | with_reducible exact OLe.none _ | with_reducible apply s_l1In_f_c_le | with_reducible apply s_StateOk_l0_c_le | with_reducible apply s_StateOk_j1_c_le | with_reducible refine OLe.cond ?_ ?_ | with_reducible refine OLe.ite ?_ ?_ | with_reducible refine OLe.bind ?_ ?_ | intro _
theorem s_StateOk_j1_c_le : (n : Nat) → (y0 : Int) → (y1 : List (Int)) → OLe (s_StateOk_j1_c n y0 y1) (s_StateOk_j1 y0 y1)
  | 0, _, _ => OLe.none _
  | n + 1, y0, y1 => by
    rw [s_StateOk_j1_c, s_StateOk_j1_eq]
    repeat' first | with_reducible exact OLe.refl _ | with_reducible exact OLe.none _ | with_reducible apply s_l1In_f_c_le | with_reducible apply s_StateOk_l0_c_le | with_reducible apply s_StateOk_j1_c_le | with_reducible refine OLe.cond ?_ ?_ | with_reducible refine OLe.ite ?_ ?_ | with_reducible refine OLe.bind ?_ ?_ | intro _
end
theorem s_StateOk_f_c_le (n : Nat) (x : Ts s_StateOk_sig.pc) : OLe (s_StateOk_f_c n x) (s_StateOk_f x) := by
  obtain ⟨x0, x1⟩ := x
  rw [s_StateOk_f_c, s_StateOk_f_eq]
  repeat' first | with_reducible exact OLe.refl _ | with_reducible exact OLe.none _ | with_reducible apply s_l1In_f_c_le | with_reducible apply s_StateOk_l0_c_le | with_reducible apply s_StateOk_j1_c_le | with_reducible refine OLe.cond ?_ ?_ | with_reducible refine OLe.ite ?_ ?_ | with_reducible refine OLe.bind ?_ ?_ | intro _
theorem s_StateOk_ent : Entb Try.prog 46 := ⟨Try.f46, by kernel_rfl, by kernel_rfl, by kernel_rfl⟩
theorem s_StateOk_ok : CtrOk Try.prog 46 ⟨s_StateOk_sig, s_StateOk_f⟩ :=
  ctr_of (fn := Try.f46) (by kernel_rfl) (by kernel_rfl) (fun x : Ts s_StateOk_sig.pc => s_StateOk_E) (fun x => ⟨(fn_cons ⟨s_l1In_ok, s_l1In_ent⟩ fn_none), clo_none⟩) (fun h => by cases h) follows_ (fun _ _ => trivial)
end FN
set_option linter.unusedVariables false
namespace FN
open Go Go.Proofs
/-! loop.example/firingnets/spec.l3Ok -/
@[reducible] def s_l3Ok_sig : Sig := { ps := [none, none, none], pc := [.view .i64, .int .i64, .view .i64], rs := [none], rc := [.bool] }
noncomputable def s_l3Ok_E : Env' := { fn := fun f => if f = 45 then some ⟨s_NetOk_sig, s_NetOk_f⟩ else if f = 46 then some ⟨s_StateOk_sig, s_StateOk_f⟩ else none, ck := ckT, cuts := [], mine := fun i => false }
noncomputable def s_l3Ok_f (x : Ts s_l3Ok_sig.pc) : Option (Ts s_l3Ok_sig.rc) := runFn Try.prog (s_l3Ok_E) Try.f36 s_l3Ok_sig x
theorem s_l3Ok_f_eq (x0 : (List (Int))) (x1 : (Int)) (x2 : (List (Int))) : s_l3Ok_f (x0, x1, x2) = (Option.bind (s_NetOk_f x0) fun r1 => (cond (r1) (Option.bind (s_StateOk_f (x1, x2)) fun r2 => (cond (r2) (some ((List.length x2 : Int) == (List.length x0 : Int))) (some false))) (some false))) := by
  kernel_rfl
def s_l3Ok_f_c (n : Nat) : ((List (Int))) × ((Int)) × ((List (Int))) → Option ((Bool))
  | (x0, x1, x2) => (Option.bind (s_NetOk_f_c n x0) fun r1 => (cond (r1) (Option.bind (s_StateOk_f_c n (x1, x2)) fun r2 => (cond (r2) (some ((List.length x2 : Int) == (List.length x0 : Int))) (some false))) (some false)))
theorem s_l3Ok_f_c_le (n : Nat) (x : Ts s_l3Ok_sig.pc) : OLe (s_l3Ok_f_c n x) (s_l3Ok_f x) := by
  obtain ⟨x0, x1, x2⟩ := x
  rw [s_l3Ok_f_c, s_l3Ok_f_eq]
  repeat' first | with_reducible exact OLe.refl _ | with_reducible exact OLe.none _ | with_reducible apply s_NetOk_f_c_le | with_reducible apply s_StateOk_f_c_le | with_reducible refine OLe.cond ?_ ?_ | with_reducible refine OLe.ite ?_ ?_ | with_reducible refine OLe.bind ?_ ?_ | intro _
theorem s_l3Ok_ent : Entb Try.prog 36 := ⟨Try.f36, by kernel_rfl, by kernel_rfl, by kernel_rfl⟩
theorem s_l3Ok_ok : CtrOk Try.prog 36 ⟨s_l3Ok_sig, s_l3Ok_f⟩ :=
  ctr_of (fn := Try.f36) (by kernel_rfl) (by kernel_rfl) (fun x : Ts s_l3Ok_sig.pc => s_l3Ok_E) (fun x => ⟨(fn_cons ⟨s_NetOk_ok, s_NetOk_ent⟩ (fn_cons ⟨s_StateOk_ok, s_StateOk_ent⟩ fn_none)), clo_none⟩) (fun h => by cases h) follows_ (fun _ _ => trivial)
end FN
set_option linter.unusedVariables false
namespace FN
open Go Go.Proofs
/-! loop.example/firingnets/spec.PlaceOk -/
@[reducible] def s_PlaceOk_sig : Sig := { ps := [some 3], pc := [.view .i64, .int .i64, .view .i64], rs := [none], rc := [.bool] }
noncomputable def s_PlaceOk_E : Env' := { fn := fun f => if f = 36 then some ⟨s_l3Ok_sig, s_l3Ok_f⟩ else none, ck := ckT, cuts := [], mine := fun i => false }
noncomputable def s_PlaceOk_f (x : Ts s_PlaceOk_sig.pc) : Option (Ts s_PlaceOk_sig.rc) := runFn Try.prog (s_PlaceOk_E) Try.f17 s_PlaceOk_sig x
theorem s_PlaceOk_f_eq (x0 : (List (Int))) (x1 : (Int)) (x2 : (List (Int))) : s_PlaceOk_f (x0, x1, x2) = (Option.bind (s_l3Ok_f (x0, x1, x2)) fun r1 => (some r1)) := by
  kernel_rfl
def s_PlaceOk_f_c (n : Nat) : ((List (Int))) × ((Int)) × ((List (Int))) → Option ((Bool))
  | (x0, x1, x2) => (Option.bind (s_l3Ok_f_c n (x0, x1, x2)) fun r1 => (some r1))
theorem s_PlaceOk_f_c_le (n : Nat) (x : Ts s_PlaceOk_sig.pc) : OLe (s_PlaceOk_f_c n x) (s_PlaceOk_f x) := by
  obtain ⟨x0, x1, x2⟩ := x
  rw [s_PlaceOk_f_c, s_PlaceOk_f_eq]
  repeat' first | with_reducible exact OLe.refl _ | with_reducible exact OLe.none _ | with_reducible apply s_l3Ok_f_c_le | with_reducible refine OLe.cond ?_ ?_ | with_reducible refine OLe.ite ?_ ?_ | with_reducible refine OLe.bind ?_ ?_ | intro _
theorem s_PlaceOk_ent : Entb Try.prog 17 := ⟨Try.f17, by kernel_rfl, by kernel_rfl, by kernel_rfl⟩
theorem s_PlaceOk_ok : CtrOk Try.prog 17 ⟨s_PlaceOk_sig, s_PlaceOk_f⟩ :=
  ctr_of (fn := Try.f17) (by kernel_rfl) (by kernel_rfl) (fun x : Ts s_PlaceOk_sig.pc => s_PlaceOk_E) (fun x => ⟨(fn_cons ⟨s_l3Ok_ok, s_l3Ok_ent⟩ fn_none), clo_none⟩) (fun h => by cases h) follows_ (fun _ _ => trivial)
end FN
set_option linter.unusedVariables false
namespace FN
open Go Go.Proofs
/-! loop.example/firingnets/laws.szIntS -/
@[reducible] def w_szIntS_sig : Sig := { ps := [none, none], pc := [.view .i64, .int .i64], rs := [none], rc := [.int .i64] }
noncomputable def w_szIntS_E : Env' := { fn := fun f => none, ck := ckT, cuts := [], mine := fun i => false }
noncomputable def w_szIntS_f (x : Ts w_szIntS_sig.pc) : Option (Ts w_szIntS_sig.rc) := runFn Try.prog (w_szIntS_E) Try.f35 w_szIntS_sig x
theorem w_szIntS_f_eq (x0 : (List (Int))) (x1 : (Int)) : w_szIntS_f (x0, x1) = (cond ((decide ((IntKind.i64.wrap (x1 - (List.length x0 : Int))) < 0))) (some (-1)) (some (IntKind.i64.wrap (x1 - (List.length x0 : Int))))) := by
  kernel_rfl
def w_szIntS_f_c (n : Nat) : ((List (Int))) × ((Int)) → Option ((Int))
  | (x0, x1) => (cond ((decide ((IntKind.i64.wrap (x1 - (List.length x0 : Int))) < 0))) (some (-1)) (some (IntKind.i64.wrap (x1 - (List.length x0 : Int)))))
theorem w_szIntS_f_c_le (n : Nat) (x : Ts w_szIntS_sig.pc) : OLe (w_szIntS_f_c n x) (w_szIntS_f x) := by
  obtain ⟨x0, x1⟩ := x
  rw [w_szIntS_f_c, w_szIntS_f_eq]
  repeat' first | with_reducible exact OLe.refl _ | with_reducible exact OLe.none _ | with_reducible refine OLe.cond ?_ ?_ | with_reducible refine OLe.ite ?_ ?_ | with_reducible refine OLe.bind ?_ ?_ | intro _
theorem w_szIntS_ent : Entb Try.prog 35 := ⟨Try.f35, by kernel_rfl, by kernel_rfl, by kernel_rfl⟩
theorem w_szIntS_ok : CtrOk Try.prog 35 ⟨w_szIntS_sig, w_szIntS_f⟩ :=
  ctr_of (fn := Try.f35) (by kernel_rfl) (by kernel_rfl) (fun x : Ts w_szIntS_sig.pc => w_szIntS_E) (fun x => ⟨fn_none, clo_none⟩) (fun h => by cases h) follows_ (fun _ _ => trivial)
end FN
set_option linter.unusedVariables false
namespace FN
open Go Go.Proofs
/-! loop.example/firingnets/laws.szPlace -/
@[reducible] def w_szPlace_sig : Sig := { ps := [some 3, none], pc := [.view .i64, .int .i64, .view .i64, .int .i64], rs := [none], rc := [.int .i64] }
noncomputable def w_szPlace_E : Env' := { fn := fun f => if f = 35 then some ⟨w_szIntS_sig, w_szIntS_f⟩ else none, ck := ckT, cuts := [], mine := fun i => false }
noncomputable def w_szPlace_f (x : Ts w_szPlace_sig.pc) : Option (Ts w_szPlace_sig.rc) := runFn Try.prog (w_szPlace_E) Try.f16 w_szPlace_sig x
theorem w_szPlace_f_eq (x0 : (List (Int))) (x1 : (Int)) (x2 : (List (Int))) (x3 : (Int)) : w_szPlace_f (x0, x1, x2, x3) = (Option.bind (w_szIntS_f (x0, x3)) fun r1 => (cond ((decide (r1 < 0))) (some (-1)) (Option.bind (w_szIntS_f (x2, r1)) fun r2 => (cond ((decide (r2 < 0))) (some (-1)) (some r2))))) := by
  kernel_rfl
def w_szPlace_f_c (n : Nat) : ((List (Int))) × ((Int)) × ((List (Int))) × ((Int)) → Option ((Int))
  | (x0, x1, x2, x3) => (Option.bind (w_szIntS_f_c n (x0, x3)) fun r1 => (cond ((decide (r1 < 0))) (some (-1)) (Option.bind (w_szIntS_f_c n (x2, r1)) fun r2 => (cond ((decide (r2 < 0))) (some (-1)) (some r2)))))
theorem w_szPlace_f_c_le (n : Nat) (x : Ts w_szPlace_sig.pc) : OLe (w_szPlace_f_c n x) (w_szPlace_f x) := by
  obtain ⟨x0, x1, x2, x3⟩ := x
  rw [w_szPlace_f_c, w_szPlace_f_eq]
  repeat' first | with_reducible exact OLe.refl _ | with_reducible exact OLe.none _ | with_reducible apply w_szIntS_f_c_le | with_reducible refine OLe.cond ?_ ?_ | with_reducible refine OLe.ite ?_ ?_ | with_reducible refine OLe.bind ?_ ?_ | intro _
theorem w_szPlace_ent : Entb Try.prog 16 := ⟨Try.f16, by kernel_rfl, by kernel_rfl, by kernel_rfl⟩
theorem w_szPlace_ok : CtrOk Try.prog 16 ⟨w_szPlace_sig, w_szPlace_f⟩ :=
  ctr_of (fn := Try.f16) (by kernel_rfl) (by kernel_rfl) (fun x : Ts w_szPlace_sig.pc => w_szPlace_E) (fun x => ⟨(fn_cons ⟨w_szIntS_ok, w_szIntS_ent⟩ fn_none), clo_none⟩) (fun h => by cases h) follows_ (fun _ _ => trivial)
end FN
set_option linter.unusedVariables false
namespace FN
open Go Go.Proofs
/-! loop.example/firingnets/laws.toIntS -/
@[reducible] def w_toIntS_sig : Sig := { ps := [none], pc := [.view .i64], rs := [none], rc := [.row 3 .i64] }
noncomputable def w_toIntS_E : Env' := { fn := fun f => none, ck := ckT, cuts := [(3, [0, 3, 4])], mine := fun i => false }
noncomputable def w_toIntS_f (x : Ts w_toIntS_sig.pc) : Option (Ts w_toIntS_sig.rc) := runFn Try.prog (w_toIntS_E) Try.f37 w_toIntS_sig x
noncomputable def w_toIntS_l0 (y0 : List (Int)) (y1 : Int) (y2 : List (Int)) : Option ((List (Int))) := from_ Try.prog (w_toIntS_E) Try.f37 w_toIntS_sig [1, 1, 0, 1, 0] ⟨mkT 22 [(0, .row false .i64 y0), (3, .own 0), (4, .int .i64 y1)], [some (.arr 3 true .i64 y2)]⟩
theorem w_toIntS_f_eq (x0 : (List (Int))) : w_toIntS_f x0 = (if (0 : Int) ≤ (List.length x0 : Int) ∧ (List.length x0 : Int) * 8 ≤ 140737488355328 ∧ (List.length x0 : Int) ≤ 140737488355328 then (w_toIntS_l0 x0 0 (List.replicate ((List.length x0 : Int) : Int).toNat 0 : List (Int))) else none) := by
  kernel_rfl
theorem w_toIntS_l0_eq (y0 : List (Int)) (y1 : Int) (y2 : List (Int)) : w_toIntS_l0 y0 y1 y2 = (cond ((decide (y1 < (List.length y0 : Int)))) (if (0 : Int) ≤ y1 ∧ y1 < (List.length y0 : Int) then (if (0 : Int) ≤ y1 ∧ y1 < (List.length y2 : Int) then (w_toIntS_l0 y0 (IntKind.i64.wrap (y1 + 1)) (List.set y2 (y1 : Int).toNat (List.getD y0 (y1 : Int).toNat 0))) else none) else none) (some y2)) := by
  refine (loopK_eq Try.prog (w_toIntS_E) (sub (Try.f37.body.getD .skip) [1, 1, 0, 1, 0, 0]) _ _).trans ?_
  kernel_rfl
mutual
def w_toIntS_l0_c : Nat → (List (Int)) → (Int) → (List (Int)) → Option ((List (Int)))
  | 0, _, _, _ => none
  | n + 1, y0, y1, y2 => (cond ((decide (y1 < (List.length y0 : Int)))) (if (0 : Int) ≤ y1 ∧ y1 < (List.length y0 : Int) then (if (0 : Int) ≤ y1 ∧ y1 < (List.length y2 : Int) then (w_toIntS_l0_c n y0 (IntKind.i64.wrap (y1 + 1)) (List.set y2 (y1 : Int).toNat (List.getD y0 (y1 : Int).toNat 0))) else none) else none) (some y2))
end
def w_toIntS_f_c (n : Nat) : ((List (Int))) → Option ((List (Int)))
  | x0 => (if (0 : Int) ≤ (List.length x0 : Int) ∧ (List.length x0 : Int) * 8 ≤ 140737488355328 ∧ (List.length x0 : Int) ≤ 140737488355328 then (w_toIntS_l0_c n x0 0 (List.replicate ((List.length x0 : Int) : Int).toNat 0 : List (Int))) else none)
mutual
theorem w_toIntS_l0_c_le : (n : Nat) → (y0 : List (Int)) → (y1 : Int) → (y2 : List (Int)) → OLe (w_toIntS_l0_c n y0 y1 y2) (w_toIntS_l0 y0 y1 y2)
  | 0, _, _, _ => OLe.none _
  | n + 1, y0, y1, y2 => by
    rw [w_toIntS_l0_c, w_toIntS_l0_eq]
    repeat' first | with_reducible exact OLe.refl _ | with_reducible exact OLe.none _ | with_reducible apply w_toIntS_l0_c_le | with_reducible refine OLe.cond ?_ ?_ | with_reducible refine OLe.ite ?_ ?_ | with_reducible refine OLe.bind ?_ ?_ | intro _
end
theorem w_toIntS_f_c_le (n : Nat) (x : Ts w_toIntS_sig.pc) : OLe (w_toIntS_f_c n x) (w_toIntS_f x) := by
  rw [w_toIntS_f_c, w_toIntS_f_eq]
  repeat' first | with_reducible exact OLe.refl _ | with_reducible exact OLe.none _ | with_reducible apply w_toIntS_l0_c_le | with_reducible refine OLe.cond ?_ ?_ | with_reducible refine OLe.ite ?_ ?_ | with_reducible refine OLe.bind ?_ ?_ | intro _
theorem w_toIntS_ent : Entb Try.prog 37 := ⟨Try.f37, by kernel_rfl, by kernel_rfl, by kernel_rfl⟩
theorem w_toIntS_ok : CtrOk Try.prog 37 ⟨w_toIntS_sig, w_toIntS_f⟩ :=
  ctr_of (fn := Try.f37) (by kernel_rfl) (by kernel_rfl) (fun x : Ts w_toIntS_sig.pc => w_toIntS_E) (fun x => ⟨fn_none, clo_none⟩) (fun h => by cases h) follows_ (fun _ _ => trivial)
end FN
set_option linter.unusedVariables false
namespace FN
open Go Go.Proofs
/-! loop.example/firingnets/laws.toPlace -/
@[reducible] def w_toPlace_sig : Sig := { ps := [some 3], pc := [.view .i64, .int .i64, .view .i64], rs := [some 3], rc := [.row 3 .i64, .int .i64, .row 3 .i64] }
noncomputable def w_toPlace_E : Env' := { fn := fun f => if f = 37 then some ⟨w_toIntS_sig, w_toIntS_f⟩ else none, ck := ckT, cuts := [], mine := fun i => i == 6 || i == 13 }
noncomputable def w_toPlace_f (x : Ts w_toPlace_sig.pc) : Option (Ts w_toPlace_sig.rc) := runFn Try.prog (w_toPlace_E) Try.f18 w_toPlace_sig x
theorem w_toPlace_f_eq (x0 : (List (Int))) (x1 : (Int)) (x2 : (List (Int))) : w_toPlace_f (x0, x1, x2) = (Option.bind (w_toIntS_f x0) fun r1 => (Option.bind (w_toIntS_f x2) fun r2 => (some (r1, x1, r2)))) := by
  kernel_rfl
def w_toPlace_f_c (n : Nat) : ((List (Int))) × ((Int)) × ((List (Int))) → Option ((List (Int)) × (Int) × (List (Int)))
  | (x0, x1, x2) => (Option.bind (w_toIntS_f_c n x0) fun r1 => (Option.bind (w_toIntS_f_c n x2) fun r2 => (some (r1, x1, r2))))
theorem w_toPlace_f_c_le (n : Nat) (x : Ts w_toPlace_sig.pc) : OLe (w_toPlace_f_c n x) (w_toPlace_f x) := by
  obtain ⟨x0, x1, x2⟩ := x
  rw [w_toPlace_f_c, w_toPlace_f_eq]
  repeat' first | with_reducible exact OLe.refl _ | with_reducible exact OLe.none _ | with_reducible apply w_toIntS_f_c_le | with_reducible refine OLe.cond ?_ ?_ | with_reducible refine OLe.ite ?_ ?_ | with_reducible refine OLe.bind ?_ ?_ | intro _
theorem w_toPlace_ent : Entb Try.prog 18 := ⟨Try.f18, by kernel_rfl, by kernel_rfl, by kernel_rfl⟩
theorem w_toPlace_ok : CtrOk Try.prog 18 ⟨w_toPlace_sig, w_toPlace_f⟩ :=
  ctr_of (fn := Try.f18) (by kernel_rfl) (by kernel_rfl) (fun x : Ts w_toPlace_sig.pc => w_toPlace_E) (fun x => ⟨(fn_cons ⟨w_toIntS_ok, w_toIntS_ent⟩ fn_none), clo_none⟩) (fun h => by cases h) follows_ (fun _ _ => trivial)
end FN
set_option linter.unusedVariables false
namespace FN
open Go Go.Proofs
/-! loop.example/firingnets/laws.eqIntS -/
@[reducible] def w_eqIntS_sig : Sig := { ps := [none, none], pc := [.view .i64, .view .i64], rs := [none], rc := [.bool] }
noncomputable def w_eqIntS_E : Env' := { fn := fun f => none, ck := ckT, cuts := [(4, [0, 1, 5])], mine := fun i => false }
noncomputable def w_eqIntS_f (x : Ts w_eqIntS_sig.pc) : Option (Ts w_eqIntS_sig.rc) := runFn Try.prog (w_eqIntS_E) Try.f39 w_eqIntS_sig x
noncomputable def w_eqIntS_l0 (y0 : List (Int)) (y1 : List (Int)) (y2 : Int) : Option ((Bool)) := from_ Try.prog (w_eqIntS_E) Try.f39 w_eqIntS_sig [1, 1, 0, 1, 0] ⟨mkT 26 [(0, .row false .i64 y0), (1, .row false .i64 y1), (5, .int .i64 y2)], []⟩
theorem w_eqIntS_f_eq (x0 : (List (Int))) (x1 : (List (Int))) : w_eqIntS_f (x0, x1) = (cond (((List.length x0 : Int) != (List.length x1 : Int))) (some false) (w_eqIntS_l0 x0 x1 0)) := by
  kernel_rfl
theorem w_eqIntS_l0_eq (y0 : List (Int)) (y1 : List (Int)) (y2 : Int) : w_eqIntS_l0 y0 y1 y2 = (cond ((decide (y2 < (List.length y0 : Int)))) (if (0 : Int) ≤ y2 ∧ y2 < (List.length y0 : Int) then (if (0 : Int) ≤ y2 ∧ y2 < (List.length y1 : Int) then (cond (((List.getD y0 (y2 : Int).toNat 0) != (List.getD y1 (y2 : Int).toNat 0))) (some false) (w_eqIntS_l0 y0 y1 (IntKind.i64.wrap (y2 + 1)))) else none) else none) (some true)) := by
  refine (loopK_eq Try.prog (w_eqIntS_E) (sub (Try.f39.body.getD .skip) [1, 1, 0, 1, 0, 0]) _ _).trans ?_
  kernel_rfl
mutual
def w_eqIntS_l0_c : Nat → (List (Int)) → (List (Int)) → (Int) → Option ((Bool))
  | 0, _, _, _ => none
  | n + 1, y0, y1, y2 => (cond ((decide (y2 < (List.length y0 : Int)))) (if (0 : Int) ≤ y2 ∧ y2 < (List.length y0 : Int) then (if (0 : Int) ≤ y2 ∧ y2 < (List.length y1 : Int) then (cond (((List.getD y0 (y2 : Int).toNat 0) != (List.getD y1 (y2 : Int).toNat 0))) (some false) (w_eqIntS_l0_c n y0 y1 (IntKind.i64.wrap (y2 + 1)))) else none) else none) (some true))
end
def w_eqIntS_f_c (n : Nat) : ((List (Int))) × ((List (Int))) → Option ((Bool))
  | (x0, x1) => (cond (((List.length x0 : Int) != (List.length x1 : Int))) (some false) (w_eqIntS_l0_c n x0 x1 0))
mutual
theorem w_eqIntS_l0_c_le : (n : Nat) → (y0 : List (Int)) → (y1 : List (Int)) → (y2 : Int) → OLe (w_eqIntS_l0_c n y0 y1 y2) (w_eqIntS_l0 y0 y1 y2)
  | 0, _, _, _ => OLe.none _
  | n + 1, y0, y1, y2 => by
    rw [w_eqIntS_l0_c, w_eqIntS_l0_eq]
    repeat' first | with_reducible exact OLe.refl _ | with_reducible exact OLe.none _ | with_reducible apply w_eqIntS_l0_c_le | with_reducible refine OLe.cond ?_ ?_ | with_reducible refine OLe.ite ?_ ?_ | with_reducible refine OLe.bind ?_ ?_ | intro _
end
theorem w_eqIntS_f_c_le (n : Nat) (x : Ts w_eqIntS_sig.pc) : OLe (w_eqIntS_f_c n x) (w_eqIntS_f x) := by
  obtain ⟨x0, x1⟩ := x
  rw [w_eqIntS_f_c, w_eqIntS_f_eq]
  repeat' first | with_reducible exact OLe.refl _ | with_reducible exact OLe.none _ | with_reducible apply w_eqIntS_l0_c_le | with_reducible refine OLe.cond ?_ ?_ | with_reducible refine OLe.ite ?_ ?_ | with_reducible refine OLe.bind ?_ ?_ | intro _
theorem w_eqIntS_ent : Entb Try.prog 39 := ⟨Try.f39, by kernel_rfl, by kernel_rfl, by kernel_rfl⟩
theorem w_eqIntS_ok : CtrOk Try.prog 39 ⟨w_eqIntS_sig, w_eqIntS_f⟩ :=
  ctr_of (fn := Try.f39) (by kernel_rfl) (by kernel_rfl) (fun x : Ts w_eqIntS_sig.pc => w_eqIntS_E) (fun x => ⟨fn_none, clo_none⟩) (fun h => by cases h) follows_ (fun _ _ => trivial)
end FN
set_option linter.unusedVariables false
namespace FN
open Go Go.Proofs
/-! loop.example/firingnets/laws.eqPlace -/
@[reducible] def w_eqPlace_sig : Sig := { ps := [some 3, some 3], pc := [.view .i64, .int .i64, .view .i64, .view .i64, .int .i64, .view .i64], rs := [none], rc := [.bool] }
noncomputable def w_eqPlace_E : Env' := { fn := fun f => if f = 39 then some ⟨w_eqIntS_sig, w_eqIntS_f⟩ else none, ck := ckT, cuts := [], mine := fun i => false }
noncomputable def w_eqPlace_f (x : Ts w_eqPlace_sig.pc) : Option (Ts w_eqPlace_sig.rc) := runFn Try.prog (w_eqPlace_E) Try.f20 w_eqPlace_sig x
theorem w_eqPlace_f_eq (x0 : (List (Int))) (x1 : (Int)) (x2 : (List (Int))) (x3 : (List (Int))) (x4 : (Int)) (x5 : (List (Int))) : w_eqPlace_f (x0, x1, x2, x3, x4, x5) = (Option.bind (w_eqIntS_f (x0, x3)) fun r1 => (cond ((!r1)) (some false) (cond ((x1 != x4)) (some false) (Option.bind (w_eqIntS_f (x2, x5)) fun r2 => (cond ((!r2)) (some false) (some true)))))) := by
  kernel_rfl
def w_eqPlace_f_c (n : Nat) : ((List (Int))) × ((Int)) × ((List (Int))) × ((List (Int))) × ((Int)) × ((List (Int))) → Option ((Bool))
  | (x0, x1, x2, x3, x4, x5) => (Option.bind (w_eqIntS_f_c n (x0, x3)) fun r1 => (cond ((!r1)) (some false) (cond ((x1 != x4)) (some false) (Option.bind (w_eqIntS_f_c n (x2, x5)) fun r2 => (cond ((!r2)) (some false) (some true))))))
theorem w_eqPlace_f_c_le (n : Nat) (x : Ts w_eqPlace_sig.pc) : OLe (w_eqPlace_f_c n x) (w_eqPlace_f x) := by
  obtain ⟨x0, x1, x2, x3, x4, x5⟩ := x
  rw [w_eqPlace_f_c, w_eqPlace_f_eq]
  repeat' first | with_reducible exact OLe.refl _ | with_reducible exact OLe.none _ | with_reducible apply w_eqIntS_f_c_le | with_reducible refine OLe.cond ?_ ?_ | with_reducible refine OLe.ite ?_ ?_ | with_reducible refine OLe.bind ?_ ?_ | intro _
theorem w_eqPlace_ent : Entb Try.prog 20 := ⟨Try.f20, by kernel_rfl, by kernel_rfl, by kernel_rfl⟩
theorem w_eqPlace_ok : CtrOk Try.prog 20 ⟨w_eqPlace_sig, w_eqPlace_f⟩ :=
  ctr_of (fn := Try.f20) (by kernel_rfl) (by kernel_rfl) (fun x : Ts w_eqPlace_sig.pc => w_eqPlace_E) (fun x => ⟨(fn_cons ⟨w_eqIntS_ok, w_eqIntS_ent⟩ fn_none), clo_none⟩) (fun h => by cases h) follows_ (fun _ _ => trivial)
end FN
set_option linter.unusedVariables false
namespace FN
open Go Go.Proofs
/-! loop.example/firingnets/laws.FnExactPlaceOk -/
@[reducible] def w_FnExactPlaceOk_sig : Sig := { ps := [some 3], pc := [.view .i64, .int .i64, .view .i64], rs := [none], rc := [.bool] }
noncomputable def w_FnExactPlaceOk_E : Env' := { fn := fun f => if f = 16 then some ⟨w_szPlace_sig, w_szPlace_f⟩ else if f = 17 then some ⟨s_PlaceOk_sig, s_PlaceOk_f⟩ else if f = 18 then some ⟨w_toPlace_sig, w_toPlace_f⟩ else if f = 19 then some ⟨i_PlaceOk_sig, i_PlaceOk_f⟩ else if f = 20 then some ⟨w_eqPlace_sig, w_eqPlace_f⟩ else none, ck := ckT, cuts := [], mine := fun i => false }
noncomputable def w_FnExactPlaceOk_f (x : Ts w_FnExactPlaceOk_sig.pc) : Option (Ts w_FnExactPlaceOk_sig.rc) := runFn Try.prog (w_FnExactPlaceOk_E) Try.f4 w_FnExactPlaceOk_sig x
theorem w_FnExactPlaceOk_f_eq (x0 : (List (Int))) (x1 : (Int)) (x2 : (List (Int))) : w_FnExactPlaceOk_f (x0, x1, x2) = (Option.bind (w_szPlace_f (x0, x1, x2, 1048576)) fun r1 => (cond ((decide (r1 < 0))) (some true) (Option.bind (w_toPlace_f (x0, x1, x2)) fun r2 => (Option.bind (s_PlaceOk_f (r2.1, r2.2.1, r2.2.2)) fun r3 => (Option.bind (w_toPlace_f (x0, x1, x2)) fun r4 => (Option.bind (i_PlaceOk_f (r4.1, r4.2.1, r4.2.2)) fun r5 => (cond ((!(r5 == r3))) (some false) (Option.bind (w_toPlace_f (x0, x1, x2)) fun r6 => (Option.bind (w_eqPlace_f (r4.1, r4.2.1, r4.2.2, r6.1, r6.2.1, r6.2.2)) fun r7 => (cond ((!r7)) (some false) (some true))))))))))) := by
  kernel_rfl
def w_FnExactPlaceOk_f_c (n : Nat) : ((List (Int))) × ((Int)) × ((List (Int))) → Option ((Bool))
  | (x0, x1, x2) => (Option.bind (w_szPlace_f_c n (x0, x1, x2, 1048576)) fun r1 => (cond ((decide (r1 < 0))) (some true) (Option.bind (w_toPlace_f_c n (x0, x1, x2)) fun r2 => (Option.bind (s_PlaceOk_f_c n (r2.1, r2.2.1, r2.2.2)) fun r3 => (Option.bind (w_toPlace_f_c n (x0, x1, x2)) fun r4 => (Option.bind (i_PlaceOk_f_c n (r4.1, r4.2.1, r4.2.2)) fun r5 => (cond ((!(r5 == r3))) (some false) (Option.bind (w_toPlace_f_c n (x0, x1, x2)) fun r6 => (Option.bind (w_eqPlace_f_c n (r4.1, r4.2.1, r4.2.2, r6.1, r6.2.1, r6.2.2)) fun r7 => (cond ((!r7)) (some false) (some true)))))))))))
theorem w_FnExactPlaceOk_f_c_le (n : Nat) (x : Ts w_FnExactPlaceOk_sig.pc) : OLe (w_FnExactPlaceOk_f_c n x) (w_FnExactPlaceOk_f x) := by
  obtain ⟨x0, x1, x2⟩ := x
  rw [w_FnExactPlaceOk_f_c, w_FnExactPlaceOk_f_eq]
  repeat' first | with_reducible exact OLe.refl _ | with_reducible exact OLe.none _ | with_reducible apply w_szPlace_f_c_le | with_reducible apply s_PlaceOk_f_c_le | with_reducible apply w_toPlace_f_c_le | with_reducible apply i_PlaceOk_f_c_le | with_reducible apply w_eqPlace_f_c_le | with_reducible refine OLe.cond ?_ ?_ | with_reducible refine OLe.ite ?_ ?_ | with_reducible refine OLe.bind ?_ ?_ | intro _
theorem w_FnExactPlaceOk_ent : Entb Try.prog 4 := ⟨Try.f4, by kernel_rfl, by kernel_rfl, by kernel_rfl⟩
theorem w_FnExactPlaceOk_ok : CtrOk Try.prog 4 ⟨w_FnExactPlaceOk_sig, w_FnExactPlaceOk_f⟩ :=
  ctr_of (fn := Try.f4) (by kernel_rfl) (by kernel_rfl) (fun x : Ts w_FnExactPlaceOk_sig.pc => w_FnExactPlaceOk_E) (fun x => ⟨(fn_cons ⟨w_szPlace_ok, w_szPlace_ent⟩ (fn_cons ⟨s_PlaceOk_ok, s_PlaceOk_ent⟩ (fn_cons ⟨w_toPlace_ok, w_toPlace_ent⟩ (fn_cons ⟨i_PlaceOk_ok, i_PlaceOk_ent⟩ (fn_cons ⟨w_eqPlace_ok, w_eqPlace_ent⟩ fn_none))))), clo_none⟩) (fun h => by cases h) follows_ (fun _ _ => trivial)
end FN
