/- Texts of the proof, joined: The functions, their equations and contracts. -/
import Derived.KernelRfl
import Derived.Test.YteibjlghlbkcoaaProg
import Derived.Test.YteibjlghlbkcoaaA1
set_option linter.unusedVariables false
set_option linter.unusedSimpArgs false
set_option linter.unusedSectionVars false
namespace FN
open Go Go.Proofs
def mkT (n : Nat) (l : List (Nat × PV)) : List PV := (List.range n).map fun i => (l.lookup i).getD .junk
def ckT (t : TypeId) : Option CK := if t = 3 then some .i64 else if t = 5 then some .u8 else if t = 27 then some .intss else none
theorem follows_ : Try.prog.follows .mixedOrders = true := by kernel_rfl
theorem rd_head {x b : List Int} {l ps : List PV} (h : (PV.row false .u8 x :: l) = PV.row false .u8 b :: ps) : x = b := by
  injection h with h _
  injection h
theorem fn_none {P : Program} : ∀ (f : FuncId) (c : Ctr'), (none : Option Ctr') = some c → CtrOk P f c ∧ Entb P f := fun _ _ h => by cases h
theorem fn_cons {P : Program} {f0 : FuncId} {c0 : Ctr'} (h0 : CtrOk P f0 c0 ∧ Entb P f0) {g : FuncId → Option Ctr'} (hg : ∀ f c, g f = some c → CtrOk P f c ∧ Entb P f) : ∀ f c, (if f = f0 then some c0 else g f) = some c → CtrOk P f c ∧ Entb P f := by
  intro f c h
  split at h
  · rename_i e; injection h with h; subst e; subst h; exact h0
  · exact hg f c h
theorem clo_none {P : Program} {E : Env'} (h : E.clo = fun _ _ _ _ _ => none := by rfl) : CloOk P E := by
  intro f ps hp h' pin base w ρ args hc
  rw [h] at hc
  cases hc
/-- What the one answers, the other answers. -/
def OLe {α : Type} (a b : Option α) : Prop := ∀ r, a = some r → b = some r
theorem OLe.refl {α : Type} (a : Option α) : OLe a a := fun _ h => h
theorem OLe.none {α : Type} (a : Option α) : OLe Option.none a := fun _ h => by cases h
theorem OLe.cond {α : Type} {c : Bool} {a a' b b' : Option α} (h : OLe a a') (k : OLe b b') : OLe (cond c a b) (cond c a' b') := by cases c; exact k; exact h
theorem OLe.ite {α : Type} {c : Prop} [Decidable c] {a a' b b' : Option α} (h : OLe a a') (k : OLe b b') : OLe (if c then a else b) (if c then a' else b') := by split; exact h; exact k
theorem OLe.bind {α β : Type} {a a' : Option α} {f f' : α → Option β} (h : OLe a a') (k : ∀ x, OLe (f x) (f' x)) : OLe (a.bind f) (a'.bind f') := by
  intro r hr
  obtain ⟨x, h1, h2⟩ := Option.bind_eq_some_iff.1 hr
  exact Option.bind_eq_some_iff.2 ⟨x, h x h1, k x r h2⟩
def str0 : ByteArray := ⟨#[0, 1, 1, 2, 1, 2, 2, 3, 1, 2, 2, 3, 2, 3, 3, 4, 1, 2, 2, 3, 2, 3, 3, 4, 2, 3, 3, 4, 3, 4, 4, 5, 1, 2, 2, 3, 2, 3, 3, 4, 2, 3, 3, 4, 3, 4, 4, 5, 2, 3, 3, 4, 3, 4, 4, 5, 3, 4, 4, 5, 4, 5, 5, 6, 1, 2, 2, 3, 2, 3, 3, 4, 2, 3, 3, 4, 3, 4, 4, 5, 2, 3, 3, 4, 3, 4, 4, 5, 3, 4, 4, 5, 4, 5, 5, 6, 2, 3, 3, 4, 3, 4, 4, 5, 3, 4, 4, 5, 4, 5, 5, 6, 3, 4, 4, 5, 4, 5, 5, 6, 4, 5, 5, 6, 5, 6, 6, 7, 1, 2, 2, 3, 2, 3, 3, 4, 2, 3, 3, 4, 3, 4, 4, 5, 2, 3, 3, 4, 3, 4, 4, 5, 3, 4, 4, 5, 4, 5, 5, 6, 2, 3, 3, 4, 3, 4, 4, 5, 3, 4, 4, 5, 4, 5, 5, 6, 3, 4, 4, 5, 4, 5, 5, 6, 4, 5, 5, 6, 5, 6, 6, 7, 2, 3, 3, 4, 3, 4, 4, 5, 3, 4, 4, 5, 4, 5, 5, 6, 3, 4, 4, 5, 4, 5, 5, 6, 4, 5, 5, 6, 5, 6, 6, 7, 3, 4, 4, 5, 4, 5, 5, 6, 4, 5, 5, 6, 5, 6, 6, 7, 4, 5, 5, 6, 5, 6, 6, 7, 5, 6, 6, 7, 6, 7, 7, 8]⟩
end FN
set_option linter.unusedVariables false
namespace FN
open Go Go.Proofs
/-! (*loop.example/firingnets/spec.l20Rd).pick -/
@[reducible] def r_pick_sig : Sig := { rd := some 58, ps := [none], pc := [.view .u8, .int .i64, .int .i64], rs := [none], rc := [.int .i64, .int .i64] }
noncomputable def r_pick_E (b : List Int) : Env' := { keep := [0], rdb := b, fn := fun f => none, ck := ckT, cuts := [], mine := fun i => false }
noncomputable def r_pick_f (x : Ts r_pick_sig.pc) : Option (Ts r_pick_sig.rc) := runFn Try.prog (r_pick_E x.1) Try.f43 r_pick_sig x
theorem r_pick_f_eq (x0 : (List (Int))) (x1 : (Int)) (x2 : (Int)) : r_pick_f (x0, x1, x2) = (cond ((decide (x2 < 1))) (if 58 = 58 ∧ x0 = x0 then (some (0, (IntKind.i64.wrap (x1 + 1)))) else none) (cond (((List.length x0 : Int) == 0)) (if 58 = 58 ∧ x0 = x0 then (some (0, (IntKind.i64.wrap (x1 + 1)))) else none) (cond ((decide ((IntKind.i64.wrap ((IntKind.i64.wrap (x1 + 1)) - 1)) < (List.length x0 : Int)))) (if (0 : Int) ≤ (IntKind.i64.wrap ((IntKind.i64.wrap (x1 + 1)) - 1)) ∧ (IntKind.i64.wrap ((IntKind.i64.wrap (x1 + 1)) - 1)) < (List.length x0 : Int) then (if x2 = 0 then none else (if 58 = 58 ∧ x0 = x0 then (some ((Int.tmod (IntKind.i64.wrap (List.getD x0 ((IntKind.i64.wrap ((IntKind.i64.wrap (x1 + 1)) - 1)) : Int).toNat 0)) x2), (IntKind.i64.wrap (x1 + 1)))) else none)) else none) (if (List.length x0 : Int) = 0 then none else (if (0 : Int) ≤ (Int.tmod (IntKind.i64.wrap ((IntKind.i64.wrap (x1 + 1)) - 1)) (List.length x0 : Int)) ∧ (Int.tmod (IntKind.i64.wrap ((IntKind.i64.wrap (x1 + 1)) - 1)) (List.length x0 : Int)) < (List.length x0 : Int) then (if (List.length x0 : Int) = 0 then none else (if (0 : Int) ≤ (Int.tmod (IntKind.i64.wrap ((IntKind.i64.wrap ((IntKind.i64.wrap ((IntKind.i64.wrap (x1 + 1)) - 1)) * 7)) + 3)) (List.length x0 : Int)) ∧ (Int.tmod (IntKind.i64.wrap ((IntKind.i64.wrap ((IntKind.i64.wrap ((IntKind.i64.wrap (x1 + 1)) - 1)) * 7)) + 3)) (List.length x0 : Int)) < (List.length x0 : Int) then (if (List.length x0 : Int) = 0 then none else (if x2 = 0 then none else (if 58 = 58 ∧ x0 = x0 then (some ((Int.tmod (Go.bits .xor IntKind.i64 (IntKind.i64.wrap ((IntKind.i64.wrap ((IntKind.i64.wrap ((IntKind.i64.wrap ((IntKind.i64.wrap (List.getD x0 ((Int.tmod (IntKind.i64.wrap ((IntKind.i64.wrap (x1 + 1)) - 1)) (List.length x0 : Int)) : Int).toNat 0)) * 131)) + (IntKind.i64.wrap ((IntKind.i64.wrap (List.getD x0 ((Int.tmod (IntKind.i64.wrap ((IntKind.i64.wrap ((IntKind.i64.wrap ((IntKind.i64.wrap (x1 + 1)) - 1)) * 7)) + 3)) (List.length x0 : Int)) : Int).toNat 0)) * 1117)))) + (IntKind.i64.wrap ((IntKind.i64.wrap ((IntKind.i64.wrap (x1 + 1)) - 1)) * 29)))) + (IntKind.i64.wrap ((IntKind.i64.wrap (Int.tdiv (IntKind.i64.wrap ((IntKind.i64.wrap (x1 + 1)) - 1)) (List.length x0 : Int))) * 53)))) (IntKind.i64.wrap (Int.tdiv (IntKind.i64.wrap ((IntKind.i64.wrap ((IntKind.i64.wrap ((IntKind.i64.wrap ((IntKind.i64.wrap (List.getD x0 ((Int.tmod (IntKind.i64.wrap ((IntKind.i64.wrap (x1 + 1)) - 1)) (List.length x0 : Int)) : Int).toNat 0)) * 131)) + (IntKind.i64.wrap ((IntKind.i64.wrap (List.getD x0 ((Int.tmod (IntKind.i64.wrap ((IntKind.i64.wrap ((IntKind.i64.wrap ((IntKind.i64.wrap (x1 + 1)) - 1)) * 7)) + 3)) (List.length x0 : Int)) : Int).toNat 0)) * 1117)))) + (IntKind.i64.wrap ((IntKind.i64.wrap ((IntKind.i64.wrap (x1 + 1)) - 1)) * 29)))) + (IntKind.i64.wrap ((IntKind.i64.wrap (Int.tdiv (IntKind.i64.wrap ((IntKind.i64.wrap (x1 + 1)) - 1)) (List.length x0 : Int))) * 53)))) 64))) x2), (IntKind.i64.wrap (x1 + 1)))) else none))) else none)) else none))))) := by
  kernel_rfl
def r_pick_f_c (n : Nat) : ((List (Int))) × ((Int)) × ((Int)) → Option ((Int) × (Int))
  | (x0, x1, x2) => (cond ((decide (x2 < 1))) (if 58 = 58 ∧ x0 = x0 then (some (0, (IntKind.i64.wrap (x1 + 1)))) else none) (cond (((List.length x0 : Int) == 0)) (if 58 = 58 ∧ x0 = x0 then (some (0, (IntKind.i64.wrap (x1 + 1)))) else none) (cond ((decide ((IntKind.i64.wrap ((IntKind.i64.wrap (x1 + 1)) - 1)) < (List.length x0 : Int)))) (if (0 : Int) ≤ (IntKind.i64.wrap ((IntKind.i64.wrap (x1 + 1)) - 1)) ∧ (IntKind.i64.wrap ((IntKind.i64.wrap (x1 + 1)) - 1)) < (List.length x0 : Int) then (if x2 = 0 then none else (if 58 = 58 ∧ x0 = x0 then (some ((Int.tmod (IntKind.i64.wrap (List.getD x0 ((IntKind.i64.wrap ((IntKind.i64.wrap (x1 + 1)) - 1)) : Int).toNat 0)) x2), (IntKind.i64.wrap (x1 + 1)))) else none)) else none) (if (List.length x0 : Int) = 0 then none else (if (0 : Int) ≤ (Int.tmod (IntKind.i64.wrap ((IntKind.i64.wrap (x1 + 1)) - 1)) (List.length x0 : Int)) ∧ (Int.tmod (IntKind.i64.wrap ((IntKind.i64.wrap (x1 + 1)) - 1)) (List.length x0 : Int)) < (List.length x0 : Int) then (if (List.length x0 : Int) = 0 then none else (if (0 : Int) ≤ (Int.tmod (IntKind.i64.wrap ((IntKind.i64.wrap ((IntKind.i64.wrap ((IntKind.i64.wrap (x1 + 1)) - 1)) * 7)) + 3)) (List.length x0 : Int)) ∧ (Int.tmod (IntKind.i64.wrap ((IntKind.i64.wrap ((IntKind.i64.wrap ((IntKind.i64.wrap (x1 + 1)) - 1)) * 7)) + 3)) (List.length x0 : Int)) < (List.length x0 : Int) then (if (List.length x0 : Int) = 0 then none else (if x2 = 0 then none else (if 58 = 58 ∧ x0 = x0 then (some ((Int.tmod (Go.bits .xor IntKind.i64 (IntKind.i64.wrap ((IntKind.i64.wrap ((IntKind.i64.wrap ((IntKind.i64.wrap ((IntKind.i64.wrap (List.getD x0 ((Int.tmod (IntKind.i64.wrap ((IntKind.i64.wrap (x1 + 1)) - 1)) (List.length x0 : Int)) : Int).toNat 0)) * 131)) + (IntKind.i64.wrap ((IntKind.i64.wrap (List.getD x0 ((Int.tmod (IntKind.i64.wrap ((IntKind.i64.wrap ((IntKind.i64.wrap ((IntKind.i64.wrap (x1 + 1)) - 1)) * 7)) + 3)) (List.length x0 : Int)) : Int).toNat 0)) * 1117)))) + (IntKind.i64.wrap ((IntKind.i64.wrap ((IntKind.i64.wrap (x1 + 1)) - 1)) * 29)))) + (IntKind.i64.wrap ((IntKind.i64.wrap (Int.tdiv (IntKind.i64.wrap ((IntKind.i64.wrap (x1 + 1)) - 1)) (List.length x0 : Int))) * 53)))) (IntKind.i64.wrap (Int.tdiv (IntKind.i64.wrap ((IntKind.i64.wrap ((IntKind.i64.wrap ((IntKind.i64.wrap ((IntKind.i64.wrap (List.getD x0 ((Int.tmod (IntKind.i64.wrap ((IntKind.i64.wrap (x1 + 1)) - 1)) (List.length x0 : Int)) : Int).toNat 0)) * 131)) + (IntKind.i64.wrap ((IntKind.i64.wrap (List.getD x0 ((Int.tmod (IntKind.i64.wrap ((IntKind.i64.wrap ((IntKind.i64.wrap ((IntKind.i64.wrap (x1 + 1)) - 1)) * 7)) + 3)) (List.length x0 : Int)) : Int).toNat 0)) * 1117)))) + (IntKind.i64.wrap ((IntKind.i64.wrap ((IntKind.i64.wrap (x1 + 1)) - 1)) * 29)))) + (IntKind.i64.wrap ((IntKind.i64.wrap (Int.tdiv (IntKind.i64.wrap ((IntKind.i64.wrap (x1 + 1)) - 1)) (List.length x0 : Int))) * 53)))) 64))) x2), (IntKind.i64.wrap (x1 + 1)))) else none))) else none)) else none)))))
theorem r_pick_f_c_le (n : Nat) (x : Ts r_pick_sig.pc) : OLe (r_pick_f_c n x) (r_pick_f x) := by
  obtain ⟨x0, x1, x2⟩ := x
  rw [r_pick_f_c, r_pick_f_eq]
  repeat' first | with_reducible exact OLe.refl _ | with_reducible exact OLe.none _ | with_reducible refine OLe.cond ?_ ?_ | with_reducible refine OLe.ite ?_ ?_ | with_reducible refine OLe.bind ?_ ?_ | intro _
theorem r_pick_ent : Entb Try.prog 43 := ⟨Try.f43, by kernel_rfl, by kernel_rfl, by kernel_rfl⟩
theorem r_pick_ok : CtrOk Try.prog 43 ⟨r_pick_sig, r_pick_f⟩ :=
  ctr_of (fn := Try.f43) (by kernel_rfl) (by kernel_rfl) (fun x : Ts r_pick_sig.pc => r_pick_E x.1) (fun x => ⟨fn_none, clo_none⟩) (fun _ x => ⟨rfl, fun b ps h => rd_head h⟩) follows_
end FN
set_option linter.unusedVariables false
namespace FN
open Go Go.Proofs
/-! loop.example/firingnets/spec.l20Open -/
@[reducible] def s_l20Open_sig : Sig := { ps := [none], pc := [.view .u8], nw := some 58, rs := [none], rc := [.view .u8, .int .i64] }
noncomputable def s_l20Open_E : Env' := { fn := fun f => none, ck := ckT, cuts := [], mine := fun i => false }
noncomputable def s_l20Open_f (x : Ts s_l20Open_sig.pc) : Option (Ts s_l20Open_sig.rc) := runFn Try.prog (s_l20Open_E) Try.f31 s_l20Open_sig x
theorem s_l20Open_f_eq (x0 : (List (Int))) : s_l20Open_f x0 = (cond ((decide (2000 < (List.length x0 : Int)))) (if (0 : Int) ≤ 2000 ∧ 2000 ≤ (List.length x0 : Int) then (some ((List.drop 0 (List.take ((2000 : Int).toNat) x0)), 0)) else none) (some (x0, 0))) := by
  kernel_rfl
def s_l20Open_f_c (n : Nat) : ((List (Int))) → Option ((List (Int)) × (Int))
  | x0 => (cond ((decide (2000 < (List.length x0 : Int)))) (if (0 : Int) ≤ 2000 ∧ 2000 ≤ (List.length x0 : Int) then (some ((List.drop 0 (List.take ((2000 : Int).toNat) x0)), 0)) else none) (some (x0, 0)))
theorem s_l20Open_f_c_le (n : Nat) (x : Ts s_l20Open_sig.pc) : OLe (s_l20Open_f_c n x) (s_l20Open_f x) := by
  rw [s_l20Open_f_c, s_l20Open_f_eq]
  repeat' first | with_reducible exact OLe.refl _ | with_reducible exact OLe.none _ | with_reducible refine OLe.cond ?_ ?_ | with_reducible refine OLe.ite ?_ ?_ | with_reducible refine OLe.bind ?_ ?_ | intro _
theorem s_l20Open_ent : Entb Try.prog 31 := ⟨Try.f31, by kernel_rfl, by kernel_rfl, by kernel_rfl⟩
theorem s_l20Open_ok : CtrOk Try.prog 31 ⟨s_l20Open_sig, s_l20Open_f⟩ :=
  ctr_of (fn := Try.f31) (by kernel_rfl) (by kernel_rfl) (fun x : Ts s_l20Open_sig.pc => s_l20Open_E) (fun x => ⟨fn_none, clo_none⟩) (fun h => by cases h) follows_
end FN
set_option linter.unusedVariables false
namespace FN
open Go Go.Proofs
/-! loop.example/firingnets/impl.NetOk -/
@[reducible] def i_NetOk_sig : Sig := { ps := [none], pc := [.view .i64], rs := [none], rc := [.bool] }
noncomputable def i_NetOk_E : Env' := { fn := fun f => none, ck := ckT, cuts := [(4, [0, 14, 15, 16]), (9, [0, 3, 4, 14, 15, 16, 38, 39])], mine := fun i => false }
noncomputable def i_NetOk_f (x : Ts i_NetOk_sig.pc) : Option (Ts i_NetOk_sig.rc) := runFn Try.prog (i_NetOk_E) Try.f24 i_NetOk_sig x
noncomputable def i_NetOk_l0 (y0 : List (Int)) (y1 : List (Int)) (y2 : Int) (y3 : Int) : Option ((Bool)) := from_ Try.prog (i_NetOk_E) Try.f24 i_NetOk_sig [1, 1, 0, 1, 0] ⟨mkT 56 [(0, .row false .i64 y0), (14, .row false .i64 y1), (15, .int .i64 y2), (16, .int .i64 y3)], []⟩
noncomputable def i_NetOk_l1 (y0 : List (Int)) (y1 : Int) (y2 : Int) (y3 : List (Int)) (y4 : Int) (y5 : Int) (y6 : Int) (y7 : Int) : Option ((Bool)) := from_ Try.prog (i_NetOk_E) Try.f24 i_NetOk_sig [1, 1, 0, 1, 0, 0, 1, 1, 0, 0, 1, 1, 1, 0] ⟨mkT 56 [(0, .row false .i64 y0), (3, .int .i64 y1), (4, .int .i64 y2), (14, .row false .i64 y3), (15, .int .i64 y4), (16, .int .i64 y5), (38, .int .i64 y6), (39, .int .i64 y7)], []⟩
theorem i_NetOk_f_eq (x0 : (List (Int))) : i_NetOk_f x0 = (cond ((decide ((List.length x0 : Int) < 1))) (some false) (cond ((decide (6 < (List.length x0 : Int)))) (some false) (i_NetOk_l0 x0 x0 (List.length x0 : Int) 0))) := by
  kernel_rfl
theorem i_NetOk_l0_eq (y0 : List (Int)) (y1 : List (Int)) (y2 : Int) (y3 : Int) : i_NetOk_l0 y0 y1 y2 y3 = (cond ((decide (y3 < y2))) (if (0 : Int) ≤ y3 ∧ y3 < (List.length y1 : Int) then (cond ((decide ((List.getD y1 (y3 : Int).toNat 0) < 0))) (some false) (if (List.length y0 : Int) < 0 then none else (cond ((decide ((IntKind.i64.wrap (1 * 2 ^ min ((List.length y0 : Int) : Int).toNat IntKind.i64.bits)) ≤ (List.getD y1 (y3 : Int).toNat 0)))) (some false) (if y3 < 0 then none else (cond (((Go.bits .and IntKind.i64 (Int.fdiv (List.getD y1 (y3 : Int).toNat 0) (2 ^ min (y3 : Int).toNat IntKind.i64.bits)) 1) == 1)) (some false) (i_NetOk_l1 y0 y3 (List.getD y1 (y3 : Int).toNat 0) y1 y2 y3 (List.length y0 : Int) 0)))))) else none) (some true)) := by
  refine (loopK_eq Try.prog (i_NetOk_E) (sub (Try.f24.body.getD .skip) [1, 1, 0, 1, 0, 0]) _ _).trans ?_
  kernel_rfl
theorem i_NetOk_l1_eq (y0 : List (Int)) (y1 : Int) (y2 : Int) (y3 : List (Int)) (y4 : Int) (y5 : Int) (y6 : Int) (y7 : Int) : i_NetOk_l1 y0 y1 y2 y3 y4 y5 y6 y7 = (cond ((decide (y7 < y6))) (if y7 < 0 then none else (if (0 : Int) ≤ y7 ∧ y7 < (List.length y0 : Int) then (if y1 < 0 then none else (cond (((Go.bits .and IntKind.i64 (Int.fdiv y2 (2 ^ min (y7 : Int).toNat IntKind.i64.bits)) 1) != (Go.bits .and IntKind.i64 (Int.fdiv (List.getD y0 (y7 : Int).toNat 0) (2 ^ min (y1 : Int).toNat IntKind.i64.bits)) 1))) (some false) (i_NetOk_l1 y0 y1 y2 y3 y4 y5 y6 (IntKind.i64.wrap (y7 + 1))))) else none)) (i_NetOk_l0 y0 y3 y4 (IntKind.i64.wrap (y5 + 1)))) := by
  refine (loopK_eq Try.prog (i_NetOk_E) (sub (Try.f24.body.getD .skip) [1, 1, 0, 1, 0, 0, 1, 1, 0, 0, 1, 1, 1, 0, 0]) _ _).trans ?_
  kernel_rfl
mutual
def i_NetOk_l0_c : Nat → (List (Int)) → (List (Int)) → (Int) → (Int) → Option ((Bool))
  | 0, _, _, _, _ => none
  | n + 1, y0, y1, y2, y3 => (cond ((decide (y3 < y2))) (if (0 : Int) ≤ y3 ∧ y3 < (List.length y1 : Int) then (cond ((decide ((List.getD y1 (y3 : Int).toNat 0) < 0))) (some false) (if (List.length y0 : Int) < 0 then none else (cond ((decide ((IntKind.i64.wrap (1 * 2 ^ min ((List.length y0 : Int) : Int).toNat IntKind.i64.bits)) ≤ (List.getD y1 (y3 : Int).toNat 0)))) (some false) (if y3 < 0 then none else (cond (((Go.bits .and IntKind.i64 (Int.fdiv (List.getD y1 (y3 : Int).toNat 0) (2 ^ min (y3 : Int).toNat IntKind.i64.bits)) 1) == 1)) (some false) (i_NetOk_l1_c n y0 y3 (List.getD y1 (y3 : Int).toNat 0) y1 y2 y3 (List.length y0 : Int) 0)))))) else none) (some true))
def i_NetOk_l1_c : Nat → (List (Int)) → (Int) → (Int) → (List (Int)) → (Int) → (Int) → (Int) → (Int) → Option ((Bool))
  | 0, _, _, _, _, _, _, _, _ => none
  | n + 1, y0, y1, y2, y3, y4, y5, y6, y7 => (cond ((decide (y7 < y6))) (if y7 < 0 then none else (if (0 : Int) ≤ y7 ∧ y7 < (List.length y0 : Int) then (if y1 < 0 then none else (cond (((Go.bits .and IntKind.i64 (Int.fdiv y2 (2 ^ min (y7 : Int).toNat IntKind.i64.bits)) 1) != (Go.bits .and IntKind.i64 (Int.fdiv (List.getD y0 (y7 : Int).toNat 0) (2 ^ min (y1 : Int).toNat IntKind.i64.bits)) 1))) (some false) (i_NetOk_l1_c n y0 y1 y2 y3 y4 y5 y6 (IntKind.i64.wrap (y7 + 1))))) else none)) (i_NetOk_l0_c n y0 y3 y4 (IntKind.i64.wrap (y5 + 1))))
end
def i_NetOk_f_c (n : Nat) : ((List (Int))) → Option ((Bool))
  | x0 => (cond ((decide ((List.length x0 : Int) < 1))) (some false) (cond ((decide (6 < (List.length x0 : Int)))) (some false) (i_NetOk_l0_c n x0 x0 (List.length x0 : Int) 0)))
mutual
theorem i_NetOk_l0_c_le : (n : Nat) → (y0 : List (Int)) → (y1 : List (Int)) → (y2 : Int) → (y3 : Int) → OLe (i_NetOk_l0_c n y0 y1 y2 y3) (i_NetOk_l0 y0 y1 y2 y3)
  | 0, _, _, _, _ => OLe.none _
  | n + 1, y0, y1, y2, y3 => by
    rw [i_NetOk_l0_c, i_NetOk_l0_eq]
    repeat' first | with_reducible exact OLe.refl _ | with_reducible exact OLe.none _ | with_reducible apply i_NetOk_l0_c_le | with_reducible apply i_NetOk_l1_c_le | with_reducible refine OLe.cond ?_ ?_ | with_reducible refine OLe.ite ?_ ?_ | with_reducible refine OLe.bind ?_ ?_ | intro _
theorem i_NetOk_l1_c_le : (n : Nat) → (y0 : List (Int)) → (y1 : Int) → (y2 : Int) → (y3 : List (Int)) → (y4 : Int) → (y5 : Int) → (y6 : Int) → (y7 : Int) → OLe (i_NetOk_l1_c n y0 y1 y2 y3 y4 y5 y6 y7) (i_NetOk_l1 y0 y1 y2 y3 y4 y5 y6 y7)
  | 0, _, _, _, _, _, _, _, _ => OLe.none _
  | n + 1, y0, y1, y2, y3, y4, y5, y6, y7 => by
    rw [i_NetOk_l1_c, i_NetOk_l1_eq]
    repeat' first | with_reducible exact OLe.refl _ | with_reducible exact OLe.none _ | with_reducible apply i_NetOk_l0_c_le | with_reducible apply i_NetOk_l1_c_le | with_reducible refine OLe.cond ?_ ?_ | with_reducible refine OLe.ite ?_ ?_ | with_reducible refine OLe.bind ?_ ?_ | intro _
end
theorem i_NetOk_f_c_le (n : Nat) (x : Ts i_NetOk_sig.pc) : OLe (i_NetOk_f_c n x) (i_NetOk_f x) := by
  rw [i_NetOk_f_c, i_NetOk_f_eq]
  repeat' first | with_reducible exact OLe.refl _ | with_reducible exact OLe.none _ | with_reducible apply i_NetOk_l0_c_le | with_reducible apply i_NetOk_l1_c_le | with_reducible refine OLe.cond ?_ ?_ | with_reducible refine OLe.ite ?_ ?_ | with_reducible refine OLe.bind ?_ ?_ | intro _
theorem i_NetOk_ent : Entb Try.prog 24 := ⟨Try.f24, by kernel_rfl, by kernel_rfl, by kernel_rfl⟩
theorem i_NetOk_ok : CtrOk Try.prog 24 ⟨i_NetOk_sig, i_NetOk_f⟩ :=
  ctr_of (fn := Try.f24) (by kernel_rfl) (by kernel_rfl) (fun x : Ts i_NetOk_sig.pc => i_NetOk_E) (fun x => ⟨fn_none, clo_none⟩) (fun h => by cases h) follows_
end FN
set_option linter.unusedVariables false
namespace FN
open Go Go.Proofs
/-! loop.example/firingnets/impl.setOk -/
@[reducible] def i_setOk_sig : Sig := { ps := [none, none], pc := [.view .i64, .int .i64], rs := [none], rc := [.bool] }
noncomputable def i_setOk_E : Env' := { fn := fun f => if f = 24 then some ⟨i_NetOk_sig, i_NetOk_f⟩ else none, ck := ckT, cuts := [], mine := fun i => false }
noncomputable def i_setOk_f (x : Ts i_setOk_sig.pc) : Option (Ts i_setOk_sig.rc) := runFn Try.prog (i_setOk_E) Try.f40 i_setOk_sig x
theorem i_setOk_f_eq (x0 : (List (Int))) (x1 : (Int)) : i_setOk_f (x0, x1) = (Option.bind (i_NetOk_f x0) fun r1 => (cond (r1) (cond ((decide (0 ≤ x1))) (if (List.length x0 : Int) < 0 then none else (some (decide (x1 < (IntKind.i64.wrap (1 * 2 ^ min ((List.length x0 : Int) : Int).toNat IntKind.i64.bits)))))) (some false)) (some false))) := by
  kernel_rfl
def i_setOk_f_c (n : Nat) : ((List (Int))) × ((Int)) → Option ((Bool))
  | (x0, x1) => (Option.bind (i_NetOk_f_c n x0) fun r1 => (cond (r1) (cond ((decide (0 ≤ x1))) (if (List.length x0 : Int) < 0 then none else (some (decide (x1 < (IntKind.i64.wrap (1 * 2 ^ min ((List.length x0 : Int) : Int).toNat IntKind.i64.bits)))))) (some false)) (some false)))
theorem i_setOk_f_c_le (n : Nat) (x : Ts i_setOk_sig.pc) : OLe (i_setOk_f_c n x) (i_setOk_f x) := by
  obtain ⟨x0, x1⟩ := x
  rw [i_setOk_f_c, i_setOk_f_eq]
  repeat' first | with_reducible exact OLe.refl _ | with_reducible exact OLe.none _ | with_reducible apply i_NetOk_f_c_le | with_reducible refine OLe.cond ?_ ?_ | with_reducible refine OLe.ite ?_ ?_ | with_reducible refine OLe.bind ?_ ?_ | intro _
theorem i_setOk_ent : Entb Try.prog 40 := ⟨Try.f40, by kernel_rfl, by kernel_rfl, by kernel_rfl⟩
theorem i_setOk_ok : CtrOk Try.prog 40 ⟨i_setOk_sig, i_setOk_f⟩ :=
  ctr_of (fn := Try.f40) (by kernel_rfl) (by kernel_rfl) (fun x : Ts i_setOk_sig.pc => i_setOk_E) (fun x => ⟨(fn_cons ⟨i_NetOk_ok, i_NetOk_ent⟩ fn_none), clo_none⟩) (fun h => by cases h) follows_
end FN
set_option linter.unusedVariables false
namespace FN
open Go Go.Proofs
/-! loop.example/firingnets/impl.DistancesFrom -/
@[reducible] def i_DistancesFrom_sig : Sig := { ps := [none, none], pc := [.view .i64, .int .i64], rs := [none], rc := [.row 3 .i64] }
noncomputable def i_DistancesFrom_E : Env' := { fn := fun f => if f = 40 then some ⟨i_setOk_sig, i_setOk_f⟩ else none, ck := ckT, cuts := [(5, [0, 1, 5, 18, 19]), (9, [0, 1, 5]), (10, [0, 1, 5, 7]), (14, [0, 1, 5, 7, 8, 31, 32])], mine := fun i => false }
noncomputable def i_DistancesFrom_f (x : Ts i_DistancesFrom_sig.pc) : Option (Ts i_DistancesFrom_sig.rc) := runFn Try.prog (i_DistancesFrom_E) Try.f23 i_DistancesFrom_sig x
noncomputable def i_DistancesFrom_l0 (y0 : List (Int)) (y1 : Int) (y2 : Int) (y3 : Int) (y4 : List (Int)) : Option ((List (Int))) := from_ Try.prog (i_DistancesFrom_E) Try.f23 i_DistancesFrom_sig [1, 1, 1, 0, 1, 0] ⟨mkT 60 [(0, .row false .i64 y0), (1, .int .i64 y1), (5, .own 0), (18, .int .i64 y2), (19, .int .i64 y3)], [some (.arr 3 true .i64 y4)]⟩
noncomputable def i_DistancesFrom_j1 (y0 : List (Int)) (y1 : Int) (y2 : List (Int)) : Option ((List (Int))) := from_ Try.prog (i_DistancesFrom_E) Try.f23 i_DistancesFrom_sig [1, 1, 1, 1] ⟨mkT 60 [(0, .row false .i64 y0), (1, .int .i64 y1), (5, .own 0)], [some (.arr 3 true .i64 y2)]⟩
noncomputable def i_DistancesFrom_l2 (y0 : List (Int)) (y1 : Int) (y2 : Int) (y3 : List (Int)) : Option ((List (Int))) := from_ Try.prog (i_DistancesFrom_E) Try.f23 i_DistancesFrom_sig [1, 1, 1, 1, 0, 1, 0] ⟨mkT 60 [(0, .row false .i64 y0), (1, .int .i64 y1), (5, .own 0), (7, .int .i64 y2)], [some (.arr 3 true .i64 y3)]⟩
noncomputable def i_DistancesFrom_l3 (y0 : List (Int)) (y1 : Int) (y2 : Int) (y3 : Int) (y4 : Int) (y5 : Int) (y6 : List (Int)) : Option ((List (Int))) := from_ Try.prog (i_DistancesFrom_E) Try.f23 i_DistancesFrom_sig [1, 1, 1, 1, 0, 1, 0, 0, 1, 0, 0, 1, 0, 1, 0] ⟨mkT 60 [(0, .row false .i64 y0), (1, .int .i64 y1), (5, .own 0), (7, .int .i64 y2), (8, .int .i64 y3), (31, .int .i64 y4), (32, .int .i64 y5)], [some (.arr 3 true .i64 y6)]⟩
theorem i_DistancesFrom_f_eq (x0 : (List (Int))) (x1 : (Int)) : i_DistancesFrom_f (x0, x1) = (Option.bind (i_setOk_f (x0, x1)) fun r1 => (cond ((!r1)) (some []) (if (0 : Int) ≤ (List.length x0 : Int) ∧ (List.length x0 : Int) * 8 ≤ 140737488355328 ∧ (List.length x0 : Int) ≤ 140737488355328 then (i_DistancesFrom_l0 x0 x1 (List.length (List.replicate ((List.length x0 : Int) : Int).toNat 0 : List (Int)) : Int) 0 (List.replicate ((List.length x0 : Int) : Int).toNat 0 : List (Int))) else none))) := by
  kernel_rfl
theorem i_DistancesFrom_l0_eq (y0 : List (Int)) (y1 : Int) (y2 : Int) (y3 : Int) (y4 : List (Int)) : i_DistancesFrom_l0 y0 y1 y2 y3 y4 = (cond ((decide (y3 < y2))) (if (0 : Int) ≤ y3 ∧ y3 < (List.length y4 : Int) then (i_DistancesFrom_l0 y0 y1 y2 (IntKind.i64.wrap (y3 + 1)) (List.set y4 (y3 : Int).toNat (-1))) else none) (i_DistancesFrom_j1 y0 y1 y4)) := by
  refine (loopK_eq Try.prog (i_DistancesFrom_E) (sub (Try.f23.body.getD .skip) [1, 1, 1, 0, 1, 0, 0]) _ _).trans ?_
  kernel_rfl
theorem i_DistancesFrom_j1_eq (y0 : List (Int)) (y1 : Int) (y2 : List (Int)) : i_DistancesFrom_j1 y0 y1 y2 = (i_DistancesFrom_l2 y0 y1 0 y2) := by
  kernel_rfl
theorem i_DistancesFrom_l2_eq (y0 : List (Int)) (y1 : Int) (y2 : Int) (y3 : List (Int)) : i_DistancesFrom_l2 y0 y1 y2 y3 = (cond ((y1 != 0)) (i_DistancesFrom_l3 y0 y1 y2 0 (List.length y3 : Int) 0 y3) (some y3)) := by
  refine (loopK_eq Try.prog (i_DistancesFrom_E) (sub (Try.f23.body.getD .skip) [1, 1, 1, 1, 0, 1, 0, 0]) _ _).trans ?_
  kernel_rfl
theorem i_DistancesFrom_l3_eq (y0 : List (Int)) (y1 : Int) (y2 : Int) (y3 : Int) (y4 : Int) (y5 : Int) (y6 : List (Int)) : i_DistancesFrom_l3 y0 y1 y2 y3 y4 y5 y6 = (cond ((decide (y5 < y4))) (if y5 < 0 then none else (cond (((Go.bits .and IntKind.i64 (Int.fdiv y1 (2 ^ min (y5 : Int).toNat IntKind.i64.bits)) 1) == 1)) (if (0 : Int) ≤ y5 ∧ y5 < (List.length y6 : Int) then (cond ((decide ((List.getD y6 (y5 : Int).toNat 0) < 0))) (if (0 : Int) ≤ y5 ∧ y5 < (List.length y6 : Int) then (if (0 : Int) ≤ y5 ∧ y5 < (List.length y0 : Int) then (i_DistancesFrom_l3 y0 y1 y2 (Go.bits .or IntKind.i64 y3 (List.getD y0 (y5 : Int).toNat 0)) y4 (IntKind.i64.wrap (y5 + 1)) (List.set y6 (y5 : Int).toNat y2)) else none) else none) (i_DistancesFrom_l3 y0 y1 y2 y3 y4 (IntKind.i64.wrap (y5 + 1)) y6)) else none) (i_DistancesFrom_l3 y0 y1 y2 y3 y4 (IntKind.i64.wrap (y5 + 1)) y6))) (i_DistancesFrom_l2 y0 y3 (IntKind.i64.wrap (y2 + 1)) y6)) := by
  refine (loopK_eq Try.prog (i_DistancesFrom_E) (sub (Try.f23.body.getD .skip) [1, 1, 1, 1, 0, 1, 0, 0, 1, 0, 0, 1, 0, 1, 0, 0]) _ _).trans ?_
  kernel_rfl
mutual
def i_DistancesFrom_l0_c : Nat → (List (Int)) → (Int) → (Int) → (Int) → (List (Int)) → Option ((List (Int)))
  | 0, _, _, _, _, _ => none
  | n + 1, y0, y1, y2, y3, y4 => (cond ((decide (y3 < y2))) (if (0 : Int) ≤ y3 ∧ y3 < (List.length y4 : Int) then (i_DistancesFrom_l0_c n y0 y1 y2 (IntKind.i64.wrap (y3 + 1)) (List.set y4 (y3 : Int).toNat (-1))) else none) (i_DistancesFrom_j1_c n y0 y1 y4))
def i_DistancesFrom_j1_c : Nat → (List (Int)) → (Int) → (List (Int)) → Option ((List (Int)))
  | 0, _, _, _ => none
  | n + 1, y0, y1, y2 => (i_DistancesFrom_l2_c n y0 y1 0 y2)
def i_DistancesFrom_l2_c : Nat → (List (Int)) → (Int) → (Int) → (List (Int)) → Option ((List (Int)))
  | 0, _, _, _, _ => none
  | n + 1, y0, y1, y2, y3 => (cond ((y1 != 0)) (i_DistancesFrom_l3_c n y0 y1 y2 0 (List.length y3 : Int) 0 y3) (some y3))
def i_DistancesFrom_l3_c : Nat → (List (Int)) → (Int) → (Int) → (Int) → (Int) → (Int) → (List (Int)) → Option ((List (Int)))
  | 0, _, _, _, _, _, _, _ => none
  | n + 1, y0, y1, y2, y3, y4, y5, y6 => (cond ((decide (y5 < y4))) (if y5 < 0 then none else (cond (((Go.bits .and IntKind.i64 (Int.fdiv y1 (2 ^ min (y5 : Int).toNat IntKind.i64.bits)) 1) == 1)) (if (0 : Int) ≤ y5 ∧ y5 < (List.length y6 : Int) then (cond ((decide ((List.getD y6 (y5 : Int).toNat 0) < 0))) (if (0 : Int) ≤ y5 ∧ y5 < (List.length y6 : Int) then (if (0 : Int) ≤ y5 ∧ y5 < (List.length y0 : Int) then (i_DistancesFrom_l3_c n y0 y1 y2 (Go.bits .or IntKind.i64 y3 (List.getD y0 (y5 : Int).toNat 0)) y4 (IntKind.i64.wrap (y5 + 1)) (List.set y6 (y5 : Int).toNat y2)) else none) else none) (i_DistancesFrom_l3_c n y0 y1 y2 y3 y4 (IntKind.i64.wrap (y5 + 1)) y6)) else none) (i_DistancesFrom_l3_c n y0 y1 y2 y3 y4 (IntKind.i64.wrap (y5 + 1)) y6))) (i_DistancesFrom_l2_c n y0 y3 (IntKind.i64.wrap (y2 + 1)) y6))
end
def i_DistancesFrom_f_c (n : Nat) : ((List (Int))) × ((Int)) → Option ((List (Int)))
  | (x0, x1) => (Option.bind (i_setOk_f_c n (x0, x1)) fun r1 => (cond ((!r1)) (some []) (if (0 : Int) ≤ (List.length x0 : Int) ∧ (List.length x0 : Int) * 8 ≤ 140737488355328 ∧ (List.length x0 : Int) ≤ 140737488355328 then (i_DistancesFrom_l0_c n x0 x1 (List.length (List.replicate ((List.length x0 : Int) : Int).toNat 0 : List (Int)) : Int) 0 (List.replicate ((List.length x0 : Int) : Int).toNat 0 : List (Int))) else none)))
mutual
theorem i_DistancesFrom_l0_c_le : (n : Nat) → (y0 : List (Int)) → (y1 : Int) → (y2 : Int) → (y3 : Int) → (y4 : List (Int)) → OLe (i_DistancesFrom_l0_c n y0 y1 y2 y3 y4) (i_DistancesFrom_l0 y0 y1 y2 y3 y4)
  | 0, _, _, _, _, _ => OLe.none _
  | n + 1, y0, y1, y2, y3, y4 => by
    rw [i_DistancesFrom_l0_c, i_DistancesFrom_l0_eq]
    repeat' first | with_reducible exact OLe.refl _ | with_reducible exact OLe.none _ | with_reducible apply i_setOk_f_c_le | with_reducible apply i_DistancesFrom_l0_c_le | with_reducible apply i_DistancesFrom_j1_c_le | with_reducible apply i_DistancesFrom_l2_c_le | with_reducible apply i_DistancesFrom_l3_c_le | with_reducible refine OLe.cond ?_ ?_ | with_reducible refine OLe.ite ?_ ?_ | with_reducible refine OLe.bind ?_ ?_ | intro _
theorem i_DistancesFrom_j1_c_le : (n : Nat) → (y0 : List (Int)) → (y1 : Int) → (y2 : List (Int)) → OLe (i_DistancesFrom_j1_c n y0 y1 y2) (i_DistancesFrom_j1 y0 y1 y2)
  | 0, _, _, _ => OLe.none _
  | n + 1, y0, y1, y2 => by
    rw [i_DistancesFrom_j1_c, i_DistancesFrom_j1_eq]
    repeat' first | with_reducible exact OLe.refl _ | with_reducible exact OLe.none _ | with_reducible apply i_setOk_f_c_le | with_reducible apply i_DistancesFrom_l0_c_le | with_reducible apply i_DistancesFrom_j1_c_le | with_reducible apply i_DistancesFrom_l2_c_le | with_reducible apply i_DistancesFrom_l3_c_le | with_reducible refine OLe.cond ?_ ?_ | with_reducible refine OLe.ite ?_ ?_ | with_reducible refine OLe.bind ?_ ?_ | intro _
theorem i_DistancesFrom_l2_c_le : (n : Nat) → (y0 : List (Int)) → (y1 : Int) → (y2 : Int) → (y3 : List (Int)) → OLe (i_DistancesFrom_l2_c n y0 y1 y2 y3) (i_DistancesFrom_l2 y0 y1 y2 y3)
  | 0, _, _, _, _ => OLe.none _
  | n + 1, y0, y1, y2, y3 => by
    rw [i_DistancesFrom_l2_c, i_DistancesFrom_l2_eq]
    repeat' first | with_reducible exact OLe.refl _ | with_reducible exact OLe.none _ | with_reducible apply i_setOk_f_c_le | with_reducible apply i_DistancesFrom_l0_c_le | with_reducible apply i_DistancesFrom_j1_c_le | with_reducible apply i_DistancesFrom_l2_c_le | with_reducible apply i_DistancesFrom_l3_c_le | with_reducible refine OLe.cond ?_ ?_ | with_reducible refine OLe.ite ?_ ?_ | with_reducible refine OLe.bind ?_ ?_ | intro _
theorem i_DistancesFrom_l3_c_le : (n : Nat) → (y0 : List (Int)) → (y1 : Int) → (y2 : Int) → (y3 : Int) → (y4 : Int) → (y5 : Int) → (y6 : List (Int)) → OLe (i_DistancesFrom_l3_c n y0 y1 y2 y3 y4 y5 y6) (i_DistancesFrom_l3 y0 y1 y2 y3 y4 y5 y6)
  | 0, _, _, _, _, _, _, _ => OLe.none _
  | n + 1, y0, y1, y2, y3, y4, y5, y6 => by
    rw [i_DistancesFrom_l3_c, i_DistancesFrom_l3_eq]
    repeat' first | with_reducible exact OLe.refl _ | with_reducible exact OLe.none _ | with_reducible apply i_setOk_f_c_le | with_reducible apply i_DistancesFrom_l0_c_le | with_reducible apply i_DistancesFrom_j1_c_le | with_reducible apply i_DistancesFrom_l2_c_le | with_reducible apply i_DistancesFrom_l3_c_le | with_reducible refine OLe.cond ?_ ?_ | with_reducible refine OLe.ite ?_ ?_ | with_reducible refine OLe.bind ?_ ?_ | intro _
end
theorem i_DistancesFrom_f_c_le (n : Nat) (x : Ts i_DistancesFrom_sig.pc) : OLe (i_DistancesFrom_f_c n x) (i_DistancesFrom_f x) := by
  obtain ⟨x0, x1⟩ := x
  rw [i_DistancesFrom_f_c, i_DistancesFrom_f_eq]
  repeat' first | with_reducible exact OLe.refl _ | with_reducible exact OLe.none _ | with_reducible apply i_setOk_f_c_le | with_reducible apply i_DistancesFrom_l0_c_le | with_reducible apply i_DistancesFrom_j1_c_le | with_reducible apply i_DistancesFrom_l2_c_le | with_reducible apply i_DistancesFrom_l3_c_le | with_reducible refine OLe.cond ?_ ?_ | with_reducible refine OLe.ite ?_ ?_ | with_reducible refine OLe.bind ?_ ?_ | intro _
theorem i_DistancesFrom_ent : Entb Try.prog 23 := ⟨Try.f23, by kernel_rfl, by kernel_rfl, by kernel_rfl⟩
theorem i_DistancesFrom_ok : CtrOk Try.prog 23 ⟨i_DistancesFrom_sig, i_DistancesFrom_f⟩ :=
  ctr_of (fn := Try.f23) (by kernel_rfl) (by kernel_rfl) (fun x : Ts i_DistancesFrom_sig.pc => i_DistancesFrom_E) (fun x => ⟨(fn_cons ⟨i_setOk_ok, i_setOk_ent⟩ fn_none), clo_none⟩) (fun h => by cases h) follows_
end FN
set_option linter.unusedVariables false
namespace FN
open Go Go.Proofs
/-! loop.example/firingnets/impl.gridOk -/
@[reducible] def i_gridOk_sig : Sig := { ps := [none, none], pc := [.int .i64, .int .i64], rs := [none], rc := [.bool] }
noncomputable def i_gridOk_E : Env' := { fn := fun f => none, ck := ckT, cuts := [], mine := fun i => false }
noncomputable def i_gridOk_f (x : Ts i_gridOk_sig.pc) : Option (Ts i_gridOk_sig.rc) := runFn Try.prog (i_gridOk_E) Try.f32 i_gridOk_sig x
theorem i_gridOk_f_eq (x0 : (Int)) (x1 : (Int)) : i_gridOk_f (x0, x1) = (cond ((decide (1 ≤ x0))) (cond ((decide (1 ≤ x1))) (cond ((decide (x0 ≤ 6))) (cond ((decide (x1 ≤ 6))) (some (decide ((IntKind.i64.wrap (x0 * x1)) ≤ 6))) (some false)) (some false)) (some false)) (some false)) := by
  kernel_rfl
def i_gridOk_f_c (n : Nat) : ((Int)) × ((Int)) → Option ((Bool))
  | (x0, x1) => (cond ((decide (1 ≤ x0))) (cond ((decide (1 ≤ x1))) (cond ((decide (x0 ≤ 6))) (cond ((decide (x1 ≤ 6))) (some (decide ((IntKind.i64.wrap (x0 * x1)) ≤ 6))) (some false)) (some false)) (some false)) (some false))
theorem i_gridOk_f_c_le (n : Nat) (x : Ts i_gridOk_sig.pc) : OLe (i_gridOk_f_c n x) (i_gridOk_f x) := by
  obtain ⟨x0, x1⟩ := x
  rw [i_gridOk_f_c, i_gridOk_f_eq]
  repeat' first | with_reducible exact OLe.refl _ | with_reducible exact OLe.none _ | with_reducible refine OLe.cond ?_ ?_ | with_reducible refine OLe.ite ?_ ?_ | with_reducible refine OLe.bind ?_ ?_ | intro _
theorem i_gridOk_ent : Entb Try.prog 32 := ⟨Try.f32, by kernel_rfl, by kernel_rfl, by kernel_rfl⟩
theorem i_gridOk_ok : CtrOk Try.prog 32 ⟨i_gridOk_sig, i_gridOk_f⟩ :=
  ctr_of (fn := Try.f32) (by kernel_rfl) (by kernel_rfl) (fun x : Ts i_gridOk_sig.pc => i_gridOk_E) (fun x => ⟨fn_none, clo_none⟩) (fun h => by cases h) follows_
end FN
set_option linter.unusedVariables false
namespace FN
open Go Go.Proofs
/-! loop.example/firingnets/impl.GridNet -/
@[reducible] def i_GridNet_sig : Sig := { ps := [none, none], pc := [.int .i64, .int .i64], rs := [none], rc := [.row 3 .i64] }
noncomputable def i_GridNet_E : Env' := withClo { fn := fun f => if f = 32 then some ⟨i_gridOk_sig, i_gridOk_f⟩ else none, ck := ckT, cuts := [(6, [0, 1, 5, 6, 18, 19]), (10, [0, 1, 5, 6, 7, 18, 19])], mine := fun i => false } Try.prog 34 Try.f34
noncomputable def i_GridNet_f (x : Ts i_GridNet_sig.pc) : Option (Ts i_GridNet_sig.rc) := runFn Try.prog (i_GridNet_E) Try.f12 i_GridNet_sig x
noncomputable def i_GridNet_l0 (y0 : Int) (y1 : Int) (y2 : Int) (y3 : Int) (y4 : List (Int)) : Option ((List (Int))) := from_ Try.prog (i_GridNet_E) Try.f12 i_GridNet_sig [1, 1, 1, 1, 0, 1, 0] ⟨mkT 47 [(0, .int .i64 y0), (1, .int .i64 y1), (5, .ptr 0 0), (6, .fn 34 [.ptr 0 0]), (18, .int .i64 y2), (19, .int .i64 y3)], [some (.box 27 [.own 1]), some (.arr 3 true .i64 y4)]⟩
noncomputable def i_GridNet_j1 (y0 : Int) (y1 : Int) (y2 : Int) (y3 : Int) (y4 : Int) (y5 : List (Int)) : Option ((List (Int))) := from_ Try.prog (i_GridNet_E) Try.f12 i_GridNet_sig [1, 1, 1, 1, 0, 1, 0, 0, 1, 1, 0, 0, 1, 1] ⟨mkT 47 [(0, .int .i64 y0), (1, .int .i64 y1), (5, .ptr 0 0), (6, .fn 34 [.ptr 0 0]), (7, .int .i64 y2), (18, .int .i64 y3), (19, .int .i64 y4)], [some (.box 27 [.own 1]), some (.arr 3 true .i64 y5)]⟩
theorem i_GridNet_f_eq (x0 : (Int)) (x1 : (Int)) : i_GridNet_f (x0, x1) = (Option.bind (i_gridOk_f (x0, x1)) fun r1 => (cond ((!r1)) (some []) (if (0 : Int) ≤ (IntKind.i64.wrap (x0 * x1)) ∧ (IntKind.i64.wrap (x0 * x1)) * 8 ≤ 140737488355328 ∧ (IntKind.i64.wrap (x0 * x1)) ≤ 140737488355328 then (i_GridNet_l0 x0 x1 (List.length (List.replicate ((IntKind.i64.wrap (x0 * x1)) : Int).toNat 0 : List (Int)) : Int) 0 (List.replicate ((IntKind.i64.wrap (x0 * x1)) : Int).toNat 0 : List (Int))) else none))) := by
  kernel_rfl
theorem i_GridNet_l0_eq (y0 : Int) (y1 : Int) (y2 : Int) (y3 : Int) (y4 : List (Int)) : i_GridNet_l0 y0 y1 y2 y3 y4 = (cond ((decide (y3 < y2))) (if y1 = 0 then none else (cond ((decide ((Int.tmod y3 y1) < (IntKind.i64.wrap (y1 - 1))))) (if (IntKind.i64.wrap (y3 + 1)) < 0 then none else (if (0 : Int) ≤ y3 ∧ y3 < (List.length y4 : Int) then (if (0 : Int) ≤ y3 ∧ y3 < (List.length y4 : Int) then (if y3 < 0 then none else (if (0 : Int) ≤ (IntKind.i64.wrap (y3 + 1)) ∧ (IntKind.i64.wrap (y3 + 1)) < (List.length (List.set y4 (y3 : Int).toNat (Go.bits .or IntKind.i64 (List.getD y4 (y3 : Int).toNat 0) (IntKind.i64.wrap (1 * 2 ^ min ((IntKind.i64.wrap (y3 + 1)) : Int).toNat IntKind.i64.bits)))) : Int) then (if (0 : Int) ≤ (IntKind.i64.wrap (y3 + 1)) ∧ (IntKind.i64.wrap (y3 + 1)) < (List.length (List.set y4 (y3 : Int).toNat (Go.bits .or IntKind.i64 (List.getD y4 (y3 : Int).toNat 0) (IntKind.i64.wrap (1 * 2 ^ min ((IntKind.i64.wrap (y3 + 1)) : Int).toNat IntKind.i64.bits)))) : Int) then (i_GridNet_j1 y0 y1 y3 y2 y3 (List.set (List.set y4 (y3 : Int).toNat (Go.bits .or IntKind.i64 (List.getD y4 (y3 : Int).toNat 0) (IntKind.i64.wrap (1 * 2 ^ min ((IntKind.i64.wrap (y3 + 1)) : Int).toNat IntKind.i64.bits)))) ((IntKind.i64.wrap (y3 + 1)) : Int).toNat (Go.bits .or IntKind.i64 (List.getD (List.set y4 (y3 : Int).toNat (Go.bits .or IntKind.i64 (List.getD y4 (y3 : Int).toNat 0) (IntKind.i64.wrap (1 * 2 ^ min ((IntKind.i64.wrap (y3 + 1)) : Int).toNat IntKind.i64.bits)))) ((IntKind.i64.wrap (y3 + 1)) : Int).toNat 0) (IntKind.i64.wrap (1 * 2 ^ min (y3 : Int).toNat IntKind.i64.bits))))) else none) else none)) else none) else none)) (i_GridNet_j1 y0 y1 y3 y2 y3 y4))) (some y4)) := by
  refine (loopK_eq Try.prog (i_GridNet_E) (sub (Try.f12.body.getD .skip) [1, 1, 1, 1, 0, 1, 0, 0]) _ _).trans ?_
  kernel_rfl
theorem i_GridNet_j1_eq (y0 : Int) (y1 : Int) (y2 : Int) (y3 : Int) (y4 : Int) (y5 : List (Int)) : i_GridNet_j1 y0 y1 y2 y3 y4 y5 = (if y1 = 0 then none else (cond ((decide ((IntKind.i64.wrap (Int.tdiv y2 y1)) < (IntKind.i64.wrap (y0 - 1))))) (if (IntKind.i64.wrap (y2 + y1)) < 0 then none else (if (0 : Int) ≤ y2 ∧ y2 < (List.length y5 : Int) then (if (0 : Int) ≤ y2 ∧ y2 < (List.length y5 : Int) then (if y2 < 0 then none else (if (0 : Int) ≤ (IntKind.i64.wrap (y2 + y1)) ∧ (IntKind.i64.wrap (y2 + y1)) < (List.length (List.set y5 (y2 : Int).toNat (Go.bits .or IntKind.i64 (List.getD y5 (y2 : Int).toNat 0) (IntKind.i64.wrap (1 * 2 ^ min ((IntKind.i64.wrap (y2 + y1)) : Int).toNat IntKind.i64.bits)))) : Int) then (if (0 : Int) ≤ (IntKind.i64.wrap (y2 + y1)) ∧ (IntKind.i64.wrap (y2 + y1)) < (List.length (List.set y5 (y2 : Int).toNat (Go.bits .or IntKind.i64 (List.getD y5 (y2 : Int).toNat 0) (IntKind.i64.wrap (1 * 2 ^ min ((IntKind.i64.wrap (y2 + y1)) : Int).toNat IntKind.i64.bits)))) : Int) then (i_GridNet_l0 y0 y1 y3 (IntKind.i64.wrap (y4 + 1)) (List.set (List.set y5 (y2 : Int).toNat (Go.bits .or IntKind.i64 (List.getD y5 (y2 : Int).toNat 0) (IntKind.i64.wrap (1 * 2 ^ min ((IntKind.i64.wrap (y2 + y1)) : Int).toNat IntKind.i64.bits)))) ((IntKind.i64.wrap (y2 + y1)) : Int).toNat (Go.bits .or IntKind.i64 (List.getD (List.set y5 (y2 : Int).toNat (Go.bits .or IntKind.i64 (List.getD y5 (y2 : Int).toNat 0) (IntKind.i64.wrap (1 * 2 ^ min ((IntKind.i64.wrap (y2 + y1)) : Int).toNat IntKind.i64.bits)))) ((IntKind.i64.wrap (y2 + y1)) : Int).toNat 0) (IntKind.i64.wrap (1 * 2 ^ min (y2 : Int).toNat IntKind.i64.bits))))) else none) else none)) else none) else none)) (i_GridNet_l0 y0 y1 y3 (IntKind.i64.wrap (y4 + 1)) y5))) := by
  kernel_rfl
mutual
def i_GridNet_l0_c : Nat → (Int) → (Int) → (Int) → (Int) → (List (Int)) → Option ((List (Int)))
  | 0, _, _, _, _, _ => none
  | n + 1, y0, y1, y2, y3, y4 => (cond ((decide (y3 < y2))) (if y1 = 0 then none else (cond ((decide ((Int.tmod y3 y1) < (IntKind.i64.wrap (y1 - 1))))) (if (IntKind.i64.wrap (y3 + 1)) < 0 then none else (if (0 : Int) ≤ y3 ∧ y3 < (List.length y4 : Int) then (if (0 : Int) ≤ y3 ∧ y3 < (List.length y4 : Int) then (if y3 < 0 then none else (if (0 : Int) ≤ (IntKind.i64.wrap (y3 + 1)) ∧ (IntKind.i64.wrap (y3 + 1)) < (List.length (List.set y4 (y3 : Int).toNat (Go.bits .or IntKind.i64 (List.getD y4 (y3 : Int).toNat 0) (IntKind.i64.wrap (1 * 2 ^ min ((IntKind.i64.wrap (y3 + 1)) : Int).toNat IntKind.i64.bits)))) : Int) then (if (0 : Int) ≤ (IntKind.i64.wrap (y3 + 1)) ∧ (IntKind.i64.wrap (y3 + 1)) < (List.length (List.set y4 (y3 : Int).toNat (Go.bits .or IntKind.i64 (List.getD y4 (y3 : Int).toNat 0) (IntKind.i64.wrap (1 * 2 ^ min ((IntKind.i64.wrap (y3 + 1)) : Int).toNat IntKind.i64.bits)))) : Int) then (i_GridNet_j1_c n y0 y1 y3 y2 y3 (List.set (List.set y4 (y3 : Int).toNat (Go.bits .or IntKind.i64 (List.getD y4 (y3 : Int).toNat 0) (IntKind.i64.wrap (1 * 2 ^ min ((IntKind.i64.wrap (y3 + 1)) : Int).toNat IntKind.i64.bits)))) ((IntKind.i64.wrap (y3 + 1)) : Int).toNat (Go.bits .or IntKind.i64 (List.getD (List.set y4 (y3 : Int).toNat (Go.bits .or IntKind.i64 (List.getD y4 (y3 : Int).toNat 0) (IntKind.i64.wrap (1 * 2 ^ min ((IntKind.i64.wrap (y3 + 1)) : Int).toNat IntKind.i64.bits)))) ((IntKind.i64.wrap (y3 + 1)) : Int).toNat 0) (IntKind.i64.wrap (1 * 2 ^ min (y3 : Int).toNat IntKind.i64.bits))))) else none) else none)) else none) else none)) (i_GridNet_j1_c n y0 y1 y3 y2 y3 y4))) (some y4))
def i_GridNet_j1_c : Nat → (Int) → (Int) → (Int) → (Int) → (Int) → (List (Int)) → Option ((List (Int)))
  | 0, _, _, _, _, _, _ => none
  | n + 1, y0, y1, y2, y3, y4, y5 => (if y1 = 0 then none else (cond ((decide ((IntKind.i64.wrap (Int.tdiv y2 y1)) < (IntKind.i64.wrap (y0 - 1))))) (if (IntKind.i64.wrap (y2 + y1)) < 0 then none else (if (0 : Int) ≤ y2 ∧ y2 < (List.length y5 : Int) then (if (0 : Int) ≤ y2 ∧ y2 < (List.length y5 : Int) then (if y2 < 0 then none else (if (0 : Int) ≤ (IntKind.i64.wrap (y2 + y1)) ∧ (IntKind.i64.wrap (y2 + y1)) < (List.length (List.set y5 (y2 : Int).toNat (Go.bits .or IntKind.i64 (List.getD y5 (y2 : Int).toNat 0) (IntKind.i64.wrap (1 * 2 ^ min ((IntKind.i64.wrap (y2 + y1)) : Int).toNat IntKind.i64.bits)))) : Int) then (if (0 : Int) ≤ (IntKind.i64.wrap (y2 + y1)) ∧ (IntKind.i64.wrap (y2 + y1)) < (List.length (List.set y5 (y2 : Int).toNat (Go.bits .or IntKind.i64 (List.getD y5 (y2 : Int).toNat 0) (IntKind.i64.wrap (1 * 2 ^ min ((IntKind.i64.wrap (y2 + y1)) : Int).toNat IntKind.i64.bits)))) : Int) then (i_GridNet_l0_c n y0 y1 y3 (IntKind.i64.wrap (y4 + 1)) (List.set (List.set y5 (y2 : Int).toNat (Go.bits .or IntKind.i64 (List.getD y5 (y2 : Int).toNat 0) (IntKind.i64.wrap (1 * 2 ^ min ((IntKind.i64.wrap (y2 + y1)) : Int).toNat IntKind.i64.bits)))) ((IntKind.i64.wrap (y2 + y1)) : Int).toNat (Go.bits .or IntKind.i64 (List.getD (List.set y5 (y2 : Int).toNat (Go.bits .or IntKind.i64 (List.getD y5 (y2 : Int).toNat 0) (IntKind.i64.wrap (1 * 2 ^ min ((IntKind.i64.wrap (y2 + y1)) : Int).toNat IntKind.i64.bits)))) ((IntKind.i64.wrap (y2 + y1)) : Int).toNat 0) (IntKind.i64.wrap (1 * 2 ^ min (y2 : Int).toNat IntKind.i64.bits))))) else none) else none)) else none) else none)) (i_GridNet_l0_c n y0 y1 y3 (IntKind.i64.wrap (y4 + 1)) y5)))
end
def i_GridNet_f_c (n : Nat) : ((Int)) × ((Int)) → Option ((List (Int)))
  | (x0, x1) => (Option.bind (i_gridOk_f_c n (x0, x1)) fun r1 => (cond ((!r1)) (some []) (if (0 : Int) ≤ (IntKind.i64.wrap (x0 * x1)) ∧ (IntKind.i64.wrap (x0 * x1)) * 8 ≤ 140737488355328 ∧ (IntKind.i64.wrap (x0 * x1)) ≤ 140737488355328 then (i_GridNet_l0_c n x0 x1 (List.length (List.replicate ((IntKind.i64.wrap (x0 * x1)) : Int).toNat 0 : List (Int)) : Int) 0 (List.replicate ((IntKind.i64.wrap (x0 * x1)) : Int).toNat 0 : List (Int))) else none)))
mutual
theorem i_GridNet_l0_c_le : (n : Nat) → (y0 : Int) → (y1 : Int) → (y2 : Int) → (y3 : Int) → (y4 : List (Int)) → OLe (i_GridNet_l0_c n y0 y1 y2 y3 y4) (i_GridNet_l0 y0 y1 y2 y3 y4)
  | 0, _, _, _, _, _ => OLe.none _
  | n + 1, y0, y1, y2, y3, y4 => by
    rw [i_GridNet_l0_c, i_GridNet_l0_eq]
    repeat' first | with_reducible exact OLe.refl _ | with_reducible exact OLe.none _ | with_reducible apply i_gridOk_f_c_le | with_reducible apply i_GridNet_l0_c_le | with_reducible apply i_GridNet_j1_c_le | with_reducible refine OLe.cond ?_ ?_ | with_reducible refine OLe.ite ?_ ?_ | with_reducible refine OLe.bind ?_ ?_ | intro _
theorem i_GridNet_j1_c_le : (n : Nat) → (y0 : Int) → (y1 : Int) → (y2 : Int) → (y3 : Int) → (y4 : Int) → (y5 : List (Int)) → OLe (i_GridNet_j1_c n y0 y1 y2 y3 y4 y5) (i_GridNet_j1 y0 y1 y2 y3 y4 y5)
  | 0, _, _, _, _, _, _ => OLe.none _
  | n + 1, y0, y1, y2, y3, y4, y5 => by
    rw [i_GridNet_j1_c, i_GridNet_j1_eq]
    repeat' first | with_reducible exact OLe.refl _ | with_reducible exact OLe.none _ | with_reducible apply i_gridOk_f_c_le | with_reducible apply i_GridNet_l0_c_le | with_reducible apply i_GridNet_j1_c_le | with_reducible refine OLe.cond ?_ ?_ | with_reducible refine OLe.ite ?_ ?_ | with_reducible refine OLe.bind ?_ ?_ | intro _
end
theorem i_GridNet_f_c_le (n : Nat) (x : Ts i_GridNet_sig.pc) : OLe (i_GridNet_f_c n x) (i_GridNet_f x) := by
  obtain ⟨x0, x1⟩ := x
  rw [i_GridNet_f_c, i_GridNet_f_eq]
  repeat' first | with_reducible exact OLe.refl _ | with_reducible exact OLe.none _ | with_reducible apply i_gridOk_f_c_le | with_reducible apply i_GridNet_l0_c_le | with_reducible apply i_GridNet_j1_c_le | with_reducible refine OLe.cond ?_ ?_ | with_reducible refine OLe.ite ?_ ?_ | with_reducible refine OLe.bind ?_ ?_ | intro _
theorem i_GridNet_ent : Entb Try.prog 12 := ⟨Try.f12, by kernel_rfl, by kernel_rfl, by kernel_rfl⟩
theorem i_GridNet_ok : CtrOk Try.prog 12 ⟨i_GridNet_sig, i_GridNet_f⟩ :=
  ctr_of (fn := Try.f12) (by kernel_rfl) (by kernel_rfl) (fun x : Ts i_GridNet_sig.pc => i_GridNet_E) (fun x => withClo_ok (fn := Try.f34) (by kernel_rfl) (by kernel_rfl) (by kernel_rfl) (by kernel_rfl) ⟨(fn_cons ⟨i_gridOk_ok, i_gridOk_ent⟩ fn_none), clo_none⟩ follows_) (fun h => by cases h) follows_
end FN
set_option linter.unusedVariables false
namespace FN
open Go Go.Proofs
/-! loop.example/firingnets/spec.l20Grid -/
@[reducible] def s_l20Grid_sig : Sig := { rd := some 58, ps := [], pc := [.view .u8, .int .i64], rs := [none, none], rc := [.int .i64, .int .i64, .int .i64] }
noncomputable def s_l20Grid_E (b : List Int) : Env' := { keep := [0], rdb := b, fn := fun f => if f = 43 then some ⟨r_pick_sig, r_pick_f⟩ else none, ck := ckT, cuts := [], mine := fun i => false }
noncomputable def s_l20Grid_f (x : Ts s_l20Grid_sig.pc) : Option (Ts s_l20Grid_sig.rc) := runFn Try.prog (s_l20Grid_E x.1) Try.f30 s_l20Grid_sig x
theorem s_l20Grid_f_eq (x0 : (List (Int))) (x1 : (Int)) : s_l20Grid_f (x0, x1) = (Option.bind (r_pick_f (x0, x1, 10)) fun r1 => (if (0 : Int) ≤ r1.1 ∧ r1.1 < (List.length ([([2, 2] : List (Int)), ([2, 3] : List (Int)), ([3, 2] : List (Int)), ([1, 4] : List (Int)), ([5, 1] : List (Int)), ([1, 1] : List (Int)), ([2, 2] : List (Int)), ([2, 3] : List (Int)), ([3, 3] : List (Int)), ([0, 2] : List (Int))] : List (List Int)) : Int) then (if (0 : Int) ≤ 0 ∧ 0 < (List.length (List.getD ([([2, 2] : List (Int)), ([2, 3] : List (Int)), ([3, 2] : List (Int)), ([1, 4] : List (Int)), ([5, 1] : List (Int)), ([1, 1] : List (Int)), ([2, 2] : List (Int)), ([2, 3] : List (Int)), ([3, 3] : List (Int)), ([0, 2] : List (Int))] : List (List Int)) (r1.1 : Int).toNat []) : Int) then (if (0 : Int) ≤ 1 ∧ 1 < (List.length (List.getD ([([2, 2] : List (Int)), ([2, 3] : List (Int)), ([3, 2] : List (Int)), ([1, 4] : List (Int)), ([5, 1] : List (Int)), ([1, 1] : List (Int)), ([2, 2] : List (Int)), ([2, 3] : List (Int)), ([3, 3] : List (Int)), ([0, 2] : List (Int))] : List (List Int)) (r1.1 : Int).toNat []) : Int) then (if 58 = 58 ∧ x0 = x0 then (some ((List.getD (List.getD ([([2, 2] : List (Int)), ([2, 3] : List (Int)), ([3, 2] : List (Int)), ([1, 4] : List (Int)), ([5, 1] : List (Int)), ([1, 1] : List (Int)), ([2, 2] : List (Int)), ([2, 3] : List (Int)), ([3, 3] : List (Int)), ([0, 2] : List (Int))] : List (List Int)) (r1.1 : Int).toNat []) (0 : Int).toNat 0), (List.getD (List.getD ([([2, 2] : List (Int)), ([2, 3] : List (Int)), ([3, 2] : List (Int)), ([1, 4] : List (Int)), ([5, 1] : List (Int)), ([1, 1] : List (Int)), ([2, 2] : List (Int)), ([2, 3] : List (Int)), ([3, 3] : List (Int)), ([0, 2] : List (Int))] : List (List Int)) (r1.1 : Int).toNat []) (1 : Int).toNat 0), r1.2)) else none) else none) else none) else none)) := by
  kernel_rfl
def s_l20Grid_f_c (n : Nat) : ((List (Int))) × ((Int)) → Option ((Int) × (Int) × (Int))
  | (x0, x1) => (Option.bind (r_pick_f_c n (x0, x1, 10)) fun r1 => (if (0 : Int) ≤ r1.1 ∧ r1.1 < (List.length ([([2, 2] : List (Int)), ([2, 3] : List (Int)), ([3, 2] : List (Int)), ([1, 4] : List (Int)), ([5, 1] : List (Int)), ([1, 1] : List (Int)), ([2, 2] : List (Int)), ([2, 3] : List (Int)), ([3, 3] : List (Int)), ([0, 2] : List (Int))] : List (List Int)) : Int) then (if (0 : Int) ≤ 0 ∧ 0 < (List.length (List.getD ([([2, 2] : List (Int)), ([2, 3] : List (Int)), ([3, 2] : List (Int)), ([1, 4] : List (Int)), ([5, 1] : List (Int)), ([1, 1] : List (Int)), ([2, 2] : List (Int)), ([2, 3] : List (Int)), ([3, 3] : List (Int)), ([0, 2] : List (Int))] : List (List Int)) (r1.1 : Int).toNat []) : Int) then (if (0 : Int) ≤ 1 ∧ 1 < (List.length (List.getD ([([2, 2] : List (Int)), ([2, 3] : List (Int)), ([3, 2] : List (Int)), ([1, 4] : List (Int)), ([5, 1] : List (Int)), ([1, 1] : List (Int)), ([2, 2] : List (Int)), ([2, 3] : List (Int)), ([3, 3] : List (Int)), ([0, 2] : List (Int))] : List (List Int)) (r1.1 : Int).toNat []) : Int) then (if 58 = 58 ∧ x0 = x0 then (some ((List.getD (List.getD ([([2, 2] : List (Int)), ([2, 3] : List (Int)), ([3, 2] : List (Int)), ([1, 4] : List (Int)), ([5, 1] : List (Int)), ([1, 1] : List (Int)), ([2, 2] : List (Int)), ([2, 3] : List (Int)), ([3, 3] : List (Int)), ([0, 2] : List (Int))] : List (List Int)) (r1.1 : Int).toNat []) (0 : Int).toNat 0), (List.getD (List.getD ([([2, 2] : List (Int)), ([2, 3] : List (Int)), ([3, 2] : List (Int)), ([1, 4] : List (Int)), ([5, 1] : List (Int)), ([1, 1] : List (Int)), ([2, 2] : List (Int)), ([2, 3] : List (Int)), ([3, 3] : List (Int)), ([0, 2] : List (Int))] : List (List Int)) (r1.1 : Int).toNat []) (1 : Int).toNat 0), r1.2)) else none) else none) else none) else none))
theorem s_l20Grid_f_c_le (n : Nat) (x : Ts s_l20Grid_sig.pc) : OLe (s_l20Grid_f_c n x) (s_l20Grid_f x) := by
  obtain ⟨x0, x1⟩ := x
  rw [s_l20Grid_f_c, s_l20Grid_f_eq]
  repeat' first | with_reducible exact OLe.refl _ | with_reducible exact OLe.none _ | with_reducible apply r_pick_f_c_le | with_reducible refine OLe.cond ?_ ?_ | with_reducible refine OLe.ite ?_ ?_ | with_reducible refine OLe.bind ?_ ?_ | intro _
theorem s_l20Grid_ent : Entb Try.prog 30 := ⟨Try.f30, by kernel_rfl, by kernel_rfl, by kernel_rfl⟩
theorem s_l20Grid_ok : CtrOk Try.prog 30 ⟨s_l20Grid_sig, s_l20Grid_f⟩ :=
  ctr_of (fn := Try.f30) (by kernel_rfl) (by kernel_rfl) (fun x : Ts s_l20Grid_sig.pc => s_l20Grid_E x.1) (fun x => ⟨(fn_cons ⟨r_pick_ok, r_pick_ent⟩ fn_none), clo_none⟩) (fun _ x => ⟨rfl, fun b ps h => rd_head h⟩) follows_
end FN
set_option linter.unusedVariables false
namespace FN
open Go Go.Proofs
/-! loop.example/firingnets/spec.DrawGridNet -/
@[reducible] def s_DrawGridNet_sig : Sig := { ps := [none], pc := [.view .u8], rs := [none, none], rc := [.int .i64, .int .i64] }
noncomputable def s_DrawGridNet_E : Env' := { fn := fun f => if f = 30 then some ⟨s_l20Grid_sig, s_l20Grid_f⟩ else if f = 31 then some ⟨s_l20Open_sig, s_l20Open_f⟩ else none, ck := ckT, cuts := [], mine := fun i => false }
noncomputable def s_DrawGridNet_f (x : Ts s_DrawGridNet_sig.pc) : Option (Ts s_DrawGridNet_sig.rc) := runFn Try.prog (s_DrawGridNet_E) Try.f21 s_DrawGridNet_sig x
theorem s_DrawGridNet_f_eq (x0 : (List (Int))) : s_DrawGridNet_f x0 = (Option.bind (s_l20Open_f x0) fun r1 => (Option.bind (s_l20Grid_f (r1.1, r1.2)) fun r2 => (some (r2.1, r2.2.1)))) := by
  kernel_rfl
def s_DrawGridNet_f_c (n : Nat) : ((List (Int))) → Option ((Int) × (Int))
  | x0 => (Option.bind (s_l20Open_f_c n x0) fun r1 => (Option.bind (s_l20Grid_f_c n (r1.1, r1.2)) fun r2 => (some (r2.1, r2.2.1))))
theorem s_DrawGridNet_f_c_le (n : Nat) (x : Ts s_DrawGridNet_sig.pc) : OLe (s_DrawGridNet_f_c n x) (s_DrawGridNet_f x) := by
  rw [s_DrawGridNet_f_c, s_DrawGridNet_f_eq]
  repeat' first | with_reducible exact OLe.refl _ | with_reducible exact OLe.none _ | with_reducible apply s_l20Grid_f_c_le | with_reducible apply s_l20Open_f_c_le | with_reducible refine OLe.cond ?_ ?_ | with_reducible refine OLe.ite ?_ ?_ | with_reducible refine OLe.bind ?_ ?_ | intro _
theorem s_DrawGridNet_ent : Entb Try.prog 21 := ⟨Try.f21, by kernel_rfl, by kernel_rfl, by kernel_rfl⟩
theorem s_DrawGridNet_ok : CtrOk Try.prog 21 ⟨s_DrawGridNet_sig, s_DrawGridNet_f⟩ :=
  ctr_of (fn := Try.f21) (by kernel_rfl) (by kernel_rfl) (fun x : Ts s_DrawGridNet_sig.pc => s_DrawGridNet_E) (fun x => ⟨(fn_cons ⟨s_l20Grid_ok, s_l20Grid_ent⟩ (fn_cons ⟨s_l20Open_ok, s_l20Open_ent⟩ fn_none)), clo_none⟩) (fun h => by cases h) follows_
end FN
set_option linter.unusedVariables false
namespace FN
open Go Go.Proofs
/-! loop.example/firingnets/spec.l1In -/
@[reducible] def s_l1In_sig : Sig := { ps := [none, none, none], pc := [.int .i64, .int .i64, .int .i64], rs := [none], rc := [.bool] }
noncomputable def s_l1In_E : Env' := { fn := fun f => none, ck := ckT, cuts := [], mine := fun i => false }
noncomputable def s_l1In_f (x : Ts s_l1In_sig.pc) : Option (Ts s_l1In_sig.rc) := runFn Try.prog (s_l1In_E) Try.f44 s_l1In_sig x
theorem s_l1In_f_eq (x0 : (Int)) (x1 : (Int)) (x2 : (Int)) : s_l1In_f (x0, x1, x2) = (cond ((decide (x1 ≤ x0))) (some (decide (x0 ≤ x2))) (some false)) := by
  kernel_rfl
def s_l1In_f_c (n : Nat) : ((Int)) × ((Int)) × ((Int)) → Option ((Bool))
  | (x0, x1, x2) => (cond ((decide (x1 ≤ x0))) (some (decide (x0 ≤ x2))) (some false))
theorem s_l1In_f_c_le (n : Nat) (x : Ts s_l1In_sig.pc) : OLe (s_l1In_f_c n x) (s_l1In_f x) := by
  obtain ⟨x0, x1, x2⟩ := x
  rw [s_l1In_f_c, s_l1In_f_eq]
  repeat' first | with_reducible exact OLe.refl _ | with_reducible exact OLe.none _ | with_reducible refine OLe.cond ?_ ?_ | with_reducible refine OLe.ite ?_ ?_ | with_reducible refine OLe.bind ?_ ?_ | intro _
theorem s_l1In_ent : Entb Try.prog 44 := ⟨Try.f44, by kernel_rfl, by kernel_rfl, by kernel_rfl⟩
theorem s_l1In_ok : CtrOk Try.prog 44 ⟨s_l1In_sig, s_l1In_f⟩ :=
  ctr_of (fn := Try.f44) (by kernel_rfl) (by kernel_rfl) (fun x : Ts s_l1In_sig.pc => s_l1In_E) (fun x => ⟨fn_none, clo_none⟩) (fun h => by cases h) follows_
end FN
set_option linter.unusedVariables false
namespace FN
open Go Go.Proofs
/-! loop.example/firingnets/spec.l12Ok -/
@[reducible] def s_l12Ok_sig : Sig := { ps := [none, none], pc := [.int .i64, .int .i64], rs := [none], rc := [.bool] }
noncomputable def s_l12Ok_E : Env' := { fn := fun f => if f = 44 then some ⟨s_l1In_sig, s_l1In_f⟩ else none, ck := ckT, cuts := [], mine := fun i => false }
noncomputable def s_l12Ok_f (x : Ts s_l12Ok_sig.pc) : Option (Ts s_l12Ok_sig.rc) := runFn Try.prog (s_l12Ok_E) Try.f33 s_l12Ok_sig x
theorem s_l12Ok_f_eq (x0 : (Int)) (x1 : (Int)) : s_l12Ok_f (x0, x1) = (Option.bind (s_l1In_f (x0, 1, 6)) fun r1 => (cond (r1) (Option.bind (s_l1In_f (x1, 1, 6)) fun r2 => (cond (r2) (some (decide ((IntKind.i64.wrap (x0 * x1)) ≤ 6))) (some false))) (some false))) := by
  kernel_rfl
def s_l12Ok_f_c (n : Nat) : ((Int)) × ((Int)) → Option ((Bool))
  | (x0, x1) => (Option.bind (s_l1In_f_c n (x0, 1, 6)) fun r1 => (cond (r1) (Option.bind (s_l1In_f_c n (x1, 1, 6)) fun r2 => (cond (r2) (some (decide ((IntKind.i64.wrap (x0 * x1)) ≤ 6))) (some false))) (some false)))
theorem s_l12Ok_f_c_le (n : Nat) (x : Ts s_l12Ok_sig.pc) : OLe (s_l12Ok_f_c n x) (s_l12Ok_f x) := by
  obtain ⟨x0, x1⟩ := x
  rw [s_l12Ok_f_c, s_l12Ok_f_eq]
  repeat' first | with_reducible exact OLe.refl _ | with_reducible exact OLe.none _ | with_reducible apply s_l1In_f_c_le | with_reducible refine OLe.cond ?_ ?_ | with_reducible refine OLe.ite ?_ ?_ | with_reducible refine OLe.bind ?_ ?_ | intro _
theorem s_l12Ok_ent : Entb Try.prog 33 := ⟨Try.f33, by kernel_rfl, by kernel_rfl, by kernel_rfl⟩
theorem s_l12Ok_ok : CtrOk Try.prog 33 ⟨s_l12Ok_sig, s_l12Ok_f⟩ :=
  ctr_of (fn := Try.f33) (by kernel_rfl) (by kernel_rfl) (fun x : Ts s_l12Ok_sig.pc => s_l12Ok_E) (fun x => ⟨(fn_cons ⟨s_l1In_ok, s_l1In_ent⟩ fn_none), clo_none⟩) (fun h => by cases h) follows_
end FN
set_option linter.unusedVariables false
namespace FN
open Go Go.Proofs
/-! loop.example/firingnets/spec.GridNet -/
@[reducible] def s_GridNet_sig : Sig := { ps := [none, none], pc := [.int .i64, .int .i64], rs := [none], rc := [.row 3 .i64] }
noncomputable def s_GridNet_E : Env' := { fn := fun f => if f = 33 then some ⟨s_l12Ok_sig, s_l12Ok_f⟩ else none, ck := ckT, cuts := [(3, [0, 1, 5, 6]), (8, [0, 1, 5, 6, 7]), (10, [0, 1, 5, 6, 7]), (12, [0, 1, 5, 6, 7])], mine := fun i => false }
noncomputable def s_GridNet_f (x : Ts s_GridNet_sig.pc) : Option (Ts s_GridNet_sig.rc) := runFn Try.prog (s_GridNet_E) Try.f22 s_GridNet_sig x
noncomputable def s_GridNet_l0 (y0 : Int) (y1 : Int) (y2 : Int) (y3 : List (Int)) : Option ((List (Int))) := from_ Try.prog (s_GridNet_E) Try.f22 s_GridNet_sig [1, 1, 0, 1, 0] ⟨mkT 67 [(0, .int .i64 y0), (1, .int .i64 y1), (5, .own 0), (6, .int .i64 y2)], [some (.arr 3 true .i64 y3)]⟩
noncomputable def s_GridNet_j1 (y0 : Int) (y1 : Int) (y2 : Int) (y3 : Int) (y4 : List (Int)) : Option ((List (Int))) := from_ Try.prog (s_GridNet_E) Try.f22 s_GridNet_sig [1, 1, 0, 1, 0, 0, 1, 0, 0, 1, 1] ⟨mkT 67 [(0, .int .i64 y0), (1, .int .i64 y1), (5, .own 0), (6, .int .i64 y2), (7, .int .i64 y3)], [some (.arr 3 true .i64 y4)]⟩
noncomputable def s_GridNet_j2 (y0 : Int) (y1 : Int) (y2 : Int) (y3 : Int) (y4 : List (Int)) : Option ((List (Int))) := from_ Try.prog (s_GridNet_E) Try.f22 s_GridNet_sig [1, 1, 0, 1, 0, 0, 1, 0, 0, 1, 1, 1] ⟨mkT 67 [(0, .int .i64 y0), (1, .int .i64 y1), (5, .own 0), (6, .int .i64 y2), (7, .int .i64 y3)], [some (.arr 3 true .i64 y4)]⟩
noncomputable def s_GridNet_j3 (y0 : Int) (y1 : Int) (y2 : Int) (y3 : Int) (y4 : List (Int)) : Option ((List (Int))) := from_ Try.prog (s_GridNet_E) Try.f22 s_GridNet_sig [1, 1, 0, 1, 0, 0, 1, 0, 0, 1, 1, 1, 1] ⟨mkT 67 [(0, .int .i64 y0), (1, .int .i64 y1), (5, .own 0), (6, .int .i64 y2), (7, .int .i64 y3)], [some (.arr 3 true .i64 y4)]⟩
theorem s_GridNet_f_eq (x0 : (Int)) (x1 : (Int)) : s_GridNet_f (x0, x1) = (s_GridNet_l0 x0 x1 0 ([] : List (Int))) := by
  kernel_rfl
theorem s_GridNet_l0_eq (y0 : Int) (y1 : Int) (y2 : Int) (y3 : List (Int)) : s_GridNet_l0 y0 y1 y2 y3 = (Option.bind (s_l12Ok_f (y0, y1)) fun r1 => (cond (r1) (cond ((decide (y2 < (IntKind.i64.wrap (y0 * y1))))) (if y1 = 0 then none else (cond ((decide (0 < (Int.tmod y2 y1)))) (if (IntKind.i64.wrap (y2 - 1)) < 0 then none else (s_GridNet_j1 y0 y1 y2 (Go.bits .or IntKind.i64 0 (IntKind.i64.wrap (1 * 2 ^ min ((IntKind.i64.wrap (y2 - 1)) : Int).toNat IntKind.i64.bits))) y3)) (s_GridNet_j1 y0 y1 y2 0 y3))) (some y3)) (some y3))) := by
  refine (loopK_eq Try.prog (s_GridNet_E) (sub (Try.f22.body.getD .skip) [1, 1, 0, 1, 0, 0]) _ _).trans ?_
  kernel_rfl
theorem s_GridNet_j1_eq (y0 : Int) (y1 : Int) (y2 : Int) (y3 : Int) (y4 : List (Int)) : s_GridNet_j1 y0 y1 y2 y3 y4 = (if y1 = 0 then none else (cond ((decide ((Int.tmod y2 y1) < (IntKind.i64.wrap (y1 - 1))))) (if (IntKind.i64.wrap (y2 + 1)) < 0 then none else (s_GridNet_j2 y0 y1 y2 (Go.bits .or IntKind.i64 y3 (IntKind.i64.wrap (1 * 2 ^ min ((IntKind.i64.wrap (y2 + 1)) : Int).toNat IntKind.i64.bits))) y4)) (s_GridNet_j2 y0 y1 y2 y3 y4))) := by
  kernel_rfl
theorem s_GridNet_j2_eq (y0 : Int) (y1 : Int) (y2 : Int) (y3 : Int) (y4 : List (Int)) : s_GridNet_j2 y0 y1 y2 y3 y4 = (cond ((decide (y1 ≤ y2))) (if (IntKind.i64.wrap (y2 - y1)) < 0 then none else (s_GridNet_j3 y0 y1 y2 (Go.bits .or IntKind.i64 y3 (IntKind.i64.wrap (1 * 2 ^ min ((IntKind.i64.wrap (y2 - y1)) : Int).toNat IntKind.i64.bits))) y4)) (s_GridNet_j3 y0 y1 y2 y3 y4)) := by
  kernel_rfl
theorem s_GridNet_j3_eq (y0 : Int) (y1 : Int) (y2 : Int) (y3 : Int) (y4 : List (Int)) : s_GridNet_j3 y0 y1 y2 y3 y4 = (cond ((decide (y2 < (IntKind.i64.wrap ((IntKind.i64.wrap (y0 - 1)) * y1))))) (if (IntKind.i64.wrap (y2 + y1)) < 0 then none else (if (List.length y4 + List.length ([(Go.bits .or IntKind.i64 y3 (IntKind.i64.wrap (1 * 2 ^ min ((IntKind.i64.wrap (y2 + y1)) : Int).toNat IntKind.i64.bits)))] : List (Int))) * 8 ≤ 140737488355328 then (s_GridNet_l0 y0 y1 (IntKind.i64.wrap (y2 + 1)) (y4 ++ ([(Go.bits .or IntKind.i64 y3 (IntKind.i64.wrap (1 * 2 ^ min ((IntKind.i64.wrap (y2 + y1)) : Int).toNat IntKind.i64.bits)))] : List (Int)))) else none)) (if (List.length y4 + List.length ([y3] : List (Int))) * 8 ≤ 140737488355328 then (s_GridNet_l0 y0 y1 (IntKind.i64.wrap (y2 + 1)) (y4 ++ ([y3] : List (Int)))) else none)) := by
  kernel_rfl
mutual
def s_GridNet_l0_c : Nat → (Int) → (Int) → (Int) → (List (Int)) → Option ((List (Int)))
  | 0, _, _, _, _ => none
  | n + 1, y0, y1, y2, y3 => (Option.bind (s_l12Ok_f_c n (y0, y1)) fun r1 => (cond (r1) (cond ((decide (y2 < (IntKind.i64.wrap (y0 * y1))))) (if y1 = 0 then none else (cond ((decide (0 < (Int.tmod y2 y1)))) (if (IntKind.i64.wrap (y2 - 1)) < 0 then none else (s_GridNet_j1_c n y0 y1 y2 (Go.bits .or IntKind.i64 0 (IntKind.i64.wrap (1 * 2 ^ min ((IntKind.i64.wrap (y2 - 1)) : Int).toNat IntKind.i64.bits))) y3)) (s_GridNet_j1_c n y0 y1 y2 0 y3))) (some y3)) (some y3)))
def s_GridNet_j1_c : Nat → (Int) → (Int) → (Int) → (Int) → (List (Int)) → Option ((List (Int)))
  | 0, _, _, _, _, _ => none
  | n + 1, y0, y1, y2, y3, y4 => (if y1 = 0 then none else (cond ((decide ((Int.tmod y2 y1) < (IntKind.i64.wrap (y1 - 1))))) (if (IntKind.i64.wrap (y2 + 1)) < 0 then none else (s_GridNet_j2_c n y0 y1 y2 (Go.bits .or IntKind.i64 y3 (IntKind.i64.wrap (1 * 2 ^ min ((IntKind.i64.wrap (y2 + 1)) : Int).toNat IntKind.i64.bits))) y4)) (s_GridNet_j2_c n y0 y1 y2 y3 y4)))
def s_GridNet_j2_c : Nat → (Int) → (Int) → (Int) → (Int) → (List (Int)) → Option ((List (Int)))
  | 0, _, _, _, _, _ => none
  | n + 1, y0, y1, y2, y3, y4 => (cond ((decide (y1 ≤ y2))) (if (IntKind.i64.wrap (y2 - y1)) < 0 then none else (s_GridNet_j3_c n y0 y1 y2 (Go.bits .or IntKind.i64 y3 (IntKind.i64.wrap (1 * 2 ^ min ((IntKind.i64.wrap (y2 - y1)) : Int).toNat IntKind.i64.bits))) y4)) (s_GridNet_j3_c n y0 y1 y2 y3 y4))
def s_GridNet_j3_c : Nat → (Int) → (Int) → (Int) → (Int) → (List (Int)) → Option ((List (Int)))
  | 0, _, _, _, _, _ => none
  | n + 1, y0, y1, y2, y3, y4 => (cond ((decide (y2 < (IntKind.i64.wrap ((IntKind.i64.wrap (y0 - 1)) * y1))))) (if (IntKind.i64.wrap (y2 + y1)) < 0 then none else (if (List.length y4 + List.length ([(Go.bits .or IntKind.i64 y3 (IntKind.i64.wrap (1 * 2 ^ min ((IntKind.i64.wrap (y2 + y1)) : Int).toNat IntKind.i64.bits)))] : List (Int))) * 8 ≤ 140737488355328 then (s_GridNet_l0_c n y0 y1 (IntKind.i64.wrap (y2 + 1)) (y4 ++ ([(Go.bits .or IntKind.i64 y3 (IntKind.i64.wrap (1 * 2 ^ min ((IntKind.i64.wrap (y2 + y1)) : Int).toNat IntKind.i64.bits)))] : List (Int)))) else none)) (if (List.length y4 + List.length ([y3] : List (Int))) * 8 ≤ 140737488355328 then (s_GridNet_l0_c n y0 y1 (IntKind.i64.wrap (y2 + 1)) (y4 ++ ([y3] : List (Int)))) else none))
end
def s_GridNet_f_c (n : Nat) : ((Int)) × ((Int)) → Option ((List (Int)))
  | (x0, x1) => (s_GridNet_l0_c n x0 x1 0 ([] : List (Int)))
mutual
theorem s_GridNet_l0_c_le : (n : Nat) → (y0 : Int) → (y1 : Int) → (y2 : Int) → (y3 : List (Int)) → OLe (s_GridNet_l0_c n y0 y1 y2 y3) (s_GridNet_l0 y0 y1 y2 y3)
  | 0, _, _, _, _ => OLe.none _
  | n + 1, y0, y1, y2, y3 => by
    rw [s_GridNet_l0_c, s_GridNet_l0_eq]
    repeat' first | with_reducible exact OLe.refl _ | with_reducible exact OLe.none _ | with_reducible apply s_l12Ok_f_c_le | with_reducible apply s_GridNet_l0_c_le | with_reducible apply s_GridNet_j1_c_le | with_reducible apply s_GridNet_j2_c_le | with_reducible apply s_GridNet_j3_c_le | with_reducible refine OLe.cond ?_ ?_ | with_reducible refine OLe.ite ?_ ?_ | with_reducible refine OLe.bind ?_ ?_ | intro _
theorem s_GridNet_j1_c_le : (n : Nat) → (y0 : Int) → (y1 : Int) → (y2 : Int) → (y3 : Int) → (y4 : List (Int)) → OLe (s_GridNet_j1_c n y0 y1 y2 y3 y4) (s_GridNet_j1 y0 y1 y2 y3 y4)
  | 0, _, _, _, _, _ => OLe.none _
  | n + 1, y0, y1, y2, y3, y4 => by
    rw [s_GridNet_j1_c, s_GridNet_j1_eq]
    repeat' first | with_reducible exact OLe.refl _ | with_reducible exact OLe.none _ | with_reducible apply s_l12Ok_f_c_le | with_reducible apply s_GridNet_l0_c_le | with_reducible apply s_GridNet_j1_c_le | with_reducible apply s_GridNet_j2_c_le | with_reducible apply s_GridNet_j3_c_le | with_reducible refine OLe.cond ?_ ?_ | with_reducible refine OLe.ite ?_ ?_ | with_reducible refine OLe.bind ?_ ?_ | intro _
theorem s_GridNet_j2_c_le : (n : Nat) → (y0 : Int) → (y1 : Int) → (y2 : Int) → (y3 : Int) → (y4 : List (Int)) → OLe (s_GridNet_j2_c n y0 y1 y2 y3 y4) (s_GridNet_j2 y0 y1 y2 y3 y4)
  | 0, _, _, _, _, _ => OLe.none _
  | n + 1, y0, y1, y2, y3, y4 => by
    rw [s_GridNet_j2_c, s_GridNet_j2_eq]
    repeat' first | with_reducible exact OLe.refl _ | with_reducible exact OLe.none _ | with_reducible apply s_l12Ok_f_c_le | with_reducible apply s_GridNet_l0_c_le | with_reducible apply s_GridNet_j1_c_le | with_reducible apply s_GridNet_j2_c_le | with_reducible apply s_GridNet_j3_c_le | with_reducible refine OLe.cond ?_ ?_ | with_reducible refine OLe.ite ?_ ?_ | with_reducible refine OLe.bind ?_ ?_ | intro _
theorem s_GridNet_j3_c_le : (n : Nat) → (y0 : Int) → (y1 : Int) → (y2 : Int) → (y3 : Int) → (y4 : List (Int)) → OLe (s_GridNet_j3_c n y0 y1 y2 y3 y4) (s_GridNet_j3 y0 y1 y2 y3 y4)
  | 0, _, _, _, _, _ => OLe.none _
  | n + 1, y0, y1, y2, y3, y4 => by
    rw [s_GridNet_j3_c, s_GridNet_j3_eq]
    repeat' first | with_reducible exact OLe.refl _ | with_reducible exact OLe.none _ | with_reducible apply s_l12Ok_f_c_le | with_reducible apply s_GridNet_l0_c_le | with_reducible apply s_GridNet_j1_c_le | with_reducible apply s_GridNet_j2_c_le | with_reducible apply s_GridNet_j3_c_le | with_reducible refine OLe.cond ?_ ?_ | with_reducible refine OLe.ite ?_ ?_ | with_reducible refine OLe.bind ?_ ?_ | intro _
end
theorem s_GridNet_f_c_le (n : Nat) (x : Ts s_GridNet_sig.pc) : OLe (s_GridNet_f_c n x) (s_GridNet_f x) := by
  obtain ⟨x0, x1⟩ := x
  rw [s_GridNet_f_c, s_GridNet_f_eq]
  repeat' first | with_reducible exact OLe.refl _ | with_reducible exact OLe.none _ | with_reducible apply s_l12Ok_f_c_le | with_reducible apply s_GridNet_l0_c_le | with_reducible apply s_GridNet_j1_c_le | with_reducible apply s_GridNet_j2_c_le | with_reducible apply s_GridNet_j3_c_le | with_reducible refine OLe.cond ?_ ?_ | with_reducible refine OLe.ite ?_ ?_ | with_reducible refine OLe.bind ?_ ?_ | intro _
theorem s_GridNet_ent : Entb Try.prog 22 := ⟨Try.f22, by kernel_rfl, by kernel_rfl, by kernel_rfl⟩
theorem s_GridNet_ok : CtrOk Try.prog 22 ⟨s_GridNet_sig, s_GridNet_f⟩ :=
  ctr_of (fn := Try.f22) (by kernel_rfl) (by kernel_rfl) (fun x : Ts s_GridNet_sig.pc => s_GridNet_E) (fun x => ⟨(fn_cons ⟨s_l12Ok_ok, s_l12Ok_ent⟩ fn_none), clo_none⟩) (fun h => by cases h) follows_
end FN
set_option linter.unusedVariables false
namespace FN
open Go Go.Proofs
/-! loop.example/firingnets/laws.alive -/
@[reducible] def w_alive_sig : Sig := { ps := [], pc := [], rs := [none], rc := [.bool] }
noncomputable def w_alive_E : Env' := { fn := fun f => if f = 24 then some ⟨i_NetOk_sig, i_NetOk_f⟩ else none, ck := ckT, cuts := [], mine := fun i => false }
noncomputable def w_alive_f (x : Ts w_alive_sig.pc) : Option (Ts w_alive_sig.rc) := runFn Try.prog (w_alive_E) Try.f15 w_alive_sig x
theorem w_alive_f_eq  : w_alive_f () = (Option.bind (i_NetOk_f ([2, 1] : List (Int))) fun r1 => (cond (r1) (Option.bind (i_NetOk_f ([1] : List (Int))) fun r2 => (some (!r2))) (some false))) := by
  kernel_rfl
def w_alive_f_c (n : Nat) : Unit → Option ((Bool))
  | () => (Option.bind (i_NetOk_f_c n ([2, 1] : List (Int))) fun r1 => (cond (r1) (Option.bind (i_NetOk_f_c n ([1] : List (Int))) fun r2 => (some (!r2))) (some false)))
theorem w_alive_f_c_le (n : Nat) (x : Ts w_alive_sig.pc) : OLe (w_alive_f_c n x) (w_alive_f x) := by
  rw [w_alive_f_c, w_alive_f_eq]
  repeat' first | with_reducible exact OLe.refl _ | with_reducible exact OLe.none _ | with_reducible apply i_NetOk_f_c_le | with_reducible refine OLe.cond ?_ ?_ | with_reducible refine OLe.ite ?_ ?_ | with_reducible refine OLe.bind ?_ ?_ | intro _
theorem w_alive_ent : Entb Try.prog 15 := ⟨Try.f15, by kernel_rfl, by kernel_rfl, by kernel_rfl⟩
theorem w_alive_ok : CtrOk Try.prog 15 ⟨w_alive_sig, w_alive_f⟩ :=
  ctr_of (fn := Try.f15) (by kernel_rfl) (by kernel_rfl) (fun x : Ts w_alive_sig.pc => w_alive_E) (fun x => ⟨(fn_cons ⟨i_NetOk_ok, i_NetOk_ent⟩ fn_none), clo_none⟩) (fun h => by cases h) follows_
end FN
set_option linter.unusedVariables false
namespace FN
open Go Go.Proofs
/-! loop.example/firingnets/laws.sameInts -/
@[reducible] def w_sameInts_sig : Sig := { ps := [none, none], pc := [.view .i64, .view .i64], rs := [none], rc := [.bool] }
noncomputable def w_sameInts_E : Env' := { fn := fun f => none, ck := ckT, cuts := [(4, [0, 1, 5])], mine := fun i => false }
noncomputable def w_sameInts_f (x : Ts w_sameInts_sig.pc) : Option (Ts w_sameInts_sig.rc) := runFn Try.prog (w_sameInts_E) Try.f13 w_sameInts_sig x
noncomputable def w_sameInts_l0 (y0 : List (Int)) (y1 : List (Int)) (y2 : Int) : Option ((Bool)) := from_ Try.prog (w_sameInts_E) Try.f13 w_sameInts_sig [1, 1, 0, 1, 0] ⟨mkT 26 [(0, .row false .i64 y0), (1, .row false .i64 y1), (5, .int .i64 y2)], []⟩
theorem w_sameInts_f_eq (x0 : (List (Int))) (x1 : (List (Int))) : w_sameInts_f (x0, x1) = (cond (((List.length x0 : Int) != (List.length x1 : Int))) (some false) (w_sameInts_l0 x0 x1 0)) := by
  kernel_rfl
theorem w_sameInts_l0_eq (y0 : List (Int)) (y1 : List (Int)) (y2 : Int) : w_sameInts_l0 y0 y1 y2 = (cond ((decide (y2 < (List.length y0 : Int)))) (if (0 : Int) ≤ y2 ∧ y2 < (List.length y0 : Int) then (if (0 : Int) ≤ y2 ∧ y2 < (List.length y1 : Int) then (cond (((List.getD y0 (y2 : Int).toNat 0) != (List.getD y1 (y2 : Int).toNat 0))) (some false) (w_sameInts_l0 y0 y1 (IntKind.i64.wrap (y2 + 1)))) else none) else none) (some true)) := by
  refine (loopK_eq Try.prog (w_sameInts_E) (sub (Try.f13.body.getD .skip) [1, 1, 0, 1, 0, 0]) _ _).trans ?_
  kernel_rfl
mutual
def w_sameInts_l0_c : Nat → (List (Int)) → (List (Int)) → (Int) → Option ((Bool))
  | 0, _, _, _ => none
  | n + 1, y0, y1, y2 => (cond ((decide (y2 < (List.length y0 : Int)))) (if (0 : Int) ≤ y2 ∧ y2 < (List.length y0 : Int) then (if (0 : Int) ≤ y2 ∧ y2 < (List.length y1 : Int) then (cond (((List.getD y0 (y2 : Int).toNat 0) != (List.getD y1 (y2 : Int).toNat 0))) (some false) (w_sameInts_l0_c n y0 y1 (IntKind.i64.wrap (y2 + 1)))) else none) else none) (some true))
end
def w_sameInts_f_c (n : Nat) : ((List (Int))) × ((List (Int))) → Option ((Bool))
  | (x0, x1) => (cond (((List.length x0 : Int) != (List.length x1 : Int))) (some false) (w_sameInts_l0_c n x0 x1 0))
mutual
theorem w_sameInts_l0_c_le : (n : Nat) → (y0 : List (Int)) → (y1 : List (Int)) → (y2 : Int) → OLe (w_sameInts_l0_c n y0 y1 y2) (w_sameInts_l0 y0 y1 y2)
  | 0, _, _, _ => OLe.none _
  | n + 1, y0, y1, y2 => by
    rw [w_sameInts_l0_c, w_sameInts_l0_eq]
    repeat' first | with_reducible exact OLe.refl _ | with_reducible exact OLe.none _ | with_reducible apply w_sameInts_l0_c_le | with_reducible refine OLe.cond ?_ ?_ | with_reducible refine OLe.ite ?_ ?_ | with_reducible refine OLe.bind ?_ ?_ | intro _
end
theorem w_sameInts_f_c_le (n : Nat) (x : Ts w_sameInts_sig.pc) : OLe (w_sameInts_f_c n x) (w_sameInts_f x) := by
  obtain ⟨x0, x1⟩ := x
  rw [w_sameInts_f_c, w_sameInts_f_eq]
  repeat' first | with_reducible exact OLe.refl _ | with_reducible exact OLe.none _ | with_reducible apply w_sameInts_l0_c_le | with_reducible refine OLe.cond ?_ ?_ | with_reducible refine OLe.ite ?_ ?_ | with_reducible refine OLe.bind ?_ ?_ | intro _
theorem w_sameInts_ent : Entb Try.prog 13 := ⟨Try.f13, by kernel_rfl, by kernel_rfl, by kernel_rfl⟩
theorem w_sameInts_ok : CtrOk Try.prog 13 ⟨w_sameInts_sig, w_sameInts_f⟩ :=
  ctr_of (fn := Try.f13) (by kernel_rfl) (by kernel_rfl) (fun x : Ts w_sameInts_sig.pc => w_sameInts_E) (fun x => ⟨fn_none, clo_none⟩) (fun h => by cases h) follows_
end FN
set_option linter.unusedVariables false
namespace FN
open Go Go.Proofs
/-! loop.example/firingnets/laws.FnGridNet -/
@[reducible] def w_FnGridNet_sig : Sig := { ps := [none], pc := [.view .u8], rs := [none], rc := [.bool] }
noncomputable def w_FnGridNet_E : Env' := { fn := fun f => if f = 12 then some ⟨i_GridNet_sig, i_GridNet_f⟩ else if f = 13 then some ⟨w_sameInts_sig, w_sameInts_f⟩ else if f = 15 then some ⟨w_alive_sig, w_alive_f⟩ else if f = 21 then some ⟨s_DrawGridNet_sig, s_DrawGridNet_f⟩ else if f = 22 then some ⟨s_GridNet_sig, s_GridNet_f⟩ else if f = 23 then some ⟨i_DistancesFrom_sig, i_DistancesFrom_f⟩ else if f = 24 then some ⟨i_NetOk_sig, i_NetOk_f⟩ else none, ck := ckT, cuts := [], mine := fun i => false }
noncomputable def w_FnGridNet_f (x : Ts w_FnGridNet_sig.pc) : Option (Ts w_FnGridNet_sig.rc) := runFn Try.prog (w_FnGridNet_E) Try.f5 w_FnGridNet_sig x
theorem w_FnGridNet_f_eq (x0 : (List (Int))) : w_FnGridNet_f x0 = (cond ((decide (1048576 < (List.length x0 : Int)))) (some true) (Option.bind (s_DrawGridNet_f x0) fun r1 => (Option.bind (i_GridNet_f (r1.1, r1.2)) fun r2 => (Option.bind (s_GridNet_f (r1.1, r1.2)) fun r3 => (Option.bind (w_sameInts_f (r2, r3)) fun r4 => (cond ((!r4)) (some false) (cond (((List.length r2 : Int) == 0)) (Option.bind (w_alive_f ()) fun r5 => (some r5)) (Option.bind (i_DistancesFrom_f (r2, 1)) fun r6 => (Option.bind (i_GridNet_f (r1.2, r1.1)) fun r7 => (Option.bind (i_DistancesFrom_f (r7, 1)) fun r8 => (Option.bind (i_NetOk_f r2) fun r9 => (cond (r9) (cond (((List.length r6 : Int) == (IntKind.i64.wrap ((IntKind.i64.wrap ((IntKind.i64.wrap (r1.1 * r1.2)) - 1)) + 1)))) (cond (((List.length r8 : Int) == (IntKind.i64.wrap ((IntKind.i64.wrap ((IntKind.i64.wrap (r1.1 * r1.2)) - 1)) + 1)))) (if (0 : Int) ≤ (IntKind.i64.wrap ((IntKind.i64.wrap (r1.1 * r1.2)) - 1)) ∧ (IntKind.i64.wrap ((IntKind.i64.wrap (r1.1 * r1.2)) - 1)) < (List.length r6 : Int) then (cond (((List.getD r6 ((IntKind.i64.wrap ((IntKind.i64.wrap (r1.1 * r1.2)) - 1)) : Int).toNat 0) == (IntKind.i64.wrap ((IntKind.i64.wrap (r1.1 + r1.2)) - 2)))) (if (0 : Int) ≤ (IntKind.i64.wrap ((IntKind.i64.wrap (r1.1 * r1.2)) - 1)) ∧ (IntKind.i64.wrap ((IntKind.i64.wrap (r1.1 * r1.2)) - 1)) < (List.length r8 : Int) then (if (0 : Int) ≤ (IntKind.i64.wrap ((IntKind.i64.wrap (r1.1 * r1.2)) - 1)) ∧ (IntKind.i64.wrap ((IntKind.i64.wrap (r1.1 * r1.2)) - 1)) < (List.length r6 : Int) then (some ((List.getD r8 ((IntKind.i64.wrap ((IntKind.i64.wrap (r1.1 * r1.2)) - 1)) : Int).toNat 0) == (List.getD r6 ((IntKind.i64.wrap ((IntKind.i64.wrap (r1.1 * r1.2)) - 1)) : Int).toNat 0))) else none) else none) (some false)) else none) (some false)) (some false)) (some false))))))))))))) := by
  kernel_rfl
def w_FnGridNet_f_c (n : Nat) : ((List (Int))) → Option ((Bool))
  | x0 => (cond ((decide (1048576 < (List.length x0 : Int)))) (some true) (Option.bind (s_DrawGridNet_f_c n x0) fun r1 => (Option.bind (i_GridNet_f_c n (r1.1, r1.2)) fun r2 => (Option.bind (s_GridNet_f_c n (r1.1, r1.2)) fun r3 => (Option.bind (w_sameInts_f_c n (r2, r3)) fun r4 => (cond ((!r4)) (some false) (cond (((List.length r2 : Int) == 0)) (Option.bind (w_alive_f_c n ()) fun r5 => (some r5)) (Option.bind (i_DistancesFrom_f_c n (r2, 1)) fun r6 => (Option.bind (i_GridNet_f_c n (r1.2, r1.1)) fun r7 => (Option.bind (i_DistancesFrom_f_c n (r7, 1)) fun r8 => (Option.bind (i_NetOk_f_c n r2) fun r9 => (cond (r9) (cond (((List.length r6 : Int) == (IntKind.i64.wrap ((IntKind.i64.wrap ((IntKind.i64.wrap (r1.1 * r1.2)) - 1)) + 1)))) (cond (((List.length r8 : Int) == (IntKind.i64.wrap ((IntKind.i64.wrap ((IntKind.i64.wrap (r1.1 * r1.2)) - 1)) + 1)))) (if (0 : Int) ≤ (IntKind.i64.wrap ((IntKind.i64.wrap (r1.1 * r1.2)) - 1)) ∧ (IntKind.i64.wrap ((IntKind.i64.wrap (r1.1 * r1.2)) - 1)) < (List.length r6 : Int) then (cond (((List.getD r6 ((IntKind.i64.wrap ((IntKind.i64.wrap (r1.1 * r1.2)) - 1)) : Int).toNat 0) == (IntKind.i64.wrap ((IntKind.i64.wrap (r1.1 + r1.2)) - 2)))) (if (0 : Int) ≤ (IntKind.i64.wrap ((IntKind.i64.wrap (r1.1 * r1.2)) - 1)) ∧ (IntKind.i64.wrap ((IntKind.i64.wrap (r1.1 * r1.2)) - 1)) < (List.length r8 : Int) then (if (0 : Int) ≤ (IntKind.i64.wrap ((IntKind.i64.wrap (r1.1 * r1.2)) - 1)) ∧ (IntKind.i64.wrap ((IntKind.i64.wrap (r1.1 * r1.2)) - 1)) < (List.length r6 : Int) then (some ((List.getD r8 ((IntKind.i64.wrap ((IntKind.i64.wrap (r1.1 * r1.2)) - 1)) : Int).toNat 0) == (List.getD r6 ((IntKind.i64.wrap ((IntKind.i64.wrap (r1.1 * r1.2)) - 1)) : Int).toNat 0))) else none) else none) (some false)) else none) (some false)) (some false)) (some false)))))))))))))
theorem w_FnGridNet_f_c_le (n : Nat) (x : Ts w_FnGridNet_sig.pc) : OLe (w_FnGridNet_f_c n x) (w_FnGridNet_f x) := by
  rw [w_FnGridNet_f_c, w_FnGridNet_f_eq]
  repeat' first | with_reducible exact OLe.refl _ | with_reducible exact OLe.none _ | with_reducible apply i_GridNet_f_c_le | with_reducible apply w_sameInts_f_c_le | with_reducible apply w_alive_f_c_le | with_reducible apply s_DrawGridNet_f_c_le | with_reducible apply s_GridNet_f_c_le | with_reducible apply i_DistancesFrom_f_c_le | with_reducible apply i_NetOk_f_c_le | with_reducible refine OLe.cond ?_ ?_ | with_reducible refine OLe.ite ?_ ?_ | with_reducible refine OLe.bind ?_ ?_ | intro _
theorem w_FnGridNet_ent : Entb Try.prog 5 := ⟨Try.f5, by kernel_rfl, by kernel_rfl, by kernel_rfl⟩
theorem w_FnGridNet_ok : CtrOk Try.prog 5 ⟨w_FnGridNet_sig, w_FnGridNet_f⟩ :=
  ctr_of (fn := Try.f5) (by kernel_rfl) (by kernel_rfl) (fun x : Ts w_FnGridNet_sig.pc => w_FnGridNet_E) (fun x => ⟨(fn_cons ⟨i_GridNet_ok, i_GridNet_ent⟩ (fn_cons ⟨w_sameInts_ok, w_sameInts_ent⟩ (fn_cons ⟨w_alive_ok, w_alive_ent⟩ (fn_cons ⟨s_DrawGridNet_ok, s_DrawGridNet_ent⟩ (fn_cons ⟨s_GridNet_ok, s_GridNet_ent⟩ (fn_cons ⟨i_DistancesFrom_ok, i_DistancesFrom_ent⟩ (fn_cons ⟨i_NetOk_ok, i_NetOk_ent⟩ fn_none))))))), clo_none⟩) (fun h => by cases h) follows_
end FN
set_option linter.unusedVariables false
namespace FN
open Go Go.Proofs
/-! loop.example/firingnets/impl.BorderTour -/
@[reducible] def i_BorderTour_sig : Sig := { ps := [none, none], pc := [.int .i64, .int .i64], rs := [none], rc := [.row 3 .i64] }
noncomputable def i_BorderTour_E : Env' := { fn := fun f => if f = 32 then some ⟨i_gridOk_sig, i_gridOk_f⟩ else none, ck := ckT, cuts := [(5, [0, 1, 5, 23, 24]), (9, [0, 1, 5]), (10, [0, 1, 5, 7]), (13, [0, 1, 5]), (14, [0, 1, 5, 8]), (17, [0, 1, 5]), (18, [1, 5, 9])], mine := fun i => false }
noncomputable def i_BorderTour_f (x : Ts i_BorderTour_sig.pc) : Option (Ts i_BorderTour_sig.rc) := runFn Try.prog (i_BorderTour_E) Try.f26 i_BorderTour_sig x
noncomputable def i_BorderTour_l0 (y0 : Int) (y1 : Int) (y2 : Int) (y3 : Int) (y4 : List (Int)) : Option ((List (Int))) := from_ Try.prog (i_BorderTour_E) Try.f26 i_BorderTour_sig [1, 1, 1, 0, 1, 0] ⟨mkT 74 [(0, .int .i64 y0), (1, .int .i64 y1), (5, .own 0), (23, .int .i64 y2), (24, .int .i64 y3)], [some (.arr 3 true .i64 y4)]⟩
noncomputable def i_BorderTour_j1 (y0 : Int) (y1 : Int) (y2 : List (Int)) : Option ((List (Int))) := from_ Try.prog (i_BorderTour_E) Try.f26 i_BorderTour_sig [1, 1, 1, 1] ⟨mkT 74 [(0, .int .i64 y0), (1, .int .i64 y1), (5, .own 0)], [some (.arr 3 true .i64 y2)]⟩
noncomputable def i_BorderTour_l2 (y0 : Int) (y1 : Int) (y2 : Int) (y3 : List (Int)) : Option ((List (Int))) := from_ Try.prog (i_BorderTour_E) Try.f26 i_BorderTour_sig [1, 1, 1, 1, 0, 1, 0] ⟨mkT 74 [(0, .int .i64 y0), (1, .int .i64 y1), (5, .own 0), (7, .int .i64 y2)], [some (.arr 3 true .i64 y3)]⟩
noncomputable def i_BorderTour_j3 (y0 : Int) (y1 : Int) (y2 : List (Int)) : Option ((List (Int))) := from_ Try.prog (i_BorderTour_E) Try.f26 i_BorderTour_sig [1, 1, 1, 1, 1] ⟨mkT 74 [(0, .int .i64 y0), (1, .int .i64 y1), (5, .own 0)], [some (.arr 3 true .i64 y2)]⟩
noncomputable def i_BorderTour_l4 (y0 : Int) (y1 : Int) (y2 : Int) (y3 : List (Int)) : Option ((List (Int))) := from_ Try.prog (i_BorderTour_E) Try.f26 i_BorderTour_sig [1, 1, 1, 1, 1, 0, 1, 0] ⟨mkT 74 [(0, .int .i64 y0), (1, .int .i64 y1), (5, .own 0), (8, .int .i64 y2)], [some (.arr 3 true .i64 y3)]⟩
noncomputable def i_BorderTour_j5 (y0 : Int) (y1 : Int) (y2 : List (Int)) : Option ((List (Int))) := from_ Try.prog (i_BorderTour_E) Try.f26 i_BorderTour_sig [1, 1, 1, 1, 1, 1] ⟨mkT 74 [(0, .int .i64 y0), (1, .int .i64 y1), (5, .own 0)], [some (.arr 3 true .i64 y2)]⟩
noncomputable def i_BorderTour_l6 (y0 : Int) (y1 : Int) (y2 : List (Int)) : Option ((List (Int))) := from_ Try.prog (i_BorderTour_E) Try.f26 i_BorderTour_sig [1, 1, 1, 1, 1, 1, 0, 1, 0] ⟨mkT 74 [(1, .int .i64 y0), (5, .own 0), (9, .int .i64 y1)], [some (.arr 3 true .i64 y2)]⟩
theorem i_BorderTour_f_eq (x0 : (Int)) (x1 : (Int)) : i_BorderTour_f (x0, x1) = (Option.bind (i_gridOk_f (x0, x1)) fun r1 => (cond ((!r1)) (some []) (cond ((decide (x0 < 2))) (some []) (cond ((decide (x1 < 2))) (some []) (i_BorderTour_l0 x0 x1 x1 0 ([] : List (Int))))))) := by
  kernel_rfl
theorem i_BorderTour_l0_eq (y0 : Int) (y1 : Int) (y2 : Int) (y3 : Int) (y4 : List (Int)) : i_BorderTour_l0 y0 y1 y2 y3 y4 = (cond ((decide (y3 < y2))) (if (List.length y4 + List.length ([y3] : List (Int))) * 8 ≤ 140737488355328 then (i_BorderTour_l0 y0 y1 y2 (IntKind.i64.wrap (y3 + 1)) (y4 ++ ([y3] : List (Int)))) else none) (i_BorderTour_j1 y0 y1 y4)) := by
  refine (loopK_eq Try.prog (i_BorderTour_E) (sub (Try.f26.body.getD .skip) [1, 1, 1, 0, 1, 0, 0]) _ _).trans ?_
  kernel_rfl
theorem i_BorderTour_j1_eq (y0 : Int) (y1 : Int) (y2 : List (Int)) : i_BorderTour_j1 y0 y1 y2 = (i_BorderTour_l2 y0 y1 1 y2) := by
  kernel_rfl
theorem i_BorderTour_l2_eq (y0 : Int) (y1 : Int) (y2 : Int) (y3 : List (Int)) : i_BorderTour_l2 y0 y1 y2 y3 = (cond ((decide (y2 < y0))) (if (List.length y3 + List.length ([(IntKind.i64.wrap ((IntKind.i64.wrap ((IntKind.i64.wrap (y2 * y1)) + y1)) - 1))] : List (Int))) * 8 ≤ 140737488355328 then (i_BorderTour_l2 y0 y1 (IntKind.i64.wrap (y2 + 1)) (y3 ++ ([(IntKind.i64.wrap ((IntKind.i64.wrap ((IntKind.i64.wrap (y2 * y1)) + y1)) - 1))] : List (Int)))) else none) (i_BorderTour_j3 y0 y1 y3)) := by
  refine (loopK_eq Try.prog (i_BorderTour_E) (sub (Try.f26.body.getD .skip) [1, 1, 1, 1, 0, 1, 0, 0]) _ _).trans ?_
  kernel_rfl
theorem i_BorderTour_j3_eq (y0 : Int) (y1 : Int) (y2 : List (Int)) : i_BorderTour_j3 y0 y1 y2 = (i_BorderTour_l4 y0 y1 (IntKind.i64.wrap (y1 - 2)) y2) := by
  kernel_rfl
theorem i_BorderTour_l4_eq (y0 : Int) (y1 : Int) (y2 : Int) (y3 : List (Int)) : i_BorderTour_l4 y0 y1 y2 y3 = (cond ((decide (0 ≤ y2))) (if (List.length y3 + List.length ([(IntKind.i64.wrap ((IntKind.i64.wrap ((IntKind.i64.wrap (y0 - 1)) * y1)) + y2))] : List (Int))) * 8 ≤ 140737488355328 then (i_BorderTour_l4 y0 y1 (IntKind.i64.wrap (y2 - 1)) (y3 ++ ([(IntKind.i64.wrap ((IntKind.i64.wrap ((IntKind.i64.wrap (y0 - 1)) * y1)) + y2))] : List (Int)))) else none) (i_BorderTour_j5 y0 y1 y3)) := by
  refine (loopK_eq Try.prog (i_BorderTour_E) (sub (Try.f26.body.getD .skip) [1, 1, 1, 1, 1, 0, 1, 0, 0]) _ _).trans ?_
  kernel_rfl
theorem i_BorderTour_j5_eq (y0 : Int) (y1 : Int) (y2 : List (Int)) : i_BorderTour_j5 y0 y1 y2 = (i_BorderTour_l6 y1 (IntKind.i64.wrap (y0 - 2)) y2) := by
  kernel_rfl
theorem i_BorderTour_l6_eq (y0 : Int) (y1 : Int) (y2 : List (Int)) : i_BorderTour_l6 y0 y1 y2 = (cond ((decide (0 ≤ y1))) (if (List.length y2 + List.length ([(IntKind.i64.wrap (y1 * y0))] : List (Int))) * 8 ≤ 140737488355328 then (i_BorderTour_l6 y0 (IntKind.i64.wrap (y1 - 1)) (y2 ++ ([(IntKind.i64.wrap (y1 * y0))] : List (Int)))) else none) (some y2)) := by
  refine (loopK_eq Try.prog (i_BorderTour_E) (sub (Try.f26.body.getD .skip) [1, 1, 1, 1, 1, 1, 0, 1, 0, 0]) _ _).trans ?_
  kernel_rfl
mutual
def i_BorderTour_l0_c : Nat → (Int) → (Int) → (Int) → (Int) → (List (Int)) → Option ((List (Int)))
  | 0, _, _, _, _, _ => none
  | n + 1, y0, y1, y2, y3, y4 => (cond ((decide (y3 < y2))) (if (List.length y4 + List.length ([y3] : List (Int))) * 8 ≤ 140737488355328 then (i_BorderTour_l0_c n y0 y1 y2 (IntKind.i64.wrap (y3 + 1)) (y4 ++ ([y3] : List (Int)))) else none) (i_BorderTour_j1_c n y0 y1 y4))
def i_BorderTour_j1_c : Nat → (Int) → (Int) → (List (Int)) → Option ((List (Int)))
  | 0, _, _, _ => none
  | n + 1, y0, y1, y2 => (i_BorderTour_l2_c n y0 y1 1 y2)
def i_BorderTour_l2_c : Nat → (Int) → (Int) → (Int) → (List (Int)) → Option ((List (Int)))
  | 0, _, _, _, _ => none
  | n + 1, y0, y1, y2, y3 => (cond ((decide (y2 < y0))) (if (List.length y3 + List.length ([(IntKind.i64.wrap ((IntKind.i64.wrap ((IntKind.i64.wrap (y2 * y1)) + y1)) - 1))] : List (Int))) * 8 ≤ 140737488355328 then (i_BorderTour_l2_c n y0 y1 (IntKind.i64.wrap (y2 + 1)) (y3 ++ ([(IntKind.i64.wrap ((IntKind.i64.wrap ((IntKind.i64.wrap (y2 * y1)) + y1)) - 1))] : List (Int)))) else none) (i_BorderTour_j3_c n y0 y1 y3))
def i_BorderTour_j3_c : Nat → (Int) → (Int) → (List (Int)) → Option ((List (Int)))
  | 0, _, _, _ => none
  | n + 1, y0, y1, y2 => (i_BorderTour_l4_c n y0 y1 (IntKind.i64.wrap (y1 - 2)) y2)
def i_BorderTour_l4_c : Nat → (Int) → (Int) → (Int) → (List (Int)) → Option ((List (Int)))
  | 0, _, _, _, _ => none
  | n + 1, y0, y1, y2, y3 => (cond ((decide (0 ≤ y2))) (if (List.length y3 + List.length ([(IntKind.i64.wrap ((IntKind.i64.wrap ((IntKind.i64.wrap (y0 - 1)) * y1)) + y2))] : List (Int))) * 8 ≤ 140737488355328 then (i_BorderTour_l4_c n y0 y1 (IntKind.i64.wrap (y2 - 1)) (y3 ++ ([(IntKind.i64.wrap ((IntKind.i64.wrap ((IntKind.i64.wrap (y0 - 1)) * y1)) + y2))] : List (Int)))) else none) (i_BorderTour_j5_c n y0 y1 y3))
def i_BorderTour_j5_c : Nat → (Int) → (Int) → (List (Int)) → Option ((List (Int)))
  | 0, _, _, _ => none
  | n + 1, y0, y1, y2 => (i_BorderTour_l6_c n y1 (IntKind.i64.wrap (y0 - 2)) y2)
def i_BorderTour_l6_c : Nat → (Int) → (Int) → (List (Int)) → Option ((List (Int)))
  | 0, _, _, _ => none
  | n + 1, y0, y1, y2 => (cond ((decide (0 ≤ y1))) (if (List.length y2 + List.length ([(IntKind.i64.wrap (y1 * y0))] : List (Int))) * 8 ≤ 140737488355328 then (i_BorderTour_l6_c n y0 (IntKind.i64.wrap (y1 - 1)) (y2 ++ ([(IntKind.i64.wrap (y1 * y0))] : List (Int)))) else none) (some y2))
end
def i_BorderTour_f_c (n : Nat) : ((Int)) × ((Int)) → Option ((List (Int)))
  | (x0, x1) => (Option.bind (i_gridOk_f_c n (x0, x1)) fun r1 => (cond ((!r1)) (some []) (cond ((decide (x0 < 2))) (some []) (cond ((decide (x1 < 2))) (some []) (i_BorderTour_l0_c n x0 x1 x1 0 ([] : List (Int)))))))
mutual
theorem i_BorderTour_l0_c_le : (n : Nat) → (y0 : Int) → (y1 : Int) → (y2 : Int) → (y3 : Int) → (y4 : List (Int)) → OLe (i_BorderTour_l0_c n y0 y1 y2 y3 y4) (i_BorderTour_l0 y0 y1 y2 y3 y4)
  | 0, _, _, _, _, _ => OLe.none _
  | n + 1, y0, y1, y2, y3, y4 => by
    rw [i_BorderTour_l0_c, i_BorderTour_l0_eq]
    repeat' first | with_reducible exact OLe.refl _ | with_reducible exact OLe.none _ | with_reducible apply i_gridOk_f_c_le | with_reducible apply i_BorderTour_l0_c_le | with_reducible apply i_BorderTour_j1_c_le | with_reducible apply i_BorderTour_l2_c_le | with_reducible apply i_BorderTour_j3_c_le | with_reducible apply i_BorderTour_l4_c_le | with_reducible apply i_BorderTour_j5_c_le | with_reducible apply i_BorderTour_l6_c_le | with_reducible refine OLe.cond ?_ ?_ | with_reducible refine OLe.ite ?_ ?_ | with_reducible refine OLe.bind ?_ ?_ | intro _
theorem i_BorderTour_j1_c_le : (n : Nat) → (y0 : Int) → (y1 : Int) → (y2 : List (Int)) → OLe (i_BorderTour_j1_c n y0 y1 y2) (i_BorderTour_j1 y0 y1 y2)
  | 0, _, _, _ => OLe.none _
  | n + 1, y0, y1, y2 => by
    rw [i_BorderTour_j1_c, i_BorderTour_j1_eq]
    repeat' first | with_reducible exact OLe.refl _ | with_reducible exact OLe.none _ | with_reducible apply i_gridOk_f_c_le | with_reducible apply i_BorderTour_l0_c_le | with_reducible apply i_BorderTour_j1_c_le | with_reducible apply i_BorderTour_l2_c_le | with_reducible apply i_BorderTour_j3_c_le | with_reducible apply i_BorderTour_l4_c_le | with_reducible apply i_BorderTour_j5_c_le | with_reducible apply i_BorderTour_l6_c_le | with_reducible refine OLe.cond ?_ ?_ | with_reducible refine OLe.ite ?_ ?_ | with_reducible refine OLe.bind ?_ ?_ | intro _
theorem i_BorderTour_l2_c_le : (n : Nat) → (y0 : Int) → (y1 : Int) → (y2 : Int) → (y3 : List (Int)) → OLe (i_BorderTour_l2_c n y0 y1 y2 y3) (i_BorderTour_l2 y0 y1 y2 y3)
  | 0, _, _, _, _ => OLe.none _
  | n + 1, y0, y1, y2, y3 => by
    rw [i_BorderTour_l2_c, i_BorderTour_l2_eq]
    repeat' first | with_reducible exact OLe.refl _ | with_reducible exact OLe.none _ | with_reducible apply i_gridOk_f_c_le | with_reducible apply i_BorderTour_l0_c_le | with_reducible apply i_BorderTour_j1_c_le | with_reducible apply i_BorderTour_l2_c_le | with_reducible apply i_BorderTour_j3_c_le | with_reducible apply i_BorderTour_l4_c_le | with_reducible apply i_BorderTour_j5_c_le | with_reducible apply i_BorderTour_l6_c_le | with_reducible refine OLe.cond ?_ ?_ | with_reducible refine OLe.ite ?_ ?_ | with_reducible refine OLe.bind ?_ ?_ | intro _
theorem i_BorderTour_j3_c_le : (n : Nat) → (y0 : Int) → (y1 : Int) → (y2 : List (Int)) → OLe (i_BorderTour_j3_c n y0 y1 y2) (i_BorderTour_j3 y0 y1 y2)
  | 0, _, _, _ => OLe.none _
  | n + 1, y0, y1, y2 => by
    rw [i_BorderTour_j3_c, i_BorderTour_j3_eq]
    repeat' first | with_reducible exact OLe.refl _ | with_reducible exact OLe.none _ | with_reducible apply i_gridOk_f_c_le | with_reducible apply i_BorderTour_l0_c_le | with_reducible apply i_BorderTour_j1_c_le | with_reducible apply i_BorderTour_l2_c_le | with_reducible apply i_BorderTour_j3_c_le | with_reducible apply i_BorderTour_l4_c_le | with_reducible apply i_BorderTour_j5_c_le | with_reducible apply i_BorderTour_l6_c_le | with_reducible refine OLe.cond ?_ ?_ | with_reducible refine OLe.ite ?_ ?_ | with_reducible refine OLe.bind ?_ ?_ | intro _
theorem i_BorderTour_l4_c_le : (n : Nat) → (y0 : Int) → (y1 : Int) → (y2 : Int) → (y3 : List (Int)) → OLe (i_BorderTour_l4_c n y0 y1 y2 y3) (i_BorderTour_l4 y0 y1 y2 y3)
  | 0, _, _, _, _ => OLe.none _
  | n + 1, y0, y1, y2, y3 => by
    rw [i_BorderTour_l4_c, i_BorderTour_l4_eq]
    repeat' first | with_reducible exact OLe.refl _ | with_reducible exact OLe.none _ | with_reducible apply i_gridOk_f_c_le | with_reducible apply i_BorderTour_l0_c_le | with_reducible apply i_BorderTour_j1_c_le | with_reducible apply i_BorderTour_l2_c_le | with_reducible apply i_BorderTour_j3_c_le | with_reducible apply i_BorderTour_l4_c_le | with_reducible apply i_BorderTour_j5_c_le | with_reducible apply i_BorderTour_l6_c_le | with_reducible refine OLe.cond ?_ ?_ | with_reducible refine OLe.ite ?_ ?_ | with_reducible refine OLe.bind ?_ ?_ | intro _
theorem i_BorderTour_j5_c_le : (n : Nat) → (y0 : Int) → (y1 : Int) → (y2 : List (Int)) → OLe (i_BorderTour_j5_c n y0 y1 y2) (i_BorderTour_j5 y0 y1 y2)
  | 0, _, _, _ => OLe.none _
  | n + 1, y0, y1, y2 => by
    rw [i_BorderTour_j5_c, i_BorderTour_j5_eq]
    repeat' first | with_reducible exact OLe.refl _ | with_reducible exact OLe.none _ | with_reducible apply i_gridOk_f_c_le | with_reducible apply i_BorderTour_l0_c_le | with_reducible apply i_BorderTour_j1_c_le | with_reducible apply i_BorderTour_l2_c_le | with_reducible apply i_BorderTour_j3_c_le | with_reducible apply i_BorderTour_l4_c_le | with_reducible apply i_BorderTour_j5_c_le | with_reducible apply i_BorderTour_l6_c_le | with_reducible refine OLe.cond ?_ ?_ | with_reducible refine OLe.ite ?_ ?_ | with_reducible refine OLe.bind ?_ ?_ | intro _
theorem i_BorderTour_l6_c_le : (n : Nat) → (y0 : Int) → (y1 : Int) → (y2 : List (Int)) → OLe (i_BorderTour_l6_c n y0 y1 y2) (i_BorderTour_l6 y0 y1 y2)
  | 0, _, _, _ => OLe.none _
  | n + 1, y0, y1, y2 => by
    rw [i_BorderTour_l6_c, i_BorderTour_l6_eq]
    repeat' first | with_reducible exact OLe.refl _ | with_reducible exact OLe.none _ | with_reducible apply i_gridOk_f_c_le | with_reducible apply i_BorderTour_l0_c_le | with_reducible apply i_BorderTour_j1_c_le | with_reducible apply i_BorderTour_l2_c_le | with_reducible apply i_BorderTour_j3_c_le | with_reducible apply i_BorderTour_l4_c_le | with_reducible apply i_BorderTour_j5_c_le | with_reducible apply i_BorderTour_l6_c_le | with_reducible refine OLe.cond ?_ ?_ | with_reducible refine OLe.ite ?_ ?_ | with_reducible refine OLe.bind ?_ ?_ | intro _
end
theorem i_BorderTour_f_c_le (n : Nat) (x : Ts i_BorderTour_sig.pc) : OLe (i_BorderTour_f_c n x) (i_BorderTour_f x) := by
  obtain ⟨x0, x1⟩ := x
  rw [i_BorderTour_f_c, i_BorderTour_f_eq]
  repeat' first | with_reducible exact OLe.refl _ | with_reducible exact OLe.none _ | with_reducible apply i_gridOk_f_c_le | with_reducible apply i_BorderTour_l0_c_le | with_reducible apply i_BorderTour_j1_c_le | with_reducible apply i_BorderTour_l2_c_le | with_reducible apply i_BorderTour_j3_c_le | with_reducible apply i_BorderTour_l4_c_le | with_reducible apply i_BorderTour_j5_c_le | with_reducible apply i_BorderTour_l6_c_le | with_reducible refine OLe.cond ?_ ?_ | with_reducible refine OLe.ite ?_ ?_ | with_reducible refine OLe.bind ?_ ?_ | intro _
theorem i_BorderTour_ent : Entb Try.prog 26 := ⟨Try.f26, by kernel_rfl, by kernel_rfl, by kernel_rfl⟩
theorem i_BorderTour_ok : CtrOk Try.prog 26 ⟨i_BorderTour_sig, i_BorderTour_f⟩ :=
  ctr_of (fn := Try.f26) (by kernel_rfl) (by kernel_rfl) (fun x : Ts i_BorderTour_sig.pc => i_BorderTour_E) (fun x => ⟨(fn_cons ⟨i_gridOk_ok, i_gridOk_ent⟩ fn_none), clo_none⟩) (fun h => by cases h) follows_
end FN
set_option linter.unusedVariables false
namespace FN
open Go Go.Proofs
/-! loop.example/firingnets/impl.TourOk -/
@[reducible] def i_TourOk_sig : Sig := { ps := [none, none], pc := [.view .i64, .view .i64], rs := [none], rc := [.bool] }
noncomputable def i_TourOk_E : Env' := { fn := fun f => if f = 24 then some ⟨i_NetOk_sig, i_NetOk_f⟩ else none, ck := ckT, cuts := [(4, [0, 1, 20, 21, 22])], mine := fun i => false }
noncomputable def i_TourOk_f (x : Ts i_TourOk_sig.pc) : Option (Ts i_TourOk_sig.rc) := runFn Try.prog (i_TourOk_E) Try.f14 i_TourOk_sig x
noncomputable def i_TourOk_l0 (y0 : List (Int)) (y1 : List (Int)) (y2 : List (Int)) (y3 : Int) (y4 : Int) : Option ((Bool)) := from_ Try.prog (i_TourOk_E) Try.f14 i_TourOk_sig [1, 1, 0, 1, 0] ⟨mkT 54 [(0, .row false .i64 y0), (1, .row false .i64 y1), (20, .row false .i64 y2), (21, .int .i64 y3), (22, .int .i64 y4)], []⟩
theorem i_TourOk_f_eq (x0 : (List (Int))) (x1 : (List (Int))) : i_TourOk_f (x0, x1) = (Option.bind (i_NetOk_f x0) fun r1 => (cond ((!r1)) (some false) (cond ((decide ((List.length x1 : Int) < 1))) (some false) (cond ((decide (12 < (List.length x1 : Int)))) (some false) (i_TourOk_l0 x0 x1 x1 (List.length x1 : Int) 0))))) := by
  kernel_rfl
theorem i_TourOk_l0_eq (y0 : List (Int)) (y1 : List (Int)) (y2 : List (Int)) (y3 : Int) (y4 : Int) : i_TourOk_l0 y0 y1 y2 y3 y4 = (cond ((decide (y4 < y3))) (if (0 : Int) ≤ y4 ∧ y4 < (List.length y2 : Int) then (cond ((decide ((List.getD y2 (y4 : Int).toNat 0) < 0))) (some false) (cond ((decide ((List.length y0 : Int) ≤ (List.getD y2 (y4 : Int).toNat 0)))) (some false) (cond ((decide (0 < y4))) (if (0 : Int) ≤ (IntKind.i64.wrap (y4 - 1)) ∧ (IntKind.i64.wrap (y4 - 1)) < (List.length y1 : Int) then (if (0 : Int) ≤ (List.getD y1 ((IntKind.i64.wrap (y4 - 1)) : Int).toNat 0) ∧ (List.getD y1 ((IntKind.i64.wrap (y4 - 1)) : Int).toNat 0) < (List.length y0 : Int) then (if (List.getD y2 (y4 : Int).toNat 0) < 0 then none else (cond (((Go.bits .and IntKind.i64 (Int.fdiv (List.getD y0 ((List.getD y1 ((IntKind.i64.wrap (y4 - 1)) : Int).toNat 0) : Int).toNat 0) (2 ^ min ((List.getD y2 (y4 : Int).toNat 0) : Int).toNat IntKind.i64.bits)) 1) == 0)) (some false) (i_TourOk_l0 y0 y1 y2 y3 (IntKind.i64.wrap (y4 + 1))))) else none) else none) (i_TourOk_l0 y0 y1 y2 y3 (IntKind.i64.wrap (y4 + 1)))))) else none) (some true)) := by
  refine (loopK_eq Try.prog (i_TourOk_E) (sub (Try.f14.body.getD .skip) [1, 1, 0, 1, 0, 0]) _ _).trans ?_
  kernel_rfl
mutual
def i_TourOk_l0_c : Nat → (List (Int)) → (List (Int)) → (List (Int)) → (Int) → (Int) → Option ((Bool))
  | 0, _, _, _, _, _ => none
  | n + 1, y0, y1, y2, y3, y4 => (cond ((decide (y4 < y3))) (if (0 : Int) ≤ y4 ∧ y4 < (List.length y2 : Int) then (cond ((decide ((List.getD y2 (y4 : Int).toNat 0) < 0))) (some false) (cond ((decide ((List.length y0 : Int) ≤ (List.getD y2 (y4 : Int).toNat 0)))) (some false) (cond ((decide (0 < y4))) (if (0 : Int) ≤ (IntKind.i64.wrap (y4 - 1)) ∧ (IntKind.i64.wrap (y4 - 1)) < (List.length y1 : Int) then (if (0 : Int) ≤ (List.getD y1 ((IntKind.i64.wrap (y4 - 1)) : Int).toNat 0) ∧ (List.getD y1 ((IntKind.i64.wrap (y4 - 1)) : Int).toNat 0) < (List.length y0 : Int) then (if (List.getD y2 (y4 : Int).toNat 0) < 0 then none else (cond (((Go.bits .and IntKind.i64 (Int.fdiv (List.getD y0 ((List.getD y1 ((IntKind.i64.wrap (y4 - 1)) : Int).toNat 0) : Int).toNat 0) (2 ^ min ((List.getD y2 (y4 : Int).toNat 0) : Int).toNat IntKind.i64.bits)) 1) == 0)) (some false) (i_TourOk_l0_c n y0 y1 y2 y3 (IntKind.i64.wrap (y4 + 1))))) else none) else none) (i_TourOk_l0_c n y0 y1 y2 y3 (IntKind.i64.wrap (y4 + 1)))))) else none) (some true))
end
def i_TourOk_f_c (n : Nat) : ((List (Int))) × ((List (Int))) → Option ((Bool))
  | (x0, x1) => (Option.bind (i_NetOk_f_c n x0) fun r1 => (cond ((!r1)) (some false) (cond ((decide ((List.length x1 : Int) < 1))) (some false) (cond ((decide (12 < (List.length x1 : Int)))) (some false) (i_TourOk_l0_c n x0 x1 x1 (List.length x1 : Int) 0)))))
mutual
theorem i_TourOk_l0_c_le : (n : Nat) → (y0 : List (Int)) → (y1 : List (Int)) → (y2 : List (Int)) → (y3 : Int) → (y4 : Int) → OLe (i_TourOk_l0_c n y0 y1 y2 y3 y4) (i_TourOk_l0 y0 y1 y2 y3 y4)
  | 0, _, _, _, _, _ => OLe.none _
  | n + 1, y0, y1, y2, y3, y4 => by
    rw [i_TourOk_l0_c, i_TourOk_l0_eq]
    repeat' first | with_reducible exact OLe.refl _ | with_reducible exact OLe.none _ | with_reducible apply i_NetOk_f_c_le | with_reducible apply i_TourOk_l0_c_le | with_reducible refine OLe.cond ?_ ?_ | with_reducible refine OLe.ite ?_ ?_ | with_reducible refine OLe.bind ?_ ?_ | intro _
end
theorem i_TourOk_f_c_le (n : Nat) (x : Ts i_TourOk_sig.pc) : OLe (i_TourOk_f_c n x) (i_TourOk_f x) := by
  obtain ⟨x0, x1⟩ := x
  rw [i_TourOk_f_c, i_TourOk_f_eq]
  repeat' first | with_reducible exact OLe.refl _ | with_reducible exact OLe.none _ | with_reducible apply i_NetOk_f_c_le | with_reducible apply i_TourOk_l0_c_le | with_reducible refine OLe.cond ?_ ?_ | with_reducible refine OLe.ite ?_ ?_ | with_reducible refine OLe.bind ?_ ?_ | intro _
theorem i_TourOk_ent : Entb Try.prog 14 := ⟨Try.f14, by kernel_rfl, by kernel_rfl, by kernel_rfl⟩
theorem i_TourOk_ok : CtrOk Try.prog 14 ⟨i_TourOk_sig, i_TourOk_f⟩ :=
  ctr_of (fn := Try.f14) (by kernel_rfl) (by kernel_rfl) (fun x : Ts i_TourOk_sig.pc => i_TourOk_E) (fun x => ⟨(fn_cons ⟨i_NetOk_ok, i_NetOk_ent⟩ fn_none), clo_none⟩) (fun h => by cases h) follows_
end FN
set_option linter.unusedVariables false
namespace FN
open Go Go.Proofs
/-! loop.example/firingnets/spec.BorderTour -/
@[reducible] def s_BorderTour_sig : Sig := { ps := [none, none], pc := [.int .i64, .int .i64], rs := [none], rc := [.row 3 .i64] }
noncomputable def s_BorderTour_E : Env' := { fn := fun f => if f = 33 then some ⟨s_l12Ok_sig, s_l12Ok_f⟩ else none, ck := ckT, cuts := [(5, [0, 1, 5, 6]), (8, [0, 1, 5]), (9, [0, 1, 5, 7]), (12, [0, 1, 5]), (13, [0, 1, 5, 8]), (16, [0, 1, 5]), (17, [1, 5, 9])], mine := fun i => false }
noncomputable def s_BorderTour_f (x : Ts s_BorderTour_sig.pc) : Option (Ts s_BorderTour_sig.rc) := runFn Try.prog (s_BorderTour_E) Try.f27 s_BorderTour_sig x
noncomputable def s_BorderTour_l0 (y0 : Int) (y1 : Int) (y2 : Int) (y3 : List (Int)) : Option ((List (Int))) := from_ Try.prog (s_BorderTour_E) Try.f27 s_BorderTour_sig [1, 1, 1, 0, 1, 0] ⟨mkT 75 [(0, .int .i64 y0), (1, .int .i64 y1), (5, .own 0), (6, .int .i64 y2)], [some (.arr 3 true .i64 y3)]⟩
noncomputable def s_BorderTour_j1 (y0 : Int) (y1 : Int) (y2 : List (Int)) : Option ((List (Int))) := from_ Try.prog (s_BorderTour_E) Try.f27 s_BorderTour_sig [1, 1, 1, 1] ⟨mkT 75 [(0, .int .i64 y0), (1, .int .i64 y1), (5, .own 0)], [some (.arr 3 true .i64 y2)]⟩
noncomputable def s_BorderTour_l2 (y0 : Int) (y1 : Int) (y2 : Int) (y3 : List (Int)) : Option ((List (Int))) := from_ Try.prog (s_BorderTour_E) Try.f27 s_BorderTour_sig [1, 1, 1, 1, 0, 1, 0] ⟨mkT 75 [(0, .int .i64 y0), (1, .int .i64 y1), (5, .own 0), (7, .int .i64 y2)], [some (.arr 3 true .i64 y3)]⟩
noncomputable def s_BorderTour_j3 (y0 : Int) (y1 : Int) (y2 : List (Int)) : Option ((List (Int))) := from_ Try.prog (s_BorderTour_E) Try.f27 s_BorderTour_sig [1, 1, 1, 1, 1] ⟨mkT 75 [(0, .int .i64 y0), (1, .int .i64 y1), (5, .own 0)], [some (.arr 3 true .i64 y2)]⟩
noncomputable def s_BorderTour_l4 (y0 : Int) (y1 : Int) (y2 : Int) (y3 : List (Int)) : Option ((List (Int))) := from_ Try.prog (s_BorderTour_E) Try.f27 s_BorderTour_sig [1, 1, 1, 1, 1, 0, 1, 0] ⟨mkT 75 [(0, .int .i64 y0), (1, .int .i64 y1), (5, .own 0), (8, .int .i64 y2)], [some (.arr 3 true .i64 y3)]⟩
noncomputable def s_BorderTour_j5 (y0 : Int) (y1 : Int) (y2 : List (Int)) : Option ((List (Int))) := from_ Try.prog (s_BorderTour_E) Try.f27 s_BorderTour_sig [1, 1, 1, 1, 1, 1] ⟨mkT 75 [(0, .int .i64 y0), (1, .int .i64 y1), (5, .own 0)], [some (.arr 3 true .i64 y2)]⟩
noncomputable def s_BorderTour_l6 (y0 : Int) (y1 : Int) (y2 : List (Int)) : Option ((List (Int))) := from_ Try.prog (s_BorderTour_E) Try.f27 s_BorderTour_sig [1, 1, 1, 1, 1, 1, 0, 1, 0] ⟨mkT 75 [(1, .int .i64 y0), (5, .own 0), (9, .int .i64 y1)], [some (.arr 3 true .i64 y2)]⟩
theorem s_BorderTour_f_eq (x0 : (Int)) (x1 : (Int)) : s_BorderTour_f (x0, x1) = (Option.bind (s_l12Ok_f (x0, x1)) fun r1 => (cond ((!r1)) (some ([] : List (Int))) (cond ((decide (x0 < 2))) (some ([] : List (Int))) (cond ((decide (x1 < 2))) (some ([] : List (Int))) (s_BorderTour_l0 x0 x1 0 ([] : List (Int))))))) := by
  kernel_rfl
theorem s_BorderTour_l0_eq (y0 : Int) (y1 : Int) (y2 : Int) (y3 : List (Int)) : s_BorderTour_l0 y0 y1 y2 y3 = (cond ((decide (y2 < y1))) (if (List.length y3 + List.length ([y2] : List (Int))) * 8 ≤ 140737488355328 then (s_BorderTour_l0 y0 y1 (IntKind.i64.wrap (y2 + 1)) (y3 ++ ([y2] : List (Int)))) else none) (s_BorderTour_j1 y0 y1 y3)) := by
  refine (loopK_eq Try.prog (s_BorderTour_E) (sub (Try.f27.body.getD .skip) [1, 1, 1, 0, 1, 0, 0]) _ _).trans ?_
  kernel_rfl
theorem s_BorderTour_j1_eq (y0 : Int) (y1 : Int) (y2 : List (Int)) : s_BorderTour_j1 y0 y1 y2 = (s_BorderTour_l2 y0 y1 1 y2) := by
  kernel_rfl
theorem s_BorderTour_l2_eq (y0 : Int) (y1 : Int) (y2 : Int) (y3 : List (Int)) : s_BorderTour_l2 y0 y1 y2 y3 = (cond ((decide (y2 < y0))) (if (List.length y3 + List.length ([(IntKind.i64.wrap ((IntKind.i64.wrap ((IntKind.i64.wrap (y2 * y1)) + y1)) - 1))] : List (Int))) * 8 ≤ 140737488355328 then (s_BorderTour_l2 y0 y1 (IntKind.i64.wrap (y2 + 1)) (y3 ++ ([(IntKind.i64.wrap ((IntKind.i64.wrap ((IntKind.i64.wrap (y2 * y1)) + y1)) - 1))] : List (Int)))) else none) (s_BorderTour_j3 y0 y1 y3)) := by
  refine (loopK_eq Try.prog (s_BorderTour_E) (sub (Try.f27.body.getD .skip) [1, 1, 1, 1, 0, 1, 0, 0]) _ _).trans ?_
  kernel_rfl
theorem s_BorderTour_j3_eq (y0 : Int) (y1 : Int) (y2 : List (Int)) : s_BorderTour_j3 y0 y1 y2 = (s_BorderTour_l4 y0 y1 (IntKind.i64.wrap (y1 - 2)) y2) := by
  kernel_rfl
theorem s_BorderTour_l4_eq (y0 : Int) (y1 : Int) (y2 : Int) (y3 : List (Int)) : s_BorderTour_l4 y0 y1 y2 y3 = (cond ((decide (0 ≤ y2))) (if (List.length y3 + List.length ([(IntKind.i64.wrap ((IntKind.i64.wrap ((IntKind.i64.wrap (y0 - 1)) * y1)) + y2))] : List (Int))) * 8 ≤ 140737488355328 then (s_BorderTour_l4 y0 y1 (IntKind.i64.wrap (y2 - 1)) (y3 ++ ([(IntKind.i64.wrap ((IntKind.i64.wrap ((IntKind.i64.wrap (y0 - 1)) * y1)) + y2))] : List (Int)))) else none) (s_BorderTour_j5 y0 y1 y3)) := by
  refine (loopK_eq Try.prog (s_BorderTour_E) (sub (Try.f27.body.getD .skip) [1, 1, 1, 1, 1, 0, 1, 0, 0]) _ _).trans ?_
  kernel_rfl
theorem s_BorderTour_j5_eq (y0 : Int) (y1 : Int) (y2 : List (Int)) : s_BorderTour_j5 y0 y1 y2 = (s_BorderTour_l6 y1 (IntKind.i64.wrap (y0 - 2)) y2) := by
  kernel_rfl
theorem s_BorderTour_l6_eq (y0 : Int) (y1 : Int) (y2 : List (Int)) : s_BorderTour_l6 y0 y1 y2 = (cond ((decide (0 ≤ y1))) (if (List.length y2 + List.length ([(IntKind.i64.wrap (y1 * y0))] : List (Int))) * 8 ≤ 140737488355328 then (s_BorderTour_l6 y0 (IntKind.i64.wrap (y1 - 1)) (y2 ++ ([(IntKind.i64.wrap (y1 * y0))] : List (Int)))) else none) (some y2)) := by
  refine (loopK_eq Try.prog (s_BorderTour_E) (sub (Try.f27.body.getD .skip) [1, 1, 1, 1, 1, 1, 0, 1, 0, 0]) _ _).trans ?_
  kernel_rfl
mutual
def s_BorderTour_l0_c : Nat → (Int) → (Int) → (Int) → (List (Int)) → Option ((List (Int)))
  | 0, _, _, _, _ => none
  | n + 1, y0, y1, y2, y3 => (cond ((decide (y2 < y1))) (if (List.length y3 + List.length ([y2] : List (Int))) * 8 ≤ 140737488355328 then (s_BorderTour_l0_c n y0 y1 (IntKind.i64.wrap (y2 + 1)) (y3 ++ ([y2] : List (Int)))) else none) (s_BorderTour_j1_c n y0 y1 y3))
def s_BorderTour_j1_c : Nat → (Int) → (Int) → (List (Int)) → Option ((List (Int)))
  | 0, _, _, _ => none
  | n + 1, y0, y1, y2 => (s_BorderTour_l2_c n y0 y1 1 y2)
def s_BorderTour_l2_c : Nat → (Int) → (Int) → (Int) → (List (Int)) → Option ((List (Int)))
  | 0, _, _, _, _ => none
  | n + 1, y0, y1, y2, y3 => (cond ((decide (y2 < y0))) (if (List.length y3 + List.length ([(IntKind.i64.wrap ((IntKind.i64.wrap ((IntKind.i64.wrap (y2 * y1)) + y1)) - 1))] : List (Int))) * 8 ≤ 140737488355328 then (s_BorderTour_l2_c n y0 y1 (IntKind.i64.wrap (y2 + 1)) (y3 ++ ([(IntKind.i64.wrap ((IntKind.i64.wrap ((IntKind.i64.wrap (y2 * y1)) + y1)) - 1))] : List (Int)))) else none) (s_BorderTour_j3_c n y0 y1 y3))
def s_BorderTour_j3_c : Nat → (Int) → (Int) → (List (Int)) → Option ((List (Int)))
  | 0, _, _, _ => none
  | n + 1, y0, y1, y2 => (s_BorderTour_l4_c n y0 y1 (IntKind.i64.wrap (y1 - 2)) y2)
def s_BorderTour_l4_c : Nat → (Int) → (Int) → (Int) → (List (Int)) → Option ((List (Int)))
  | 0, _, _, _, _ => none
  | n + 1, y0, y1, y2, y3 => (cond ((decide (0 ≤ y2))) (if (List.length y3 + List.length ([(IntKind.i64.wrap ((IntKind.i64.wrap ((IntKind.i64.wrap (y0 - 1)) * y1)) + y2))] : List (Int))) * 8 ≤ 140737488355328 then (s_BorderTour_l4_c n y0 y1 (IntKind.i64.wrap (y2 - 1)) (y3 ++ ([(IntKind.i64.wrap ((IntKind.i64.wrap ((IntKind.i64.wrap (y0 - 1)) * y1)) + y2))] : List (Int)))) else none) (s_BorderTour_j5_c n y0 y1 y3))
def s_BorderTour_j5_c : Nat → (Int) → (Int) → (List (Int)) → Option ((List (Int)))
  | 0, _, _, _ => none
  | n + 1, y0, y1, y2 => (s_BorderTour_l6_c n y1 (IntKind.i64.wrap (y0 - 2)) y2)
def s_BorderTour_l6_c : Nat → (Int) → (Int) → (List (Int)) → Option ((List (Int)))
  | 0, _, _, _ => none
  | n + 1, y0, y1, y2 => (cond ((decide (0 ≤ y1))) (if (List.length y2 + List.length ([(IntKind.i64.wrap (y1 * y0))] : List (Int))) * 8 ≤ 140737488355328 then (s_BorderTour_l6_c n y0 (IntKind.i64.wrap (y1 - 1)) (y2 ++ ([(IntKind.i64.wrap (y1 * y0))] : List (Int)))) else none) (some y2))
end
def s_BorderTour_f_c (n : Nat) : ((Int)) × ((Int)) → Option ((List (Int)))
  | (x0, x1) => (Option.bind (s_l12Ok_f_c n (x0, x1)) fun r1 => (cond ((!r1)) (some ([] : List (Int))) (cond ((decide (x0 < 2))) (some ([] : List (Int))) (cond ((decide (x1 < 2))) (some ([] : List (Int))) (s_BorderTour_l0_c n x0 x1 0 ([] : List (Int)))))))
mutual
theorem s_BorderTour_l0_c_le : (n : Nat) → (y0 : Int) → (y1 : Int) → (y2 : Int) → (y3 : List (Int)) → OLe (s_BorderTour_l0_c n y0 y1 y2 y3) (s_BorderTour_l0 y0 y1 y2 y3)
  | 0, _, _, _, _ => OLe.none _
  | n + 1, y0, y1, y2, y3 => by
    rw [s_BorderTour_l0_c, s_BorderTour_l0_eq]
    repeat' first | with_reducible exact OLe.refl _ | with_reducible exact OLe.none _ | with_reducible apply s_l12Ok_f_c_le | with_reducible apply s_BorderTour_l0_c_le | with_reducible apply s_BorderTour_j1_c_le | with_reducible apply s_BorderTour_l2_c_le | with_reducible apply s_BorderTour_j3_c_le | with_reducible apply s_BorderTour_l4_c_le | with_reducible apply s_BorderTour_j5_c_le | with_reducible apply s_BorderTour_l6_c_le | with_reducible refine OLe.cond ?_ ?_ | with_reducible refine OLe.ite ?_ ?_ | with_reducible refine OLe.bind ?_ ?_ | intro _
theorem s_BorderTour_j1_c_le : (n : Nat) → (y0 : Int) → (y1 : Int) → (y2 : List (Int)) → OLe (s_BorderTour_j1_c n y0 y1 y2) (s_BorderTour_j1 y0 y1 y2)
  | 0, _, _, _ => OLe.none _
  | n + 1, y0, y1, y2 => by
    rw [s_BorderTour_j1_c, s_BorderTour_j1_eq]
    repeat' first | with_reducible exact OLe.refl _ | with_reducible exact OLe.none _ | with_reducible apply s_l12Ok_f_c_le | with_reducible apply s_BorderTour_l0_c_le | with_reducible apply s_BorderTour_j1_c_le | with_reducible apply s_BorderTour_l2_c_le | with_reducible apply s_BorderTour_j3_c_le | with_reducible apply s_BorderTour_l4_c_le | with_reducible apply s_BorderTour_j5_c_le | with_reducible apply s_BorderTour_l6_c_le | with_reducible refine OLe.cond ?_ ?_ | with_reducible refine OLe.ite ?_ ?_ | with_reducible refine OLe.bind ?_ ?_ | intro _
theorem s_BorderTour_l2_c_le : (n : Nat) → (y0 : Int) → (y1 : Int) → (y2 : Int) → (y3 : List (Int)) → OLe (s_BorderTour_l2_c n y0 y1 y2 y3) (s_BorderTour_l2 y0 y1 y2 y3)
  | 0, _, _, _, _ => OLe.none _
  | n + 1, y0, y1, y2, y3 => by
    rw [s_BorderTour_l2_c, s_BorderTour_l2_eq]
    repeat' first | with_reducible exact OLe.refl _ | with_reducible exact OLe.none _ | with_reducible apply s_l12Ok_f_c_le | with_reducible apply s_BorderTour_l0_c_le | with_reducible apply s_BorderTour_j1_c_le | with_reducible apply s_BorderTour_l2_c_le | with_reducible apply s_BorderTour_j3_c_le | with_reducible apply s_BorderTour_l4_c_le | with_reducible apply s_BorderTour_j5_c_le | with_reducible apply s_BorderTour_l6_c_le | with_reducible refine OLe.cond ?_ ?_ | with_reducible refine OLe.ite ?_ ?_ | with_reducible refine OLe.bind ?_ ?_ | intro _
theorem s_BorderTour_j3_c_le : (n : Nat) → (y0 : Int) → (y1 : Int) → (y2 : List (Int)) → OLe (s_BorderTour_j3_c n y0 y1 y2) (s_BorderTour_j3 y0 y1 y2)
  | 0, _, _, _ => OLe.none _
  | n + 1, y0, y1, y2 => by
    rw [s_BorderTour_j3_c, s_BorderTour_j3_eq]
    repeat' first | with_reducible exact OLe.refl _ | with_reducible exact OLe.none _ | with_reducible apply s_l12Ok_f_c_le | with_reducible apply s_BorderTour_l0_c_le | with_reducible apply s_BorderTour_j1_c_le | with_reducible apply s_BorderTour_l2_c_le | with_reducible apply s_BorderTour_j3_c_le | with_reducible apply s_BorderTour_l4_c_le | with_reducible apply s_BorderTour_j5_c_le | with_reducible apply s_BorderTour_l6_c_le | with_reducible refine OLe.cond ?_ ?_ | with_reducible refine OLe.ite ?_ ?_ | with_reducible refine OLe.bind ?_ ?_ | intro _
theorem s_BorderTour_l4_c_le : (n : Nat) → (y0 : Int) → (y1 : Int) → (y2 : Int) → (y3 : List (Int)) → OLe (s_BorderTour_l4_c n y0 y1 y2 y3) (s_BorderTour_l4 y0 y1 y2 y3)
  | 0, _, _, _, _ => OLe.none _
  | n + 1, y0, y1, y2, y3 => by
    rw [s_BorderTour_l4_c, s_BorderTour_l4_eq]
    repeat' first | with_reducible exact OLe.refl _ | with_reducible exact OLe.none _ | with_reducible apply s_l12Ok_f_c_le | with_reducible apply s_BorderTour_l0_c_le | with_reducible apply s_BorderTour_j1_c_le | with_reducible apply s_BorderTour_l2_c_le | with_reducible apply s_BorderTour_j3_c_le | with_reducible apply s_BorderTour_l4_c_le | with_reducible apply s_BorderTour_j5_c_le | with_reducible apply s_BorderTour_l6_c_le | with_reducible refine OLe.cond ?_ ?_ | with_reducible refine OLe.ite ?_ ?_ | with_reducible refine OLe.bind ?_ ?_ | intro _
theorem s_BorderTour_j5_c_le : (n : Nat) → (y0 : Int) → (y1 : Int) → (y2 : List (Int)) → OLe (s_BorderTour_j5_c n y0 y1 y2) (s_BorderTour_j5 y0 y1 y2)
  | 0, _, _, _ => OLe.none _
  | n + 1, y0, y1, y2 => by
    rw [s_BorderTour_j5_c, s_BorderTour_j5_eq]
    repeat' first | with_reducible exact OLe.refl _ | with_reducible exact OLe.none _ | with_reducible apply s_l12Ok_f_c_le | with_reducible apply s_BorderTour_l0_c_le | with_reducible apply s_BorderTour_j1_c_le | with_reducible apply s_BorderTour_l2_c_le | with_reducible apply s_BorderTour_j3_c_le | with_reducible apply s_BorderTour_l4_c_le | with_reducible apply s_BorderTour_j5_c_le | with_reducible apply s_BorderTour_l6_c_le | with_reducible refine OLe.cond ?_ ?_ | with_reducible refine OLe.ite ?_ ?_ | with_reducible refine OLe.bind ?_ ?_ | intro _
theorem s_BorderTour_l6_c_le : (n : Nat) → (y0 : Int) → (y1 : Int) → (y2 : List (Int)) → OLe (s_BorderTour_l6_c n y0 y1 y2) (s_BorderTour_l6 y0 y1 y2)
  | 0, _, _, _ => OLe.none _
  | n + 1, y0, y1, y2 => by
    rw [s_BorderTour_l6_c, s_BorderTour_l6_eq]
    repeat' first | with_reducible exact OLe.refl _ | with_reducible exact OLe.none _ | with_reducible apply s_l12Ok_f_c_le | with_reducible apply s_BorderTour_l0_c_le | with_reducible apply s_BorderTour_j1_c_le | with_reducible apply s_BorderTour_l2_c_le | with_reducible apply s_BorderTour_j3_c_le | with_reducible apply s_BorderTour_l4_c_le | with_reducible apply s_BorderTour_j5_c_le | with_reducible apply s_BorderTour_l6_c_le | with_reducible refine OLe.cond ?_ ?_ | with_reducible refine OLe.ite ?_ ?_ | with_reducible refine OLe.bind ?_ ?_ | intro _
end
theorem s_BorderTour_f_c_le (n : Nat) (x : Ts s_BorderTour_sig.pc) : OLe (s_BorderTour_f_c n x) (s_BorderTour_f x) := by
  obtain ⟨x0, x1⟩ := x
  rw [s_BorderTour_f_c, s_BorderTour_f_eq]
  repeat' first | with_reducible exact OLe.refl _ | with_reducible exact OLe.none _ | with_reducible apply s_l12Ok_f_c_le | with_reducible apply s_BorderTour_l0_c_le | with_reducible apply s_BorderTour_j1_c_le | with_reducible apply s_BorderTour_l2_c_le | with_reducible apply s_BorderTour_j3_c_le | with_reducible apply s_BorderTour_l4_c_le | with_reducible apply s_BorderTour_j5_c_le | with_reducible apply s_BorderTour_l6_c_le | with_reducible refine OLe.cond ?_ ?_ | with_reducible refine OLe.ite ?_ ?_ | with_reducible refine OLe.bind ?_ ?_ | intro _
theorem s_BorderTour_ent : Entb Try.prog 27 := ⟨Try.f27, by kernel_rfl, by kernel_rfl, by kernel_rfl⟩
theorem s_BorderTour_ok : CtrOk Try.prog 27 ⟨s_BorderTour_sig, s_BorderTour_f⟩ :=
  ctr_of (fn := Try.f27) (by kernel_rfl) (by kernel_rfl) (fun x : Ts s_BorderTour_sig.pc => s_BorderTour_E) (fun x => ⟨(fn_cons ⟨s_l12Ok_ok, s_l12Ok_ent⟩ fn_none), clo_none⟩) (fun h => by cases h) follows_
end FN
set_option linter.unusedVariables false
namespace FN
open Go Go.Proofs
/-! loop.example/firingnets/spec.DrawBorderTour -/
@[reducible] def s_DrawBorderTour_sig : Sig := { ps := [none], pc := [.view .u8], rs := [none, none], rc := [.int .i64, .int .i64] }
noncomputable def s_DrawBorderTour_E : Env' := { fn := fun f => if f = 30 then some ⟨s_l20Grid_sig, s_l20Grid_f⟩ else if f = 31 then some ⟨s_l20Open_sig, s_l20Open_f⟩ else none, ck := ckT, cuts := [], mine := fun i => false }
noncomputable def s_DrawBorderTour_f (x : Ts s_DrawBorderTour_sig.pc) : Option (Ts s_DrawBorderTour_sig.rc) := runFn Try.prog (s_DrawBorderTour_E) Try.f25 s_DrawBorderTour_sig x
theorem s_DrawBorderTour_f_eq (x0 : (List (Int))) : s_DrawBorderTour_f x0 = (Option.bind (s_l20Open_f x0) fun r1 => (Option.bind (s_l20Grid_f (r1.1, r1.2)) fun r2 => (some (r2.1, r2.2.1)))) := by
  kernel_rfl
def s_DrawBorderTour_f_c (n : Nat) : ((List (Int))) → Option ((Int) × (Int))
  | x0 => (Option.bind (s_l20Open_f_c n x0) fun r1 => (Option.bind (s_l20Grid_f_c n (r1.1, r1.2)) fun r2 => (some (r2.1, r2.2.1))))
theorem s_DrawBorderTour_f_c_le (n : Nat) (x : Ts s_DrawBorderTour_sig.pc) : OLe (s_DrawBorderTour_f_c n x) (s_DrawBorderTour_f x) := by
  rw [s_DrawBorderTour_f_c, s_DrawBorderTour_f_eq]
  repeat' first | with_reducible exact OLe.refl _ | with_reducible exact OLe.none _ | with_reducible apply s_l20Grid_f_c_le | with_reducible apply s_l20Open_f_c_le | with_reducible refine OLe.cond ?_ ?_ | with_reducible refine OLe.ite ?_ ?_ | with_reducible refine OLe.bind ?_ ?_ | intro _
theorem s_DrawBorderTour_ent : Entb Try.prog 25 := ⟨Try.f25, by kernel_rfl, by kernel_rfl, by kernel_rfl⟩
theorem s_DrawBorderTour_ok : CtrOk Try.prog 25 ⟨s_DrawBorderTour_sig, s_DrawBorderTour_f⟩ :=
  ctr_of (fn := Try.f25) (by kernel_rfl) (by kernel_rfl) (fun x : Ts s_DrawBorderTour_sig.pc => s_DrawBorderTour_E) (fun x => ⟨(fn_cons ⟨s_l20Grid_ok, s_l20Grid_ent⟩ (fn_cons ⟨s_l20Open_ok, s_l20Open_ent⟩ fn_none)), clo_none⟩) (fun h => by cases h) follows_
end FN
set_option linter.unusedVariables false
namespace FN
open Go Go.Proofs
/-! loop.example/firingnets/laws.FnBorderTour -/
@[reducible] def w_FnBorderTour_sig : Sig := { ps := [none], pc := [.view .u8], rs := [none], rc := [.bool] }
noncomputable def w_FnBorderTour_E : Env' := { fn := fun f => if f = 12 then some ⟨i_GridNet_sig, i_GridNet_f⟩ else if f = 13 then some ⟨w_sameInts_sig, w_sameInts_f⟩ else if f = 14 then some ⟨i_TourOk_sig, i_TourOk_f⟩ else if f = 15 then some ⟨w_alive_sig, w_alive_f⟩ else if f = 25 then some ⟨s_DrawBorderTour_sig, s_DrawBorderTour_f⟩ else if f = 26 then some ⟨i_BorderTour_sig, i_BorderTour_f⟩ else if f = 27 then some ⟨s_BorderTour_sig, s_BorderTour_f⟩ else none, ck := ckT, cuts := [], mine := fun i => false }
noncomputable def w_FnBorderTour_f (x : Ts w_FnBorderTour_sig.pc) : Option (Ts w_FnBorderTour_sig.rc) := runFn Try.prog (w_FnBorderTour_E) Try.f6 w_FnBorderTour_sig x
theorem w_FnBorderTour_f_eq (x0 : (List (Int))) : w_FnBorderTour_f x0 = (cond ((decide (1048576 < (List.length x0 : Int)))) (some true) (Option.bind (s_DrawBorderTour_f x0) fun r1 => (Option.bind (i_BorderTour_f (r1.1, r1.2)) fun r2 => (Option.bind (s_BorderTour_f (r1.1, r1.2)) fun r3 => (Option.bind (w_sameInts_f (r2, r3)) fun r4 => (cond ((!r4)) (some false) (cond (((List.length r2 : Int) == 0)) (Option.bind (w_alive_f ()) fun r5 => (some r5)) (Option.bind (i_GridNet_f (r1.1, r1.2)) fun r6 => (Option.bind (i_TourOk_f (r6, r2)) fun r7 => (cond (r7) (if (0 : Int) ≤ 0 ∧ 0 < (List.length r2 : Int) then (if (0 : Int) ≤ (IntKind.i64.wrap ((List.length r2 : Int) - 1)) ∧ (IntKind.i64.wrap ((List.length r2 : Int) - 1)) < (List.length r2 : Int) then (cond (((List.getD r2 (0 : Int).toNat 0) == (List.getD r2 ((IntKind.i64.wrap ((List.length r2 : Int) - 1)) : Int).toNat 0))) (some ((List.length r2 : Int) == (IntKind.i64.wrap ((IntKind.i64.wrap ((IntKind.i64.wrap (2 * r1.1)) + (IntKind.i64.wrap (2 * r1.2)))) - 3)))) (some false)) else none) else none) (some false))))))))))) := by
  kernel_rfl
def w_FnBorderTour_f_c (n : Nat) : ((List (Int))) → Option ((Bool))
  | x0 => (cond ((decide (1048576 < (List.length x0 : Int)))) (some true) (Option.bind (s_DrawBorderTour_f_c n x0) fun r1 => (Option.bind (i_BorderTour_f_c n (r1.1, r1.2)) fun r2 => (Option.bind (s_BorderTour_f_c n (r1.1, r1.2)) fun r3 => (Option.bind (w_sameInts_f_c n (r2, r3)) fun r4 => (cond ((!r4)) (some false) (cond (((List.length r2 : Int) == 0)) (Option.bind (w_alive_f_c n ()) fun r5 => (some r5)) (Option.bind (i_GridNet_f_c n (r1.1, r1.2)) fun r6 => (Option.bind (i_TourOk_f_c n (r6, r2)) fun r7 => (cond (r7) (if (0 : Int) ≤ 0 ∧ 0 < (List.length r2 : Int) then (if (0 : Int) ≤ (IntKind.i64.wrap ((List.length r2 : Int) - 1)) ∧ (IntKind.i64.wrap ((List.length r2 : Int) - 1)) < (List.length r2 : Int) then (cond (((List.getD r2 (0 : Int).toNat 0) == (List.getD r2 ((IntKind.i64.wrap ((List.length r2 : Int) - 1)) : Int).toNat 0))) (some ((List.length r2 : Int) == (IntKind.i64.wrap ((IntKind.i64.wrap ((IntKind.i64.wrap (2 * r1.1)) + (IntKind.i64.wrap (2 * r1.2)))) - 3)))) (some false)) else none) else none) (some false)))))))))))
theorem w_FnBorderTour_f_c_le (n : Nat) (x : Ts w_FnBorderTour_sig.pc) : OLe (w_FnBorderTour_f_c n x) (w_FnBorderTour_f x) := by
  rw [w_FnBorderTour_f_c, w_FnBorderTour_f_eq]
  repeat' first | with_reducible exact OLe.refl _ | with_reducible exact OLe.none _ | with_reducible apply i_GridNet_f_c_le | with_reducible apply w_sameInts_f_c_le | with_reducible apply i_TourOk_f_c_le | with_reducible apply w_alive_f_c_le | with_reducible apply s_DrawBorderTour_f_c_le | with_reducible apply i_BorderTour_f_c_le | with_reducible apply s_BorderTour_f_c_le | with_reducible refine OLe.cond ?_ ?_ | with_reducible refine OLe.ite ?_ ?_ | with_reducible refine OLe.bind ?_ ?_ | intro _
theorem w_FnBorderTour_ent : Entb Try.prog 6 := ⟨Try.f6, by kernel_rfl, by kernel_rfl, by kernel_rfl⟩
theorem w_FnBorderTour_ok : CtrOk Try.prog 6 ⟨w_FnBorderTour_sig, w_FnBorderTour_f⟩ :=
  ctr_of (fn := Try.f6) (by kernel_rfl) (by kernel_rfl) (fun x : Ts w_FnBorderTour_sig.pc => w_FnBorderTour_E) (fun x => ⟨(fn_cons ⟨i_GridNet_ok, i_GridNet_ent⟩ (fn_cons ⟨w_sameInts_ok, w_sameInts_ent⟩ (fn_cons ⟨i_TourOk_ok, i_TourOk_ent⟩ (fn_cons ⟨w_alive_ok, w_alive_ent⟩ (fn_cons ⟨s_DrawBorderTour_ok, s_DrawBorderTour_ent⟩ (fn_cons ⟨i_BorderTour_ok, i_BorderTour_ent⟩ (fn_cons ⟨s_BorderTour_ok, s_BorderTour_ent⟩ fn_none))))))), clo_none⟩) (fun h => by cases h) follows_
end FN
set_option linter.unusedVariables false
namespace FN
open Go Go.Proofs
/-! loop.example/firingnets/impl.SquareTours -/
@[reducible] def i_SquareTours_sig : Sig := { ps := [none, none], pc := [.int .i64, .int .i64], rs := [none], rc := [.row 27 .intss] }
noncomputable def i_SquareTours_E : Env' := { fn := fun f => if f = 32 then some ⟨i_gridOk_sig, i_gridOk_f⟩ else none, ck := ckT, cuts := [(5, [0, 1, 5, 14, 15])], mine := fun i => false }
noncomputable def i_SquareTours_f (x : Ts i_SquareTours_sig.pc) : Option (Ts i_SquareTours_sig.rc) := runFn Try.prog (i_SquareTours_E) Try.f10 i_SquareTours_sig x
noncomputable def i_SquareTours_l0 (y0 : Int) (y1 : Int) (y2 : Int) (y3 : Int) (y4 : List (List Int)) : Option ((List (List Int))) := from_ Try.prog (i_SquareTours_E) Try.f10 i_SquareTours_sig [1, 1, 1, 0, 1, 0] ⟨mkT 49 [(0, .int .i64 y0), (1, .int .i64 y1), (5, .own 0), (14, .int .i64 y2), (15, .int .i64 y3)], [some (.arr 27 true .intss y4)]⟩
theorem i_SquareTours_f_eq (x0 : (Int)) (x1 : (Int)) : i_SquareTours_f (x0, x1) = (Option.bind (i_gridOk_f (x0, x1)) fun r1 => (cond ((!r1)) (some []) (i_SquareTours_l0 x0 x1 (IntKind.i64.wrap (x0 * x1)) 0 ([] : List (List Int))))) := by
  kernel_rfl
theorem i_SquareTours_l0_eq (y0 : Int) (y1 : Int) (y2 : Int) (y3 : Int) (y4 : List (List Int)) : i_SquareTours_l0 y0 y1 y2 y3 y4 = (cond ((decide (y3 < y2))) (if y1 = 0 then none else (cond ((decide ((Int.tmod y3 y1) < (IntKind.i64.wrap (y1 - 1))))) (if y1 = 0 then none else (cond ((decide ((IntKind.i64.wrap (Int.tdiv y3 y1)) < (IntKind.i64.wrap (y0 - 1))))) (if (List.length y4 + List.length ([([y3, (IntKind.i64.wrap (y3 + 1)), (IntKind.i64.wrap ((IntKind.i64.wrap (y3 + 1)) + y1)), (IntKind.i64.wrap (y3 + y1)), y3] : List (Int))] : List (List Int))) * 24 ≤ 140737488355328 then (i_SquareTours_l0 y0 y1 y2 (IntKind.i64.wrap (y3 + 1)) (y4 ++ ([([y3, (IntKind.i64.wrap (y3 + 1)), (IntKind.i64.wrap ((IntKind.i64.wrap (y3 + 1)) + y1)), (IntKind.i64.wrap (y3 + y1)), y3] : List (Int))] : List (List Int)))) else none) (i_SquareTours_l0 y0 y1 y2 (IntKind.i64.wrap (y3 + 1)) y4))) (i_SquareTours_l0 y0 y1 y2 (IntKind.i64.wrap (y3 + 1)) y4))) (some y4)) := by
  refine (loopK_eq Try.prog (i_SquareTours_E) (sub (Try.f10.body.getD .skip) [1, 1, 1, 0, 1, 0, 0]) _ _).trans ?_
  kernel_rfl
mutual
def i_SquareTours_l0_c : Nat → (Int) → (Int) → (Int) → (Int) → (List (List Int)) → Option ((List (List Int)))
  | 0, _, _, _, _, _ => none
  | n + 1, y0, y1, y2, y3, y4 => (cond ((decide (y3 < y2))) (if y1 = 0 then none else (cond ((decide ((Int.tmod y3 y1) < (IntKind.i64.wrap (y1 - 1))))) (if y1 = 0 then none else (cond ((decide ((IntKind.i64.wrap (Int.tdiv y3 y1)) < (IntKind.i64.wrap (y0 - 1))))) (if (List.length y4 + List.length ([([y3, (IntKind.i64.wrap (y3 + 1)), (IntKind.i64.wrap ((IntKind.i64.wrap (y3 + 1)) + y1)), (IntKind.i64.wrap (y3 + y1)), y3] : List (Int))] : List (List Int))) * 24 ≤ 140737488355328 then (i_SquareTours_l0_c n y0 y1 y2 (IntKind.i64.wrap (y3 + 1)) (y4 ++ ([([y3, (IntKind.i64.wrap (y3 + 1)), (IntKind.i64.wrap ((IntKind.i64.wrap (y3 + 1)) + y1)), (IntKind.i64.wrap (y3 + y1)), y3] : List (Int))] : List (List Int)))) else none) (i_SquareTours_l0_c n y0 y1 y2 (IntKind.i64.wrap (y3 + 1)) y4))) (i_SquareTours_l0_c n y0 y1 y2 (IntKind.i64.wrap (y3 + 1)) y4))) (some y4))
end
def i_SquareTours_f_c (n : Nat) : ((Int)) × ((Int)) → Option ((List (List Int)))
  | (x0, x1) => (Option.bind (i_gridOk_f_c n (x0, x1)) fun r1 => (cond ((!r1)) (some []) (i_SquareTours_l0_c n x0 x1 (IntKind.i64.wrap (x0 * x1)) 0 ([] : List (List Int)))))
mutual
theorem i_SquareTours_l0_c_le : (n : Nat) → (y0 : Int) → (y1 : Int) → (y2 : Int) → (y3 : Int) → (y4 : List (List Int)) → OLe (i_SquareTours_l0_c n y0 y1 y2 y3 y4) (i_SquareTours_l0 y0 y1 y2 y3 y4)
  | 0, _, _, _, _, _ => OLe.none _
  | n + 1, y0, y1, y2, y3, y4 => by
    rw [i_SquareTours_l0_c, i_SquareTours_l0_eq]
    repeat' first | with_reducible exact OLe.refl _ | with_reducible exact OLe.none _ | with_reducible apply i_gridOk_f_c_le | with_reducible apply i_SquareTours_l0_c_le | with_reducible refine OLe.cond ?_ ?_ | with_reducible refine OLe.ite ?_ ?_ | with_reducible refine OLe.bind ?_ ?_ | intro _
end
theorem i_SquareTours_f_c_le (n : Nat) (x : Ts i_SquareTours_sig.pc) : OLe (i_SquareTours_f_c n x) (i_SquareTours_f x) := by
  obtain ⟨x0, x1⟩ := x
  rw [i_SquareTours_f_c, i_SquareTours_f_eq]
  repeat' first | with_reducible exact OLe.refl _ | with_reducible exact OLe.none _ | with_reducible apply i_gridOk_f_c_le | with_reducible apply i_SquareTours_l0_c_le | with_reducible refine OLe.cond ?_ ?_ | with_reducible refine OLe.ite ?_ ?_ | with_reducible refine OLe.bind ?_ ?_ | intro _
theorem i_SquareTours_ent : Entb Try.prog 10 := ⟨Try.f10, by kernel_rfl, by kernel_rfl, by kernel_rfl⟩
theorem i_SquareTours_ok : CtrOk Try.prog 10 ⟨i_SquareTours_sig, i_SquareTours_f⟩ :=
  ctr_of (fn := Try.f10) (by kernel_rfl) (by kernel_rfl) (fun x : Ts i_SquareTours_sig.pc => i_SquareTours_E) (fun x => ⟨(fn_cons ⟨i_gridOk_ok, i_gridOk_ent⟩ fn_none), clo_none⟩) (fun h => by cases h) follows_
end FN
set_option linter.unusedVariables false
namespace FN
open Go Go.Proofs
/-! loop.example/firingnets/spec.DrawSquareTours -/
@[reducible] def s_DrawSquareTours_sig : Sig := { ps := [none], pc := [.view .u8], rs := [none, none], rc := [.int .i64, .int .i64] }
noncomputable def s_DrawSquareTours_E : Env' := { fn := fun f => if f = 30 then some ⟨s_l20Grid_sig, s_l20Grid_f⟩ else if f = 31 then some ⟨s_l20Open_sig, s_l20Open_f⟩ else none, ck := ckT, cuts := [], mine := fun i => false }
noncomputable def s_DrawSquareTours_f (x : Ts s_DrawSquareTours_sig.pc) : Option (Ts s_DrawSquareTours_sig.rc) := runFn Try.prog (s_DrawSquareTours_E) Try.f9 s_DrawSquareTours_sig x
theorem s_DrawSquareTours_f_eq (x0 : (List (Int))) : s_DrawSquareTours_f x0 = (Option.bind (s_l20Open_f x0) fun r1 => (Option.bind (s_l20Grid_f (r1.1, r1.2)) fun r2 => (some (r2.1, r2.2.1)))) := by
  kernel_rfl
def s_DrawSquareTours_f_c (n : Nat) : ((List (Int))) → Option ((Int) × (Int))
  | x0 => (Option.bind (s_l20Open_f_c n x0) fun r1 => (Option.bind (s_l20Grid_f_c n (r1.1, r1.2)) fun r2 => (some (r2.1, r2.2.1))))
theorem s_DrawSquareTours_f_c_le (n : Nat) (x : Ts s_DrawSquareTours_sig.pc) : OLe (s_DrawSquareTours_f_c n x) (s_DrawSquareTours_f x) := by
  rw [s_DrawSquareTours_f_c, s_DrawSquareTours_f_eq]
  repeat' first | with_reducible exact OLe.refl _ | with_reducible exact OLe.none _ | with_reducible apply s_l20Grid_f_c_le | with_reducible apply s_l20Open_f_c_le | with_reducible refine OLe.cond ?_ ?_ | with_reducible refine OLe.ite ?_ ?_ | with_reducible refine OLe.bind ?_ ?_ | intro _
theorem s_DrawSquareTours_ent : Entb Try.prog 9 := ⟨Try.f9, by kernel_rfl, by kernel_rfl, by kernel_rfl⟩
theorem s_DrawSquareTours_ok : CtrOk Try.prog 9 ⟨s_DrawSquareTours_sig, s_DrawSquareTours_f⟩ :=
  ctr_of (fn := Try.f9) (by kernel_rfl) (by kernel_rfl) (fun x : Ts s_DrawSquareTours_sig.pc => s_DrawSquareTours_E) (fun x => ⟨(fn_cons ⟨s_l20Grid_ok, s_l20Grid_ent⟩ (fn_cons ⟨s_l20Open_ok, s_l20Open_ent⟩ fn_none)), clo_none⟩) (fun h => by cases h) follows_
end FN
set_option linter.unusedVariables false
namespace FN
open Go Go.Proofs
/-! loop.example/firingnets/spec.SquareTours -/
@[reducible] def s_SquareTours_sig : Sig := { ps := [none, none], pc := [.int .i64, .int .i64], rs := [none], rc := [.row 27 .intss] }
noncomputable def s_SquareTours_E : Env' := { fn := fun f => if f = 33 then some ⟨s_l12Ok_sig, s_l12Ok_f⟩ else none, ck := ckT, cuts := [(3, [0, 1, 5, 6])], mine := fun i => false }
noncomputable def s_SquareTours_f (x : Ts s_SquareTours_sig.pc) : Option (Ts s_SquareTours_sig.rc) := runFn Try.prog (s_SquareTours_E) Try.f11 s_SquareTours_sig x
noncomputable def s_SquareTours_l0 (y0 : Int) (y1 : Int) (y2 : Int) (y3 : List (List Int)) : Option ((List (List Int))) := from_ Try.prog (s_SquareTours_E) Try.f11 s_SquareTours_sig [1, 1, 0, 1, 0] ⟨mkT 50 [(0, .int .i64 y0), (1, .int .i64 y1), (5, .own 0), (6, .int .i64 y2)], [some (.arr 27 true .intss y3)]⟩
theorem s_SquareTours_f_eq (x0 : (Int)) (x1 : (Int)) : s_SquareTours_f (x0, x1) = (s_SquareTours_l0 x0 x1 0 ([] : List (List Int))) := by
  kernel_rfl
theorem s_SquareTours_l0_eq (y0 : Int) (y1 : Int) (y2 : Int) (y3 : List (List Int)) : s_SquareTours_l0 y0 y1 y2 y3 = (Option.bind (s_l12Ok_f (y0, y1)) fun r1 => (cond (r1) (cond ((decide (y2 < (IntKind.i64.wrap (y0 * y1))))) (if y1 = 0 then none else (cond ((decide ((Int.tmod y2 y1) < (IntKind.i64.wrap (y1 - 1))))) (cond ((decide (y2 < (IntKind.i64.wrap ((IntKind.i64.wrap (y0 - 1)) * y1))))) (if (List.length y3 + List.length ([([y2, (IntKind.i64.wrap (y2 + 1)), (IntKind.i64.wrap ((IntKind.i64.wrap (y2 + y1)) + 1)), (IntKind.i64.wrap (y2 + y1)), y2] : List (Int))] : List (List Int))) * 24 ≤ 140737488355328 then (s_SquareTours_l0 y0 y1 (IntKind.i64.wrap (y2 + 1)) (y3 ++ ([([y2, (IntKind.i64.wrap (y2 + 1)), (IntKind.i64.wrap ((IntKind.i64.wrap (y2 + y1)) + 1)), (IntKind.i64.wrap (y2 + y1)), y2] : List (Int))] : List (List Int)))) else none) (s_SquareTours_l0 y0 y1 (IntKind.i64.wrap (y2 + 1)) y3)) (s_SquareTours_l0 y0 y1 (IntKind.i64.wrap (y2 + 1)) y3))) (some y3)) (some y3))) := by
  refine (loopK_eq Try.prog (s_SquareTours_E) (sub (Try.f11.body.getD .skip) [1, 1, 0, 1, 0, 0]) _ _).trans ?_
  kernel_rfl
mutual
def s_SquareTours_l0_c : Nat → (Int) → (Int) → (Int) → (List (List Int)) → Option ((List (List Int)))
  | 0, _, _, _, _ => none
  | n + 1, y0, y1, y2, y3 => (Option.bind (s_l12Ok_f_c n (y0, y1)) fun r1 => (cond (r1) (cond ((decide (y2 < (IntKind.i64.wrap (y0 * y1))))) (if y1 = 0 then none else (cond ((decide ((Int.tmod y2 y1) < (IntKind.i64.wrap (y1 - 1))))) (cond ((decide (y2 < (IntKind.i64.wrap ((IntKind.i64.wrap (y0 - 1)) * y1))))) (if (List.length y3 + List.length ([([y2, (IntKind.i64.wrap (y2 + 1)), (IntKind.i64.wrap ((IntKind.i64.wrap (y2 + y1)) + 1)), (IntKind.i64.wrap (y2 + y1)), y2] : List (Int))] : List (List Int))) * 24 ≤ 140737488355328 then (s_SquareTours_l0_c n y0 y1 (IntKind.i64.wrap (y2 + 1)) (y3 ++ ([([y2, (IntKind.i64.wrap (y2 + 1)), (IntKind.i64.wrap ((IntKind.i64.wrap (y2 + y1)) + 1)), (IntKind.i64.wrap (y2 + y1)), y2] : List (Int))] : List (List Int)))) else none) (s_SquareTours_l0_c n y0 y1 (IntKind.i64.wrap (y2 + 1)) y3)) (s_SquareTours_l0_c n y0 y1 (IntKind.i64.wrap (y2 + 1)) y3))) (some y3)) (some y3)))
end
def s_SquareTours_f_c (n : Nat) : ((Int)) × ((Int)) → Option ((List (List Int)))
  | (x0, x1) => (s_SquareTours_l0_c n x0 x1 0 ([] : List (List Int)))
mutual
theorem s_SquareTours_l0_c_le : (n : Nat) → (y0 : Int) → (y1 : Int) → (y2 : Int) → (y3 : List (List Int)) → OLe (s_SquareTours_l0_c n y0 y1 y2 y3) (s_SquareTours_l0 y0 y1 y2 y3)
  | 0, _, _, _, _ => OLe.none _
  | n + 1, y0, y1, y2, y3 => by
    rw [s_SquareTours_l0_c, s_SquareTours_l0_eq]
    repeat' first | with_reducible exact OLe.refl _ | with_reducible exact OLe.none _ | with_reducible apply s_l12Ok_f_c_le | with_reducible apply s_SquareTours_l0_c_le | with_reducible refine OLe.cond ?_ ?_ | with_reducible refine OLe.ite ?_ ?_ | with_reducible refine OLe.bind ?_ ?_ | intro _
end
theorem s_SquareTours_f_c_le (n : Nat) (x : Ts s_SquareTours_sig.pc) : OLe (s_SquareTours_f_c n x) (s_SquareTours_f x) := by
  obtain ⟨x0, x1⟩ := x
  rw [s_SquareTours_f_c, s_SquareTours_f_eq]
  repeat' first | with_reducible exact OLe.refl _ | with_reducible exact OLe.none _ | with_reducible apply s_l12Ok_f_c_le | with_reducible apply s_SquareTours_l0_c_le | with_reducible refine OLe.cond ?_ ?_ | with_reducible refine OLe.ite ?_ ?_ | with_reducible refine OLe.bind ?_ ?_ | intro _
theorem s_SquareTours_ent : Entb Try.prog 11 := ⟨Try.f11, by kernel_rfl, by kernel_rfl, by kernel_rfl⟩
theorem s_SquareTours_ok : CtrOk Try.prog 11 ⟨s_SquareTours_sig, s_SquareTours_f⟩ :=
  ctr_of (fn := Try.f11) (by kernel_rfl) (by kernel_rfl) (fun x : Ts s_SquareTours_sig.pc => s_SquareTours_E) (fun x => ⟨(fn_cons ⟨s_l12Ok_ok, s_l12Ok_ent⟩ fn_none), clo_none⟩) (fun h => by cases h) follows_
end FN
set_option linter.unusedVariables false
namespace FN
open Go Go.Proofs
/-! loop.example/firingnets/laws.FnSquareTours -/
@[reducible] def w_FnSquareTours_sig : Sig := { ps := [none], pc := [.view .u8], rs := [none], rc := [.bool] }
noncomputable def w_FnSquareTours_E : Env' := { fn := fun f => if f = 9 then some ⟨s_DrawSquareTours_sig, s_DrawSquareTours_f⟩ else if f = 10 then some ⟨i_SquareTours_sig, i_SquareTours_f⟩ else if f = 11 then some ⟨s_SquareTours_sig, s_SquareTours_f⟩ else if f = 12 then some ⟨i_GridNet_sig, i_GridNet_f⟩ else if f = 13 then some ⟨w_sameInts_sig, w_sameInts_f⟩ else if f = 14 then some ⟨i_TourOk_sig, i_TourOk_f⟩ else if f = 15 then some ⟨w_alive_sig, w_alive_f⟩ else none, ck := ckT, cuts := [(10, [3, 4, 5, 6, 7, 8]), (14, [3, 4, 5, 7])], mine := fun i => false }
noncomputable def w_FnSquareTours_f (x : Ts w_FnSquareTours_sig.pc) : Option (Ts w_FnSquareTours_sig.rc) := runFn Try.prog (w_FnSquareTours_E) Try.f3 w_FnSquareTours_sig x
noncomputable def w_FnSquareTours_l0 (y0 : Int) (y1 : Int) (y2 : List (List Int)) (y3 : List (List Int)) (y4 : List (Int)) (y5 : Int) : Option ((Bool)) := from_ Try.prog (w_FnSquareTours_E) Try.f3 w_FnSquareTours_sig [1, 1, 1, 1, 1, 1, 1, 0, 1, 0] ⟨mkT 95 [(3, .int .i64 y0), (4, .int .i64 y1), (5, .row true .intss y2), (6, .row true .intss y3), (7, .row true .i64 y4), (8, .int .i64 y5)], []⟩
noncomputable def w_FnSquareTours_j1 (y0 : Int) (y1 : Int) (y2 : List (List Int)) (y3 : List (Int)) : Option ((Bool)) := from_ Try.prog (w_FnSquareTours_E) Try.f3 w_FnSquareTours_sig [1, 1, 1, 1, 1, 1, 1, 1] ⟨mkT 95 [(3, .int .i64 y0), (4, .int .i64 y1), (5, .row true .intss y2), (7, .row true .i64 y3)], []⟩
theorem w_FnSquareTours_f_eq (x0 : (List (Int))) : w_FnSquareTours_f x0 = (cond ((decide (1048576 < (List.length x0 : Int)))) (some true) (Option.bind (s_DrawSquareTours_f x0) fun r1 => (Option.bind (i_SquareTours_f (r1.1, r1.2)) fun r2 => (Option.bind (s_SquareTours_f (r1.1, r1.2)) fun r3 => (cond (((List.length r2 : Int) != (List.length r3 : Int))) (some false) (Option.bind (i_GridNet_f (r1.1, r1.2)) fun r4 => (w_FnSquareTours_l0 r1.1 r1.2 r2 r3 r4 0))))))) := by
  kernel_rfl
theorem w_FnSquareTours_l0_eq (y0 : Int) (y1 : Int) (y2 : List (List Int)) (y3 : List (List Int)) (y4 : List (Int)) (y5 : Int) : w_FnSquareTours_l0 y0 y1 y2 y3 y4 y5 = (cond ((decide (y5 < (List.length y2 : Int)))) (if (0 : Int) ≤ y5 ∧ y5 < (List.length y2 : Int) then (if (0 : Int) ≤ y5 ∧ y5 < (List.length y3 : Int) then (Option.bind (w_sameInts_f ((List.getD y2 (y5 : Int).toNat []), (List.getD y3 (y5 : Int).toNat []))) fun r1 => (cond ((!r1)) (some false) (if (0 : Int) ≤ y5 ∧ y5 < (List.length y2 : Int) then (Option.bind (i_TourOk_f (y4, (List.getD y2 (y5 : Int).toNat []))) fun r2 => (cond ((!r2)) (some false) (if (0 : Int) ≤ y5 ∧ y5 < (List.length y2 : Int) then (cond (((List.length (List.getD y2 (y5 : Int).toNat []) : Int) != 5)) (some false) (if (0 : Int) ≤ y5 ∧ y5 < (List.length y2 : Int) then (if (0 : Int) ≤ 0 ∧ 0 < (List.length (List.getD y2 (y5 : Int).toNat []) : Int) then (if (0 : Int) ≤ y5 ∧ y5 < (List.length y2 : Int) then (if (0 : Int) ≤ 4 ∧ 4 < (List.length (List.getD y2 (y5 : Int).toNat []) : Int) then (cond (((List.getD (List.getD y2 (y5 : Int).toNat []) (0 : Int).toNat 0) != (List.getD (List.getD y2 (y5 : Int).toNat []) (4 : Int).toNat 0))) (some false) (w_FnSquareTours_l0 y0 y1 y2 y3 y4 (IntKind.i64.wrap (y5 + 1)))) else none) else none) else none) else none)) else none))) else none))) else none) else none) (w_FnSquareTours_j1 y0 y1 y2 y4)) := by
  refine (loopK_eq Try.prog (w_FnSquareTours_E) (sub (Try.f3.body.getD .skip) [1, 1, 1, 1, 1, 1, 1, 0, 1, 0, 0]) _ _).trans ?_
  kernel_rfl
theorem w_FnSquareTours_j1_eq (y0 : Int) (y1 : Int) (y2 : List (List Int)) (y3 : List (Int)) : w_FnSquareTours_j1 y0 y1 y2 y3 = (cond (((List.length y3 : Int) == 0)) (Option.bind (w_alive_f ()) fun r1 => (some r1)) (cond (((List.length y2 : Int) == (IntKind.i64.wrap ((IntKind.i64.wrap (y0 - 1)) * (IntKind.i64.wrap (y1 - 1)))))) (Option.bind (w_alive_f ()) fun r2 => (some r2)) (some false))) := by
  kernel_rfl
mutual
def w_FnSquareTours_l0_c : Nat → (Int) → (Int) → (List (List Int)) → (List (List Int)) → (List (Int)) → (Int) → Option ((Bool))
  | 0, _, _, _, _, _, _ => none
  | n + 1, y0, y1, y2, y3, y4, y5 => (cond ((decide (y5 < (List.length y2 : Int)))) (if (0 : Int) ≤ y5 ∧ y5 < (List.length y2 : Int) then (if (0 : Int) ≤ y5 ∧ y5 < (List.length y3 : Int) then (Option.bind (w_sameInts_f_c n ((List.getD y2 (y5 : Int).toNat []), (List.getD y3 (y5 : Int).toNat []))) fun r1 => (cond ((!r1)) (some false) (if (0 : Int) ≤ y5 ∧ y5 < (List.length y2 : Int) then (Option.bind (i_TourOk_f_c n (y4, (List.getD y2 (y5 : Int).toNat []))) fun r2 => (cond ((!r2)) (some false) (if (0 : Int) ≤ y5 ∧ y5 < (List.length y2 : Int) then (cond (((List.length (List.getD y2 (y5 : Int).toNat []) : Int) != 5)) (some false) (if (0 : Int) ≤ y5 ∧ y5 < (List.length y2 : Int) then (if (0 : Int) ≤ 0 ∧ 0 < (List.length (List.getD y2 (y5 : Int).toNat []) : Int) then (if (0 : Int) ≤ y5 ∧ y5 < (List.length y2 : Int) then (if (0 : Int) ≤ 4 ∧ 4 < (List.length (List.getD y2 (y5 : Int).toNat []) : Int) then (cond (((List.getD (List.getD y2 (y5 : Int).toNat []) (0 : Int).toNat 0) != (List.getD (List.getD y2 (y5 : Int).toNat []) (4 : Int).toNat 0))) (some false) (w_FnSquareTours_l0_c n y0 y1 y2 y3 y4 (IntKind.i64.wrap (y5 + 1)))) else none) else none) else none) else none)) else none))) else none))) else none) else none) (w_FnSquareTours_j1_c n y0 y1 y2 y4))
def w_FnSquareTours_j1_c : Nat → (Int) → (Int) → (List (List Int)) → (List (Int)) → Option ((Bool))
  | 0, _, _, _, _ => none
  | n + 1, y0, y1, y2, y3 => (cond (((List.length y3 : Int) == 0)) (Option.bind (w_alive_f_c n ()) fun r1 => (some r1)) (cond (((List.length y2 : Int) == (IntKind.i64.wrap ((IntKind.i64.wrap (y0 - 1)) * (IntKind.i64.wrap (y1 - 1)))))) (Option.bind (w_alive_f_c n ()) fun r2 => (some r2)) (some false)))
end
def w_FnSquareTours_f_c (n : Nat) : ((List (Int))) → Option ((Bool))
  | x0 => (cond ((decide (1048576 < (List.length x0 : Int)))) (some true) (Option.bind (s_DrawSquareTours_f_c n x0) fun r1 => (Option.bind (i_SquareTours_f_c n (r1.1, r1.2)) fun r2 => (Option.bind (s_SquareTours_f_c n (r1.1, r1.2)) fun r3 => (cond (((List.length r2 : Int) != (List.length r3 : Int))) (some false) (Option.bind (i_GridNet_f_c n (r1.1, r1.2)) fun r4 => (w_FnSquareTours_l0_c n r1.1 r1.2 r2 r3 r4 0)))))))
mutual
theorem w_FnSquareTours_l0_c_le : (n : Nat) → (y0 : Int) → (y1 : Int) → (y2 : List (List Int)) → (y3 : List (List Int)) → (y4 : List (Int)) → (y5 : Int) → OLe (w_FnSquareTours_l0_c n y0 y1 y2 y3 y4 y5) (w_FnSquareTours_l0 y0 y1 y2 y3 y4 y5)
  | 0, _, _, _, _, _, _ => OLe.none _
  | n + 1, y0, y1, y2, y3, y4, y5 => by
    rw [w_FnSquareTours_l0_c, w_FnSquareTours_l0_eq]
    repeat' first | with_reducible exact OLe.refl _ | with_reducible exact OLe.none _ | with_reducible apply s_DrawSquareTours_f_c_le | with_reducible apply i_SquareTours_f_c_le | with_reducible apply s_SquareTours_f_c_le | with_reducible apply i_GridNet_f_c_le | with_reducible apply w_sameInts_f_c_le | with_reducible apply i_TourOk_f_c_le | with_reducible apply w_alive_f_c_le | with_reducible apply w_FnSquareTours_l0_c_le | with_reducible apply w_FnSquareTours_j1_c_le | with_reducible refine OLe.cond ?_ ?_ | with_reducible refine OLe.ite ?_ ?_ | with_reducible refine OLe.bind ?_ ?_ | intro _
theorem w_FnSquareTours_j1_c_le : (n : Nat) → (y0 : Int) → (y1 : Int) → (y2 : List (List Int)) → (y3 : List (Int)) → OLe (w_FnSquareTours_j1_c n y0 y1 y2 y3) (w_FnSquareTours_j1 y0 y1 y2 y3)
  | 0, _, _, _, _ => OLe.none _
  | n + 1, y0, y1, y2, y3 => by
    rw [w_FnSquareTours_j1_c, w_FnSquareTours_j1_eq]
    repeat' first | with_reducible exact OLe.refl _ | with_reducible exact OLe.none _ | with_reducible apply s_DrawSquareTours_f_c_le | with_reducible apply i_SquareTours_f_c_le | with_reducible apply s_SquareTours_f_c_le | with_reducible apply i_GridNet_f_c_le | with_reducible apply w_sameInts_f_c_le | with_reducible apply i_TourOk_f_c_le | with_reducible apply w_alive_f_c_le | with_reducible apply w_FnSquareTours_l0_c_le | with_reducible apply w_FnSquareTours_j1_c_le | with_reducible refine OLe.cond ?_ ?_ | with_reducible refine OLe.ite ?_ ?_ | with_reducible refine OLe.bind ?_ ?_ | intro _
end
theorem w_FnSquareTours_f_c_le (n : Nat) (x : Ts w_FnSquareTours_sig.pc) : OLe (w_FnSquareTours_f_c n x) (w_FnSquareTours_f x) := by
  rw [w_FnSquareTours_f_c, w_FnSquareTours_f_eq]
  repeat' first | with_reducible exact OLe.refl _ | with_reducible exact OLe.none _ | with_reducible apply s_DrawSquareTours_f_c_le | with_reducible apply i_SquareTours_f_c_le | with_reducible apply s_SquareTours_f_c_le | with_reducible apply i_GridNet_f_c_le | with_reducible apply w_sameInts_f_c_le | with_reducible apply i_TourOk_f_c_le | with_reducible apply w_alive_f_c_le | with_reducible apply w_FnSquareTours_l0_c_le | with_reducible apply w_FnSquareTours_j1_c_le | with_reducible refine OLe.cond ?_ ?_ | with_reducible refine OLe.ite ?_ ?_ | with_reducible refine OLe.bind ?_ ?_ | intro _
theorem w_FnSquareTours_ent : Entb Try.prog 3 := ⟨Try.f3, by kernel_rfl, by kernel_rfl, by kernel_rfl⟩
theorem w_FnSquareTours_ok : CtrOk Try.prog 3 ⟨w_FnSquareTours_sig, w_FnSquareTours_f⟩ :=
  ctr_of (fn := Try.f3) (by kernel_rfl) (by kernel_rfl) (fun x : Ts w_FnSquareTours_sig.pc => w_FnSquareTours_E) (fun x => ⟨(fn_cons ⟨s_DrawSquareTours_ok, s_DrawSquareTours_ent⟩ (fn_cons ⟨i_SquareTours_ok, i_SquareTours_ent⟩ (fn_cons ⟨s_SquareTours_ok, s_SquareTours_ent⟩ (fn_cons ⟨i_GridNet_ok, i_GridNet_ent⟩ (fn_cons ⟨w_sameInts_ok, w_sameInts_ent⟩ (fn_cons ⟨i_TourOk_ok, i_TourOk_ent⟩ (fn_cons ⟨w_alive_ok, w_alive_ent⟩ fn_none))))))), clo_none⟩) (fun h => by cases h) follows_
end FN
set_option linter.unusedVariables false
namespace FN
open Go Go.Proofs
/-! math/bits.OnesCount32 -/
@[reducible] def x_bits_OnesCount32_sig : Sig := { ps := [none], pc := [.int .u32], rs := [none], rc := [.int .i64] }
noncomputable def x_bits_OnesCount32_E : Env' := { fn := fun f => none, ck := ckT, cuts := [], mine := fun i => false }
noncomputable def x_bits_OnesCount32_f (x : Ts x_bits_OnesCount32_sig.pc) : Option (Ts x_bits_OnesCount32_sig.rc) := runFn Try.prog (x_bits_OnesCount32_E) Try.f48 x_bits_OnesCount32_sig x
theorem x_bits_OnesCount32_f_eq (x0 : (Int)) : x_bits_OnesCount32_f x0 = (if (0 : Int) ≤ (Int.fdiv x0 (2 ^ min (24 : Int).toNat IntKind.u32.bits)) ∧ (Int.fdiv x0 (2 ^ min (24 : Int).toNat IntKind.u32.bits)) < (ByteArray.size str0 : Int) then (if (0 : Int) ≤ (Go.bits .and IntKind.u32 (Int.fdiv x0 (2 ^ min (16 : Int).toNat IntKind.u32.bits)) 255) ∧ (Go.bits .and IntKind.u32 (Int.fdiv x0 (2 ^ min (16 : Int).toNat IntKind.u32.bits)) 255) < (ByteArray.size str0 : Int) then (if (0 : Int) ≤ (Go.bits .and IntKind.u32 (Int.fdiv x0 (2 ^ min (8 : Int).toNat IntKind.u32.bits)) 255) ∧ (Go.bits .and IntKind.u32 (Int.fdiv x0 (2 ^ min (8 : Int).toNat IntKind.u32.bits)) 255) < (ByteArray.size str0 : Int) then (if (0 : Int) ≤ (Go.bits .and IntKind.u32 x0 255) ∧ (Go.bits .and IntKind.u32 x0 255) < (ByteArray.size str0 : Int) then (some (IntKind.i64.wrap (IntKind.u8.wrap ((IntKind.u8.wrap ((IntKind.u8.wrap (((List.getD (ByteArray.data str0).toList ((Int.fdiv x0 (2 ^ min (24 : Int).toNat IntKind.u32.bits)) : Int).toNat 0).toNat : Int) + ((List.getD (ByteArray.data str0).toList ((Go.bits .and IntKind.u32 (Int.fdiv x0 (2 ^ min (16 : Int).toNat IntKind.u32.bits)) 255) : Int).toNat 0).toNat : Int))) + ((List.getD (ByteArray.data str0).toList ((Go.bits .and IntKind.u32 (Int.fdiv x0 (2 ^ min (8 : Int).toNat IntKind.u32.bits)) 255) : Int).toNat 0).toNat : Int))) + ((List.getD (ByteArray.data str0).toList ((Go.bits .and IntKind.u32 x0 255) : Int).toNat 0).toNat : Int))))) else none) else none) else none) else none) := by
  kernel_rfl
def x_bits_OnesCount32_f_c (n : Nat) : ((Int)) → Option ((Int))
  | x0 => (if (0 : Int) ≤ (Int.fdiv x0 (2 ^ min (24 : Int).toNat IntKind.u32.bits)) ∧ (Int.fdiv x0 (2 ^ min (24 : Int).toNat IntKind.u32.bits)) < (ByteArray.size str0 : Int) then (if (0 : Int) ≤ (Go.bits .and IntKind.u32 (Int.fdiv x0 (2 ^ min (16 : Int).toNat IntKind.u32.bits)) 255) ∧ (Go.bits .and IntKind.u32 (Int.fdiv x0 (2 ^ min (16 : Int).toNat IntKind.u32.bits)) 255) < (ByteArray.size str0 : Int) then (if (0 : Int) ≤ (Go.bits .and IntKind.u32 (Int.fdiv x0 (2 ^ min (8 : Int).toNat IntKind.u32.bits)) 255) ∧ (Go.bits .and IntKind.u32 (Int.fdiv x0 (2 ^ min (8 : Int).toNat IntKind.u32.bits)) 255) < (ByteArray.size str0 : Int) then (if (0 : Int) ≤ (Go.bits .and IntKind.u32 x0 255) ∧ (Go.bits .and IntKind.u32 x0 255) < (ByteArray.size str0 : Int) then (some (IntKind.i64.wrap (IntKind.u8.wrap ((IntKind.u8.wrap ((IntKind.u8.wrap (((List.getD (ByteArray.data str0).toList ((Int.fdiv x0 (2 ^ min (24 : Int).toNat IntKind.u32.bits)) : Int).toNat 0).toNat : Int) + ((List.getD (ByteArray.data str0).toList ((Go.bits .and IntKind.u32 (Int.fdiv x0 (2 ^ min (16 : Int).toNat IntKind.u32.bits)) 255) : Int).toNat 0).toNat : Int))) + ((List.getD (ByteArray.data str0).toList ((Go.bits .and IntKind.u32 (Int.fdiv x0 (2 ^ min (8 : Int).toNat IntKind.u32.bits)) 255) : Int).toNat 0).toNat : Int))) + ((List.getD (ByteArray.data str0).toList ((Go.bits .and IntKind.u32 x0 255) : Int).toNat 0).toNat : Int))))) else none) else none) else none) else none)
theorem x_bits_OnesCount32_f_c_le (n : Nat) (x : Ts x_bits_OnesCount32_sig.pc) : OLe (x_bits_OnesCount32_f_c n x) (x_bits_OnesCount32_f x) := by
  rw [x_bits_OnesCount32_f_c, x_bits_OnesCount32_f_eq]
  repeat' first | with_reducible exact OLe.refl _ | with_reducible exact OLe.none _ | with_reducible refine OLe.cond ?_ ?_ | with_reducible refine OLe.ite ?_ ?_ | with_reducible refine OLe.bind ?_ ?_ | intro _
theorem x_bits_OnesCount32_ent : Entb Try.prog 48 := ⟨Try.f48, by kernel_rfl, by kernel_rfl, by kernel_rfl⟩
theorem x_bits_OnesCount32_ok : CtrOk Try.prog 48 ⟨x_bits_OnesCount32_sig, x_bits_OnesCount32_f⟩ :=
  ctr_of (fn := Try.f48) (by kernel_rfl) (by kernel_rfl) (fun x : Ts x_bits_OnesCount32_sig.pc => x_bits_OnesCount32_E) (fun x => ⟨fn_none, clo_none⟩) (fun h => by cases h) follows_
end FN
set_option linter.unusedVariables false
namespace FN
open Go Go.Proofs
/-! math/bits.OnesCount64 -/
@[reducible] def x_bits_OnesCount64_sig : Sig := { ps := [none], pc := [.int .u64], rs := [none], rc := [.int .i64] }
noncomputable def x_bits_OnesCount64_E : Env' := { fn := fun f => none, ck := ckT, cuts := [], mine := fun i => false }
noncomputable def x_bits_OnesCount64_f (x : Ts x_bits_OnesCount64_sig.pc) : Option (Ts x_bits_OnesCount64_sig.rc) := runFn Try.prog (x_bits_OnesCount64_E) Try.f49 x_bits_OnesCount64_sig x
theorem x_bits_OnesCount64_f_eq (x0 : (Int)) : x_bits_OnesCount64_f x0 = (some (Go.bits .and IntKind.i64 (IntKind.i64.wrap (IntKind.u64.wrap ((IntKind.u64.wrap ((IntKind.u64.wrap ((Go.bits .and IntKind.u64 (IntKind.u64.wrap ((Int.fdiv (IntKind.u64.wrap ((Go.bits .and IntKind.u64 (Int.fdiv (IntKind.u64.wrap ((Go.bits .and IntKind.u64 (Int.fdiv x0 (2 ^ min (1 : Int).toNat IntKind.u64.bits)) 6148914691236517205) + (Go.bits .and IntKind.u64 x0 6148914691236517205))) (2 ^ min (2 : Int).toNat IntKind.u64.bits)) 3689348814741910323) + (Go.bits .and IntKind.u64 (IntKind.u64.wrap ((Go.bits .and IntKind.u64 (Int.fdiv x0 (2 ^ min (1 : Int).toNat IntKind.u64.bits)) 6148914691236517205) + (Go.bits .and IntKind.u64 x0 6148914691236517205))) 3689348814741910323))) (2 ^ min (4 : Int).toNat IntKind.u64.bits)) + (IntKind.u64.wrap ((Go.bits .and IntKind.u64 (Int.fdiv (IntKind.u64.wrap ((Go.bits .and IntKind.u64 (Int.fdiv x0 (2 ^ min (1 : Int).toNat IntKind.u64.bits)) 6148914691236517205) + (Go.bits .and IntKind.u64 x0 6148914691236517205))) (2 ^ min (2 : Int).toNat IntKind.u64.bits)) 3689348814741910323) + (Go.bits .and IntKind.u64 (IntKind.u64.wrap ((Go.bits .and IntKind.u64 (Int.fdiv x0 (2 ^ min (1 : Int).toNat IntKind.u64.bits)) 6148914691236517205) + (Go.bits .and IntKind.u64 x0 6148914691236517205))) 3689348814741910323))))) 1085102592571150095) + (Int.fdiv (Go.bits .and IntKind.u64 (IntKind.u64.wrap ((Int.fdiv (IntKind.u64.wrap ((Go.bits .and IntKind.u64 (Int.fdiv (IntKind.u64.wrap ((Go.bits .and IntKind.u64 (Int.fdiv x0 (2 ^ min (1 : Int).toNat IntKind.u64.bits)) 6148914691236517205) + (Go.bits .and IntKind.u64 x0 6148914691236517205))) (2 ^ min (2 : Int).toNat IntKind.u64.bits)) 3689348814741910323) + (Go.bits .and IntKind.u64 (IntKind.u64.wrap ((Go.bits .and IntKind.u64 (Int.fdiv x0 (2 ^ min (1 : Int).toNat IntKind.u64.bits)) 6148914691236517205) + (Go.bits .and IntKind.u64 x0 6148914691236517205))) 3689348814741910323))) (2 ^ min (4 : Int).toNat IntKind.u64.bits)) + (IntKind.u64.wrap ((Go.bits .and IntKind.u64 (Int.fdiv (IntKind.u64.wrap ((Go.bits .and IntKind.u64 (Int.fdiv x0 (2 ^ min (1 : Int).toNat IntKind.u64.bits)) 6148914691236517205) + (Go.bits .and IntKind.u64 x0 6148914691236517205))) (2 ^ min (2 : Int).toNat IntKind.u64.bits)) 3689348814741910323) + (Go.bits .and IntKind.u64 (IntKind.u64.wrap ((Go.bits .and IntKind.u64 (Int.fdiv x0 (2 ^ min (1 : Int).toNat IntKind.u64.bits)) 6148914691236517205) + (Go.bits .and IntKind.u64 x0 6148914691236517205))) 3689348814741910323))))) 1085102592571150095) (2 ^ min (8 : Int).toNat IntKind.u64.bits)))) + (Int.fdiv (IntKind.u64.wrap ((Go.bits .and IntKind.u64 (IntKind.u64.wrap ((Int.fdiv (IntKind.u64.wrap ((Go.bits .and IntKind.u64 (Int.fdiv (IntKind.u64.wrap ((Go.bits .and IntKind.u64 (Int.fdiv x0 (2 ^ min (1 : Int).toNat IntKind.u64.bits)) 6148914691236517205) + (Go.bits .and IntKind.u64 x0 6148914691236517205))) (2 ^ min (2 : Int).toNat IntKind.u64.bits)) 3689348814741910323) + (Go.bits .and IntKind.u64 (IntKind.u64.wrap ((Go.bits .and IntKind.u64 (Int.fdiv x0 (2 ^ min (1 : Int).toNat IntKind.u64.bits)) 6148914691236517205) + (Go.bits .and IntKind.u64 x0 6148914691236517205))) 3689348814741910323))) (2 ^ min (4 : Int).toNat IntKind.u64.bits)) + (IntKind.u64.wrap ((Go.bits .and IntKind.u64 (Int.fdiv (IntKind.u64.wrap ((Go.bits .and IntKind.u64 (Int.fdiv x0 (2 ^ min (1 : Int).toNat IntKind.u64.bits)) 6148914691236517205) + (Go.bits .and IntKind.u64 x0 6148914691236517205))) (2 ^ min (2 : Int).toNat IntKind.u64.bits)) 3689348814741910323) + (Go.bits .and IntKind.u64 (IntKind.u64.wrap ((Go.bits .and IntKind.u64 (Int.fdiv x0 (2 ^ min (1 : Int).toNat IntKind.u64.bits)) 6148914691236517205) + (Go.bits .and IntKind.u64 x0 6148914691236517205))) 3689348814741910323))))) 1085102592571150095) + (Int.fdiv (Go.bits .and IntKind.u64 (IntKind.u64.wrap ((Int.fdiv (IntKind.u64.wrap ((Go.bits .and IntKind.u64 (Int.fdiv (IntKind.u64.wrap ((Go.bits .and IntKind.u64 (Int.fdiv x0 (2 ^ min (1 : Int).toNat IntKind.u64.bits)) 6148914691236517205) + (Go.bits .and IntKind.u64 x0 6148914691236517205))) (2 ^ min (2 : Int).toNat IntKind.u64.bits)) 3689348814741910323) + (Go.bits .and IntKind.u64 (IntKind.u64.wrap ((Go.bits .and IntKind.u64 (Int.fdiv x0 (2 ^ min (1 : Int).toNat IntKind.u64.bits)) 6148914691236517205) + (Go.bits .and IntKind.u64 x0 6148914691236517205))) 3689348814741910323))) (2 ^ min (4 : Int).toNat IntKind.u64.bits)) + (IntKind.u64.wrap ((Go.bits .and IntKind.u64 (Int.fdiv (IntKind.u64.wrap ((Go.bits .and IntKind.u64 (Int.fdiv x0 (2 ^ min (1 : Int).toNat IntKind.u64.bits)) 6148914691236517205) + (Go.bits .and IntKind.u64 x0 6148914691236517205))) (2 ^ min (2 : Int).toNat IntKind.u64.bits)) 3689348814741910323) + (Go.bits .and IntKind.u64 (IntKind.u64.wrap ((Go.bits .and IntKind.u64 (Int.fdiv x0 (2 ^ min (1 : Int).toNat IntKind.u64.bits)) 6148914691236517205) + (Go.bits .and IntKind.u64 x0 6148914691236517205))) 3689348814741910323))))) 1085102592571150095) (2 ^ min (8 : Int).toNat IntKind.u64.bits)))) (2 ^ min (16 : Int).toNat IntKind.u64.bits)))) + (Int.fdiv (IntKind.u64.wrap ((IntKind.u64.wrap ((Go.bits .and IntKind.u64 (IntKind.u64.wrap ((Int.fdiv (IntKind.u64.wrap ((Go.bits .and IntKind.u64 (Int.fdiv (IntKind.u64.wrap ((Go.bits .and IntKind.u64 (Int.fdiv x0 (2 ^ min (1 : Int).toNat IntKind.u64.bits)) 6148914691236517205) + (Go.bits .and IntKind.u64 x0 6148914691236517205))) (2 ^ min (2 : Int).toNat IntKind.u64.bits)) 3689348814741910323) + (Go.bits .and IntKind.u64 (IntKind.u64.wrap ((Go.bits .and IntKind.u64 (Int.fdiv x0 (2 ^ min (1 : Int).toNat IntKind.u64.bits)) 6148914691236517205) + (Go.bits .and IntKind.u64 x0 6148914691236517205))) 3689348814741910323))) (2 ^ min (4 : Int).toNat IntKind.u64.bits)) + (IntKind.u64.wrap ((Go.bits .and IntKind.u64 (Int.fdiv (IntKind.u64.wrap ((Go.bits .and IntKind.u64 (Int.fdiv x0 (2 ^ min (1 : Int).toNat IntKind.u64.bits)) 6148914691236517205) + (Go.bits .and IntKind.u64 x0 6148914691236517205))) (2 ^ min (2 : Int).toNat IntKind.u64.bits)) 3689348814741910323) + (Go.bits .and IntKind.u64 (IntKind.u64.wrap ((Go.bits .and IntKind.u64 (Int.fdiv x0 (2 ^ min (1 : Int).toNat IntKind.u64.bits)) 6148914691236517205) + (Go.bits .and IntKind.u64 x0 6148914691236517205))) 3689348814741910323))))) 1085102592571150095) + (Int.fdiv (Go.bits .and IntKind.u64 (IntKind.u64.wrap ((Int.fdiv (IntKind.u64.wrap ((Go.bits .and IntKind.u64 (Int.fdiv (IntKind.u64.wrap ((Go.bits .and IntKind.u64 (Int.fdiv x0 (2 ^ min (1 : Int).toNat IntKind.u64.bits)) 6148914691236517205) + (Go.bits .and IntKind.u64 x0 6148914691236517205))) (2 ^ min (2 : Int).toNat IntKind.u64.bits)) 3689348814741910323) + (Go.bits .and IntKind.u64 (IntKind.u64.wrap ((Go.bits .and IntKind.u64 (Int.fdiv x0 (2 ^ min (1 : Int).toNat IntKind.u64.bits)) 6148914691236517205) + (Go.bits .and IntKind.u64 x0 6148914691236517205))) 3689348814741910323))) (2 ^ min (4 : Int).toNat IntKind.u64.bits)) + (IntKind.u64.wrap ((Go.bits .and IntKind.u64 (Int.fdiv (IntKind.u64.wrap ((Go.bits .and IntKind.u64 (Int.fdiv x0 (2 ^ min (1 : Int).toNat IntKind.u64.bits)) 6148914691236517205) + (Go.bits .and IntKind.u64 x0 6148914691236517205))) (2 ^ min (2 : Int).toNat IntKind.u64.bits)) 3689348814741910323) + (Go.bits .and IntKind.u64 (IntKind.u64.wrap ((Go.bits .and IntKind.u64 (Int.fdiv x0 (2 ^ min (1 : Int).toNat IntKind.u64.bits)) 6148914691236517205) + (Go.bits .and IntKind.u64 x0 6148914691236517205))) 3689348814741910323))))) 1085102592571150095) (2 ^ min (8 : Int).toNat IntKind.u64.bits)))) + (Int.fdiv (IntKind.u64.wrap ((Go.bits .and IntKind.u64 (IntKind.u64.wrap ((Int.fdiv (IntKind.u64.wrap ((Go.bits .and IntKind.u64 (Int.fdiv (IntKind.u64.wrap ((Go.bits .and IntKind.u64 (Int.fdiv x0 (2 ^ min (1 : Int).toNat IntKind.u64.bits)) 6148914691236517205) + (Go.bits .and IntKind.u64 x0 6148914691236517205))) (2 ^ min (2 : Int).toNat IntKind.u64.bits)) 3689348814741910323) + (Go.bits .and IntKind.u64 (IntKind.u64.wrap ((Go.bits .and IntKind.u64 (Int.fdiv x0 (2 ^ min (1 : Int).toNat IntKind.u64.bits)) 6148914691236517205) + (Go.bits .and IntKind.u64 x0 6148914691236517205))) 3689348814741910323))) (2 ^ min (4 : Int).toNat IntKind.u64.bits)) + (IntKind.u64.wrap ((Go.bits .and IntKind.u64 (Int.fdiv (IntKind.u64.wrap ((Go.bits .and IntKind.u64 (Int.fdiv x0 (2 ^ min (1 : Int).toNat IntKind.u64.bits)) 6148914691236517205) + (Go.bits .and IntKind.u64 x0 6148914691236517205))) (2 ^ min (2 : Int).toNat IntKind.u64.bits)) 3689348814741910323) + (Go.bits .and IntKind.u64 (IntKind.u64.wrap ((Go.bits .and IntKind.u64 (Int.fdiv x0 (2 ^ min (1 : Int).toNat IntKind.u64.bits)) 6148914691236517205) + (Go.bits .and IntKind.u64 x0 6148914691236517205))) 3689348814741910323))))) 1085102592571150095) + (Int.fdiv (Go.bits .and IntKind.u64 (IntKind.u64.wrap ((Int.fdiv (IntKind.u64.wrap ((Go.bits .and IntKind.u64 (Int.fdiv (IntKind.u64.wrap ((Go.bits .and IntKind.u64 (Int.fdiv x0 (2 ^ min (1 : Int).toNat IntKind.u64.bits)) 6148914691236517205) + (Go.bits .and IntKind.u64 x0 6148914691236517205))) (2 ^ min (2 : Int).toNat IntKind.u64.bits)) 3689348814741910323) + (Go.bits .and IntKind.u64 (IntKind.u64.wrap ((Go.bits .and IntKind.u64 (Int.fdiv x0 (2 ^ min (1 : Int).toNat IntKind.u64.bits)) 6148914691236517205) + (Go.bits .and IntKind.u64 x0 6148914691236517205))) 3689348814741910323))) (2 ^ min (4 : Int).toNat IntKind.u64.bits)) + (IntKind.u64.wrap ((Go.bits .and IntKind.u64 (Int.fdiv (IntKind.u64.wrap ((Go.bits .and IntKind.u64 (Int.fdiv x0 (2 ^ min (1 : Int).toNat IntKind.u64.bits)) 6148914691236517205) + (Go.bits .and IntKind.u64 x0 6148914691236517205))) (2 ^ min (2 : Int).toNat IntKind.u64.bits)) 3689348814741910323) + (Go.bits .and IntKind.u64 (IntKind.u64.wrap ((Go.bits .and IntKind.u64 (Int.fdiv x0 (2 ^ min (1 : Int).toNat IntKind.u64.bits)) 6148914691236517205) + (Go.bits .and IntKind.u64 x0 6148914691236517205))) 3689348814741910323))))) 1085102592571150095) (2 ^ min (8 : Int).toNat IntKind.u64.bits)))) (2 ^ min (16 : Int).toNat IntKind.u64.bits)))) (2 ^ min (32 : Int).toNat IntKind.u64.bits))))) 127)) := by
  kernel_rfl
def x_bits_OnesCount64_f_c (n : Nat) : ((Int)) → Option ((Int))
  | x0 => (some (Go.bits .and IntKind.i64 (IntKind.i64.wrap (IntKind.u64.wrap ((IntKind.u64.wrap ((IntKind.u64.wrap ((Go.bits .and IntKind.u64 (IntKind.u64.wrap ((Int.fdiv (IntKind.u64.wrap ((Go.bits .and IntKind.u64 (Int.fdiv (IntKind.u64.wrap ((Go.bits .and IntKind.u64 (Int.fdiv x0 (2 ^ min (1 : Int).toNat IntKind.u64.bits)) 6148914691236517205) + (Go.bits .and IntKind.u64 x0 6148914691236517205))) (2 ^ min (2 : Int).toNat IntKind.u64.bits)) 3689348814741910323) + (Go.bits .and IntKind.u64 (IntKind.u64.wrap ((Go.bits .and IntKind.u64 (Int.fdiv x0 (2 ^ min (1 : Int).toNat IntKind.u64.bits)) 6148914691236517205) + (Go.bits .and IntKind.u64 x0 6148914691236517205))) 3689348814741910323))) (2 ^ min (4 : Int).toNat IntKind.u64.bits)) + (IntKind.u64.wrap ((Go.bits .and IntKind.u64 (Int.fdiv (IntKind.u64.wrap ((Go.bits .and IntKind.u64 (Int.fdiv x0 (2 ^ min (1 : Int).toNat IntKind.u64.bits)) 6148914691236517205) + (Go.bits .and IntKind.u64 x0 6148914691236517205))) (2 ^ min (2 : Int).toNat IntKind.u64.bits)) 3689348814741910323) + (Go.bits .and IntKind.u64 (IntKind.u64.wrap ((Go.bits .and IntKind.u64 (Int.fdiv x0 (2 ^ min (1 : Int).toNat IntKind.u64.bits)) 6148914691236517205) + (Go.bits .and IntKind.u64 x0 6148914691236517205))) 3689348814741910323))))) 1085102592571150095) + (Int.fdiv (Go.bits .and IntKind.u64 (IntKind.u64.wrap ((Int.fdiv (IntKind.u64.wrap ((Go.bits .and IntKind.u64 (Int.fdiv (IntKind.u64.wrap ((Go.bits .and IntKind.u64 (Int.fdiv x0 (2 ^ min (1 : Int).toNat IntKind.u64.bits)) 6148914691236517205) + (Go.bits .and IntKind.u64 x0 6148914691236517205))) (2 ^ min (2 : Int).toNat IntKind.u64.bits)) 3689348814741910323) + (Go.bits .and IntKind.u64 (IntKind.u64.wrap ((Go.bits .and IntKind.u64 (Int.fdiv x0 (2 ^ min (1 : Int).toNat IntKind.u64.bits)) 6148914691236517205) + (Go.bits .and IntKind.u64 x0 6148914691236517205))) 3689348814741910323))) (2 ^ min (4 : Int).toNat IntKind.u64.bits)) + (IntKind.u64.wrap ((Go.bits .and IntKind.u64 (Int.fdiv (IntKind.u64.wrap ((Go.bits .and IntKind.u64 (Int.fdiv x0 (2 ^ min (1 : Int).toNat IntKind.u64.bits)) 6148914691236517205) + (Go.bits .and IntKind.u64 x0 6148914691236517205))) (2 ^ min (2 : Int).toNat IntKind.u64.bits)) 3689348814741910323) + (Go.bits .and IntKind.u64 (IntKind.u64.wrap ((Go.bits .and IntKind.u64 (Int.fdiv x0 (2 ^ min (1 : Int).toNat IntKind.u64.bits)) 6148914691236517205) + (Go.bits .and IntKind.u64 x0 6148914691236517205))) 3689348814741910323))))) 1085102592571150095) (2 ^ min (8 : Int).toNat IntKind.u64.bits)))) + (Int.fdiv (IntKind.u64.wrap ((Go.bits .and IntKind.u64 (IntKind.u64.wrap ((Int.fdiv (IntKind.u64.wrap ((Go.bits .and IntKind.u64 (Int.fdiv (IntKind.u64.wrap ((Go.bits .and IntKind.u64 (Int.fdiv x0 (2 ^ min (1 : Int).toNat IntKind.u64.bits)) 6148914691236517205) + (Go.bits .and IntKind.u64 x0 6148914691236517205))) (2 ^ min (2 : Int).toNat IntKind.u64.bits)) 3689348814741910323) + (Go.bits .and IntKind.u64 (IntKind.u64.wrap ((Go.bits .and IntKind.u64 (Int.fdiv x0 (2 ^ min (1 : Int).toNat IntKind.u64.bits)) 6148914691236517205) + (Go.bits .and IntKind.u64 x0 6148914691236517205))) 3689348814741910323))) (2 ^ min (4 : Int).toNat IntKind.u64.bits)) + (IntKind.u64.wrap ((Go.bits .and IntKind.u64 (Int.fdiv (IntKind.u64.wrap ((Go.bits .and IntKind.u64 (Int.fdiv x0 (2 ^ min (1 : Int).toNat IntKind.u64.bits)) 6148914691236517205) + (Go.bits .and IntKind.u64 x0 6148914691236517205))) (2 ^ min (2 : Int).toNat IntKind.u64.bits)) 3689348814741910323) + (Go.bits .and IntKind.u64 (IntKind.u64.wrap ((Go.bits .and IntKind.u64 (Int.fdiv x0 (2 ^ min (1 : Int).toNat IntKind.u64.bits)) 6148914691236517205) + (Go.bits .and IntKind.u64 x0 6148914691236517205))) 3689348814741910323))))) 1085102592571150095) + (Int.fdiv (Go.bits .and IntKind.u64 (IntKind.u64.wrap ((Int.fdiv (IntKind.u64.wrap ((Go.bits .and IntKind.u64 (Int.fdiv (IntKind.u64.wrap ((Go.bits .and IntKind.u64 (Int.fdiv x0 (2 ^ min (1 : Int).toNat IntKind.u64.bits)) 6148914691236517205) + (Go.bits .and IntKind.u64 x0 6148914691236517205))) (2 ^ min (2 : Int).toNat IntKind.u64.bits)) 3689348814741910323) + (Go.bits .and IntKind.u64 (IntKind.u64.wrap ((Go.bits .and IntKind.u64 (Int.fdiv x0 (2 ^ min (1 : Int).toNat IntKind.u64.bits)) 6148914691236517205) + (Go.bits .and IntKind.u64 x0 6148914691236517205))) 3689348814741910323))) (2 ^ min (4 : Int).toNat IntKind.u64.bits)) + (IntKind.u64.wrap ((Go.bits .and IntKind.u64 (Int.fdiv (IntKind.u64.wrap ((Go.bits .and IntKind.u64 (Int.fdiv x0 (2 ^ min (1 : Int).toNat IntKind.u64.bits)) 6148914691236517205) + (Go.bits .and IntKind.u64 x0 6148914691236517205))) (2 ^ min (2 : Int).toNat IntKind.u64.bits)) 3689348814741910323) + (Go.bits .and IntKind.u64 (IntKind.u64.wrap ((Go.bits .and IntKind.u64 (Int.fdiv x0 (2 ^ min (1 : Int).toNat IntKind.u64.bits)) 6148914691236517205) + (Go.bits .and IntKind.u64 x0 6148914691236517205))) 3689348814741910323))))) 1085102592571150095) (2 ^ min (8 : Int).toNat IntKind.u64.bits)))) (2 ^ min (16 : Int).toNat IntKind.u64.bits)))) + (Int.fdiv (IntKind.u64.wrap ((IntKind.u64.wrap ((Go.bits .and IntKind.u64 (IntKind.u64.wrap ((Int.fdiv (IntKind.u64.wrap ((Go.bits .and IntKind.u64 (Int.fdiv (IntKind.u64.wrap ((Go.bits .and IntKind.u64 (Int.fdiv x0 (2 ^ min (1 : Int).toNat IntKind.u64.bits)) 6148914691236517205) + (Go.bits .and IntKind.u64 x0 6148914691236517205))) (2 ^ min (2 : Int).toNat IntKind.u64.bits)) 3689348814741910323) + (Go.bits .and IntKind.u64 (IntKind.u64.wrap ((Go.bits .and IntKind.u64 (Int.fdiv x0 (2 ^ min (1 : Int).toNat IntKind.u64.bits)) 6148914691236517205) + (Go.bits .and IntKind.u64 x0 6148914691236517205))) 3689348814741910323))) (2 ^ min (4 : Int).toNat IntKind.u64.bits)) + (IntKind.u64.wrap ((Go.bits .and IntKind.u64 (Int.fdiv (IntKind.u64.wrap ((Go.bits .and IntKind.u64 (Int.fdiv x0 (2 ^ min (1 : Int).toNat IntKind.u64.bits)) 6148914691236517205) + (Go.bits .and IntKind.u64 x0 6148914691236517205))) (2 ^ min (2 : Int).toNat IntKind.u64.bits)) 3689348814741910323) + (Go.bits .and IntKind.u64 (IntKind.u64.wrap ((Go.bits .and IntKind.u64 (Int.fdiv x0 (2 ^ min (1 : Int).toNat IntKind.u64.bits)) 6148914691236517205) + (Go.bits .and IntKind.u64 x0 6148914691236517205))) 3689348814741910323))))) 1085102592571150095) + (Int.fdiv (Go.bits .and IntKind.u64 (IntKind.u64.wrap ((Int.fdiv (IntKind.u64.wrap ((Go.bits .and IntKind.u64 (Int.fdiv (IntKind.u64.wrap ((Go.bits .and IntKind.u64 (Int.fdiv x0 (2 ^ min (1 : Int).toNat IntKind.u64.bits)) 6148914691236517205) + (Go.bits .and IntKind.u64 x0 6148914691236517205))) (2 ^ min (2 : Int).toNat IntKind.u64.bits)) 3689348814741910323) + (Go.bits .and IntKind.u64 (IntKind.u64.wrap ((Go.bits .and IntKind.u64 (Int.fdiv x0 (2 ^ min (1 : Int).toNat IntKind.u64.bits)) 6148914691236517205) + (Go.bits .and IntKind.u64 x0 6148914691236517205))) 3689348814741910323))) (2 ^ min (4 : Int).toNat IntKind.u64.bits)) + (IntKind.u64.wrap ((Go.bits .and IntKind.u64 (Int.fdiv (IntKind.u64.wrap ((Go.bits .and IntKind.u64 (Int.fdiv x0 (2 ^ min (1 : Int).toNat IntKind.u64.bits)) 6148914691236517205) + (Go.bits .and IntKind.u64 x0 6148914691236517205))) (2 ^ min (2 : Int).toNat IntKind.u64.bits)) 3689348814741910323) + (Go.bits .and IntKind.u64 (IntKind.u64.wrap ((Go.bits .and IntKind.u64 (Int.fdiv x0 (2 ^ min (1 : Int).toNat IntKind.u64.bits)) 6148914691236517205) + (Go.bits .and IntKind.u64 x0 6148914691236517205))) 3689348814741910323))))) 1085102592571150095) (2 ^ min (8 : Int).toNat IntKind.u64.bits)))) + (Int.fdiv (IntKind.u64.wrap ((Go.bits .and IntKind.u64 (IntKind.u64.wrap ((Int.fdiv (IntKind.u64.wrap ((Go.bits .and IntKind.u64 (Int.fdiv (IntKind.u64.wrap ((Go.bits .and IntKind.u64 (Int.fdiv x0 (2 ^ min (1 : Int).toNat IntKind.u64.bits)) 6148914691236517205) + (Go.bits .and IntKind.u64 x0 6148914691236517205))) (2 ^ min (2 : Int).toNat IntKind.u64.bits)) 3689348814741910323) + (Go.bits .and IntKind.u64 (IntKind.u64.wrap ((Go.bits .and IntKind.u64 (Int.fdiv x0 (2 ^ min (1 : Int).toNat IntKind.u64.bits)) 6148914691236517205) + (Go.bits .and IntKind.u64 x0 6148914691236517205))) 3689348814741910323))) (2 ^ min (4 : Int).toNat IntKind.u64.bits)) + (IntKind.u64.wrap ((Go.bits .and IntKind.u64 (Int.fdiv (IntKind.u64.wrap ((Go.bits .and IntKind.u64 (Int.fdiv x0 (2 ^ min (1 : Int).toNat IntKind.u64.bits)) 6148914691236517205) + (Go.bits .and IntKind.u64 x0 6148914691236517205))) (2 ^ min (2 : Int).toNat IntKind.u64.bits)) 3689348814741910323) + (Go.bits .and IntKind.u64 (IntKind.u64.wrap ((Go.bits .and IntKind.u64 (Int.fdiv x0 (2 ^ min (1 : Int).toNat IntKind.u64.bits)) 6148914691236517205) + (Go.bits .and IntKind.u64 x0 6148914691236517205))) 3689348814741910323))))) 1085102592571150095) + (Int.fdiv (Go.bits .and IntKind.u64 (IntKind.u64.wrap ((Int.fdiv (IntKind.u64.wrap ((Go.bits .and IntKind.u64 (Int.fdiv (IntKind.u64.wrap ((Go.bits .and IntKind.u64 (Int.fdiv x0 (2 ^ min (1 : Int).toNat IntKind.u64.bits)) 6148914691236517205) + (Go.bits .and IntKind.u64 x0 6148914691236517205))) (2 ^ min (2 : Int).toNat IntKind.u64.bits)) 3689348814741910323) + (Go.bits .and IntKind.u64 (IntKind.u64.wrap ((Go.bits .and IntKind.u64 (Int.fdiv x0 (2 ^ min (1 : Int).toNat IntKind.u64.bits)) 6148914691236517205) + (Go.bits .and IntKind.u64 x0 6148914691236517205))) 3689348814741910323))) (2 ^ min (4 : Int).toNat IntKind.u64.bits)) + (IntKind.u64.wrap ((Go.bits .and IntKind.u64 (Int.fdiv (IntKind.u64.wrap ((Go.bits .and IntKind.u64 (Int.fdiv x0 (2 ^ min (1 : Int).toNat IntKind.u64.bits)) 6148914691236517205) + (Go.bits .and IntKind.u64 x0 6148914691236517205))) (2 ^ min (2 : Int).toNat IntKind.u64.bits)) 3689348814741910323) + (Go.bits .and IntKind.u64 (IntKind.u64.wrap ((Go.bits .and IntKind.u64 (Int.fdiv x0 (2 ^ min (1 : Int).toNat IntKind.u64.bits)) 6148914691236517205) + (Go.bits .and IntKind.u64 x0 6148914691236517205))) 3689348814741910323))))) 1085102592571150095) (2 ^ min (8 : Int).toNat IntKind.u64.bits)))) (2 ^ min (16 : Int).toNat IntKind.u64.bits)))) (2 ^ min (32 : Int).toNat IntKind.u64.bits))))) 127))
theorem x_bits_OnesCount64_f_c_le (n : Nat) (x : Ts x_bits_OnesCount64_sig.pc) : OLe (x_bits_OnesCount64_f_c n x) (x_bits_OnesCount64_f x) := by
  rw [x_bits_OnesCount64_f_c, x_bits_OnesCount64_f_eq]
  repeat' first | with_reducible exact OLe.refl _ | with_reducible exact OLe.none _ | with_reducible refine OLe.cond ?_ ?_ | with_reducible refine OLe.ite ?_ ?_ | with_reducible refine OLe.bind ?_ ?_ | intro _
theorem x_bits_OnesCount64_ent : Entb Try.prog 49 := ⟨Try.f49, by kernel_rfl, by kernel_rfl, by kernel_rfl⟩
theorem x_bits_OnesCount64_ok : CtrOk Try.prog 49 ⟨x_bits_OnesCount64_sig, x_bits_OnesCount64_f⟩ :=
  ctr_of (fn := Try.f49) (by kernel_rfl) (by kernel_rfl) (fun x : Ts x_bits_OnesCount64_sig.pc => x_bits_OnesCount64_E) (fun x => ⟨fn_none, clo_none⟩) (fun h => by cases h) follows_
end FN
set_option linter.unusedVariables false
namespace FN
open Go Go.Proofs
/-! math/bits.OnesCount -/
@[reducible] def x_bits_OnesCount_sig : Sig := { ps := [none], pc := [.int .u64], rs := [none], rc := [.int .i64] }
noncomputable def x_bits_OnesCount_E : Env' := { fn := fun f => if f = 48 then some ⟨x_bits_OnesCount32_sig, x_bits_OnesCount32_f⟩ else if f = 49 then some ⟨x_bits_OnesCount64_sig, x_bits_OnesCount64_f⟩ else none, ck := ckT, cuts := [], mine := fun i => false }
noncomputable def x_bits_OnesCount_f (x : Ts x_bits_OnesCount_sig.pc) : Option (Ts x_bits_OnesCount_sig.rc) := runFn Try.prog (x_bits_OnesCount_E) Try.f41 x_bits_OnesCount_sig x
theorem x_bits_OnesCount_f_eq (x0 : (Int)) : x_bits_OnesCount_f x0 = (Option.bind (x_bits_OnesCount64_f x0) fun r1 => (some r1)) := by
  kernel_rfl
def x_bits_OnesCount_f_c (n : Nat) : ((Int)) → Option ((Int))
  | x0 => (Option.bind (x_bits_OnesCount64_f_c n x0) fun r1 => (some r1))
theorem x_bits_OnesCount_f_c_le (n : Nat) (x : Ts x_bits_OnesCount_sig.pc) : OLe (x_bits_OnesCount_f_c n x) (x_bits_OnesCount_f x) := by
  rw [x_bits_OnesCount_f_c, x_bits_OnesCount_f_eq]
  repeat' first | with_reducible exact OLe.refl _ | with_reducible exact OLe.none _ | with_reducible apply x_bits_OnesCount32_f_c_le | with_reducible apply x_bits_OnesCount64_f_c_le | with_reducible refine OLe.cond ?_ ?_ | with_reducible refine OLe.ite ?_ ?_ | with_reducible refine OLe.bind ?_ ?_ | intro _
theorem x_bits_OnesCount_ent : Entb Try.prog 41 := ⟨Try.f41, by kernel_rfl, by kernel_rfl, by kernel_rfl⟩
theorem x_bits_OnesCount_ok : CtrOk Try.prog 41 ⟨x_bits_OnesCount_sig, x_bits_OnesCount_f⟩ :=
  ctr_of (fn := Try.f41) (by kernel_rfl) (by kernel_rfl) (fun x : Ts x_bits_OnesCount_sig.pc => x_bits_OnesCount_E) (fun x => ⟨(fn_cons ⟨x_bits_OnesCount32_ok, x_bits_OnesCount32_ent⟩ (fn_cons ⟨x_bits_OnesCount64_ok, x_bits_OnesCount64_ent⟩ fn_none)), clo_none⟩) (fun h => by cases h) follows_
end FN
set_option linter.unusedVariables false
namespace FN
open Go Go.Proofs
/-! loop.example/firingnets/impl.WiresOf -/
@[reducible] def i_WiresOf_sig : Sig := { ps := [none], pc := [.view .i64], rs := [none], rc := [.int .i64] }
noncomputable def i_WiresOf_E : Env' := { fn := fun f => if f = 24 then some ⟨i_NetOk_sig, i_NetOk_f⟩ else if f = 41 then some ⟨x_bits_OnesCount_sig, x_bits_OnesCount_f⟩ else none, ck := ckT, cuts := [(5, [3, 9, 10, 11])], mine := fun i => false }
noncomputable def i_WiresOf_f (x : Ts i_WiresOf_sig.pc) : Option (Ts i_WiresOf_sig.rc) := runFn Try.prog (i_WiresOf_E) Try.f28 i_WiresOf_sig x
noncomputable def i_WiresOf_l0 (y0 : Int) (y1 : List (Int)) (y2 : Int) (y3 : Int) : Option ((Int)) := from_ Try.prog (i_WiresOf_E) Try.f28 i_WiresOf_sig [1, 1, 1, 0, 1, 0] ⟨mkT 23 [(3, .int .i64 y0), (9, .row false .i64 y1), (10, .int .i64 y2), (11, .int .i64 y3)], []⟩
theorem i_WiresOf_f_eq (x0 : (List (Int))) : i_WiresOf_f x0 = (Option.bind (i_NetOk_f x0) fun r1 => (cond ((!r1)) (some (-1)) (i_WiresOf_l0 0 x0 (List.length x0 : Int) 0))) := by
  kernel_rfl
theorem i_WiresOf_l0_eq (y0 : Int) (y1 : List (Int)) (y2 : Int) (y3 : Int) : i_WiresOf_l0 y0 y1 y2 y3 = (cond ((decide (y3 < y2))) (if (0 : Int) ≤ y3 ∧ y3 < (List.length y1 : Int) then (Option.bind (x_bits_OnesCount_f (IntKind.u64.wrap (List.getD y1 (y3 : Int).toNat 0))) fun r1 => (i_WiresOf_l0 (IntKind.i64.wrap (y0 + r1)) y1 y2 (IntKind.i64.wrap (y3 + 1)))) else none) (some (IntKind.i64.wrap (Int.tdiv y0 2)))) := by
  refine (loopK_eq Try.prog (i_WiresOf_E) (sub (Try.f28.body.getD .skip) [1, 1, 1, 0, 1, 0, 0]) _ _).trans ?_
  kernel_rfl
mutual
def i_WiresOf_l0_c : Nat → (Int) → (List (Int)) → (Int) → (Int) → Option ((Int))
  | 0, _, _, _, _ => none
  | n + 1, y0, y1, y2, y3 => (cond ((decide (y3 < y2))) (if (0 : Int) ≤ y3 ∧ y3 < (List.length y1 : Int) then (Option.bind (x_bits_OnesCount_f_c n (IntKind.u64.wrap (List.getD y1 (y3 : Int).toNat 0))) fun r1 => (i_WiresOf_l0_c n (IntKind.i64.wrap (y0 + r1)) y1 y2 (IntKind.i64.wrap (y3 + 1)))) else none) (some (IntKind.i64.wrap (Int.tdiv y0 2))))
end
def i_WiresOf_f_c (n : Nat) : ((List (Int))) → Option ((Int))
  | x0 => (Option.bind (i_NetOk_f_c n x0) fun r1 => (cond ((!r1)) (some (-1)) (i_WiresOf_l0_c n 0 x0 (List.length x0 : Int) 0)))
mutual
theorem i_WiresOf_l0_c_le : (n : Nat) → (y0 : Int) → (y1 : List (Int)) → (y2 : Int) → (y3 : Int) → OLe (i_WiresOf_l0_c n y0 y1 y2 y3) (i_WiresOf_l0 y0 y1 y2 y3)
  | 0, _, _, _, _ => OLe.none _
  | n + 1, y0, y1, y2, y3 => by
    rw [i_WiresOf_l0_c, i_WiresOf_l0_eq]
    repeat' first | with_reducible exact OLe.refl _ | with_reducible exact OLe.none _ | with_reducible apply i_NetOk_f_c_le | with_reducible apply x_bits_OnesCount_f_c_le | with_reducible apply i_WiresOf_l0_c_le | with_reducible refine OLe.cond ?_ ?_ | with_reducible refine OLe.ite ?_ ?_ | with_reducible refine OLe.bind ?_ ?_ | intro _
end
theorem i_WiresOf_f_c_le (n : Nat) (x : Ts i_WiresOf_sig.pc) : OLe (i_WiresOf_f_c n x) (i_WiresOf_f x) := by
  rw [i_WiresOf_f_c, i_WiresOf_f_eq]
  repeat' first | with_reducible exact OLe.refl _ | with_reducible exact OLe.none _ | with_reducible apply i_NetOk_f_c_le | with_reducible apply x_bits_OnesCount_f_c_le | with_reducible apply i_WiresOf_l0_c_le | with_reducible refine OLe.cond ?_ ?_ | with_reducible refine OLe.ite ?_ ?_ | with_reducible refine OLe.bind ?_ ?_ | intro _
theorem i_WiresOf_ent : Entb Try.prog 28 := ⟨Try.f28, by kernel_rfl, by kernel_rfl, by kernel_rfl⟩
theorem i_WiresOf_ok : CtrOk Try.prog 28 ⟨i_WiresOf_sig, i_WiresOf_f⟩ :=
  ctr_of (fn := Try.f28) (by kernel_rfl) (by kernel_rfl) (fun x : Ts i_WiresOf_sig.pc => i_WiresOf_E) (fun x => ⟨(fn_cons ⟨i_NetOk_ok, i_NetOk_ent⟩ (fn_cons ⟨x_bits_OnesCount_ok, x_bits_OnesCount_ent⟩ fn_none)), clo_none⟩) (fun h => by cases h) follows_
end FN
set_option linter.unusedVariables false
namespace FN
open Go Go.Proofs
/-! loop.example/firingnets/laws.FnGridFar -/
@[reducible] def w_FnGridFar_sig : Sig := { ps := [none], pc := [.view .u8], rs := [none], rc := [.bool] }
noncomputable def w_FnGridFar_E : Env' := { fn := fun f => if f = 12 then some ⟨i_GridNet_sig, i_GridNet_f⟩ else if f = 15 then some ⟨w_alive_sig, w_alive_f⟩ else if f = 21 then some ⟨s_DrawGridNet_sig, s_DrawGridNet_f⟩ else if f = 22 then some ⟨s_GridNet_sig, s_GridNet_f⟩ else if f = 23 then some ⟨i_DistancesFrom_sig, i_DistancesFrom_f⟩ else if f = 28 then some ⟨i_WiresOf_sig, i_WiresOf_f⟩ else none, ck := ckT, cuts := [(9, [3, 4, 5, 6, 7]), (13, [3, 4, 5, 6])], mine := fun i => false }
noncomputable def w_FnGridFar_f (x : Ts w_FnGridFar_sig.pc) : Option (Ts w_FnGridFar_sig.rc) := runFn Try.prog (w_FnGridFar_E) Try.f7 w_FnGridFar_sig x
noncomputable def w_FnGridFar_l0 (y0 : Int) (y1 : Int) (y2 : List (Int)) (y3 : List (Int)) (y4 : Int) : Option ((Bool)) := from_ Try.prog (w_FnGridFar_E) Try.f7 w_FnGridFar_sig [1, 1, 1, 1, 1, 1, 0, 1, 0] ⟨mkT 73 [(3, .int .i64 y0), (4, .int .i64 y1), (5, .row true .i64 y2), (6, .row true .i64 y3), (7, .int .i64 y4)], []⟩
noncomputable def w_FnGridFar_j1 (y0 : Int) (y1 : Int) (y2 : List (Int)) (y3 : List (Int)) : Option ((Bool)) := from_ Try.prog (w_FnGridFar_E) Try.f7 w_FnGridFar_sig [1, 1, 1, 1, 1, 1, 1] ⟨mkT 73 [(3, .int .i64 y0), (4, .int .i64 y1), (5, .row true .i64 y2), (6, .row true .i64 y3)], []⟩
theorem w_FnGridFar_f_eq (x0 : (List (Int))) : w_FnGridFar_f x0 = (cond ((decide (1048576 < (List.length x0 : Int)))) (some true) (Option.bind (s_DrawGridNet_f x0) fun r1 => (Option.bind (i_GridNet_f (r1.1, r1.2)) fun r2 => (cond (((List.length r2 : Int) == 0)) (Option.bind (s_GridNet_f (r1.1, r1.2)) fun r3 => (cond (((List.length r3 : Int) == 0)) (Option.bind (w_alive_f ()) fun r4 => (some r4)) (some false))) (Option.bind (i_DistancesFrom_f (r2, 1)) fun r5 => (w_FnGridFar_l0 r1.1 r1.2 r2 r5 0)))))) := by
  kernel_rfl
theorem w_FnGridFar_l0_eq (y0 : Int) (y1 : Int) (y2 : List (Int)) (y3 : List (Int)) (y4 : Int) : w_FnGridFar_l0 y0 y1 y2 y3 y4 = (cond ((decide (y4 < (List.length y3 : Int)))) (if (0 : Int) ≤ y4 ∧ y4 < (List.length y3 : Int) then (if y1 = 0 then none else (if y1 = 0 then none else (cond (((List.getD y3 (y4 : Int).toNat 0) != (IntKind.i64.wrap ((IntKind.i64.wrap (Int.tdiv y4 y1)) + (Int.tmod y4 y1))))) (some false) (w_FnGridFar_l0 y0 y1 y2 y3 (IntKind.i64.wrap (y4 + 1)))))) else none) (w_FnGridFar_j1 y0 y1 y2 y3)) := by
  refine (loopK_eq Try.prog (w_FnGridFar_E) (sub (Try.f7.body.getD .skip) [1, 1, 1, 1, 1, 1, 0, 1, 0, 0]) _ _).trans ?_
  kernel_rfl
theorem w_FnGridFar_j1_eq (y0 : Int) (y1 : Int) (y2 : List (Int)) (y3 : List (Int)) : w_FnGridFar_j1 y0 y1 y2 y3 = (Option.bind (w_alive_f ()) fun r1 => (cond (r1) (cond (((List.length y3 : Int) == (IntKind.i64.wrap (y0 * y1)))) (Option.bind (i_WiresOf_f y2) fun r2 => (some (r2 == (IntKind.i64.wrap ((IntKind.i64.wrap (y0 * (IntKind.i64.wrap (y1 - 1)))) + (IntKind.i64.wrap (y1 * (IntKind.i64.wrap (y0 - 1))))))))) (some false)) (some false))) := by
  kernel_rfl
mutual
def w_FnGridFar_l0_c : Nat → (Int) → (Int) → (List (Int)) → (List (Int)) → (Int) → Option ((Bool))
  | 0, _, _, _, _, _ => none
  | n + 1, y0, y1, y2, y3, y4 => (cond ((decide (y4 < (List.length y3 : Int)))) (if (0 : Int) ≤ y4 ∧ y4 < (List.length y3 : Int) then (if y1 = 0 then none else (if y1 = 0 then none else (cond (((List.getD y3 (y4 : Int).toNat 0) != (IntKind.i64.wrap ((IntKind.i64.wrap (Int.tdiv y4 y1)) + (Int.tmod y4 y1))))) (some false) (w_FnGridFar_l0_c n y0 y1 y2 y3 (IntKind.i64.wrap (y4 + 1)))))) else none) (w_FnGridFar_j1_c n y0 y1 y2 y3))
def w_FnGridFar_j1_c : Nat → (Int) → (Int) → (List (Int)) → (List (Int)) → Option ((Bool))
  | 0, _, _, _, _ => none
  | n + 1, y0, y1, y2, y3 => (Option.bind (w_alive_f_c n ()) fun r1 => (cond (r1) (cond (((List.length y3 : Int) == (IntKind.i64.wrap (y0 * y1)))) (Option.bind (i_WiresOf_f_c n y2) fun r2 => (some (r2 == (IntKind.i64.wrap ((IntKind.i64.wrap (y0 * (IntKind.i64.wrap (y1 - 1)))) + (IntKind.i64.wrap (y1 * (IntKind.i64.wrap (y0 - 1))))))))) (some false)) (some false)))
end
def w_FnGridFar_f_c (n : Nat) : ((List (Int))) → Option ((Bool))
  | x0 => (cond ((decide (1048576 < (List.length x0 : Int)))) (some true) (Option.bind (s_DrawGridNet_f_c n x0) fun r1 => (Option.bind (i_GridNet_f_c n (r1.1, r1.2)) fun r2 => (cond (((List.length r2 : Int) == 0)) (Option.bind (s_GridNet_f_c n (r1.1, r1.2)) fun r3 => (cond (((List.length r3 : Int) == 0)) (Option.bind (w_alive_f_c n ()) fun r4 => (some r4)) (some false))) (Option.bind (i_DistancesFrom_f_c n (r2, 1)) fun r5 => (w_FnGridFar_l0_c n r1.1 r1.2 r2 r5 0))))))
mutual
theorem w_FnGridFar_l0_c_le : (n : Nat) → (y0 : Int) → (y1 : Int) → (y2 : List (Int)) → (y3 : List (Int)) → (y4 : Int) → OLe (w_FnGridFar_l0_c n y0 y1 y2 y3 y4) (w_FnGridFar_l0 y0 y1 y2 y3 y4)
  | 0, _, _, _, _, _ => OLe.none _
  | n + 1, y0, y1, y2, y3, y4 => by
    rw [w_FnGridFar_l0_c, w_FnGridFar_l0_eq]
    repeat' first | with_reducible exact OLe.refl _ | with_reducible exact OLe.none _ | with_reducible apply i_GridNet_f_c_le | with_reducible apply w_alive_f_c_le | with_reducible apply s_DrawGridNet_f_c_le | with_reducible apply s_GridNet_f_c_le | with_reducible apply i_DistancesFrom_f_c_le | with_reducible apply i_WiresOf_f_c_le | with_reducible apply w_FnGridFar_l0_c_le | with_reducible apply w_FnGridFar_j1_c_le | with_reducible refine OLe.cond ?_ ?_ | with_reducible refine OLe.ite ?_ ?_ | with_reducible refine OLe.bind ?_ ?_ | intro _
theorem w_FnGridFar_j1_c_le : (n : Nat) → (y0 : Int) → (y1 : Int) → (y2 : List (Int)) → (y3 : List (Int)) → OLe (w_FnGridFar_j1_c n y0 y1 y2 y3) (w_FnGridFar_j1 y0 y1 y2 y3)
  | 0, _, _, _, _ => OLe.none _
  | n + 1, y0, y1, y2, y3 => by
    rw [w_FnGridFar_j1_c, w_FnGridFar_j1_eq]
    repeat' first | with_reducible exact OLe.refl _ | with_reducible exact OLe.none _ | with_reducible apply i_GridNet_f_c_le | with_reducible apply w_alive_f_c_le | with_reducible apply s_DrawGridNet_f_c_le | with_reducible apply s_GridNet_f_c_le | with_reducible apply i_DistancesFrom_f_c_le | with_reducible apply i_WiresOf_f_c_le | with_reducible apply w_FnGridFar_l0_c_le | with_reducible apply w_FnGridFar_j1_c_le | with_reducible refine OLe.cond ?_ ?_ | with_reducible refine OLe.ite ?_ ?_ | with_reducible refine OLe.bind ?_ ?_ | intro _
end
theorem w_FnGridFar_f_c_le (n : Nat) (x : Ts w_FnGridFar_sig.pc) : OLe (w_FnGridFar_f_c n x) (w_FnGridFar_f x) := by
  rw [w_FnGridFar_f_c, w_FnGridFar_f_eq]
  repeat' first | with_reducible exact OLe.refl _ | with_reducible exact OLe.none _ | with_reducible apply i_GridNet_f_c_le | with_reducible apply w_alive_f_c_le | with_reducible apply s_DrawGridNet_f_c_le | with_reducible apply s_GridNet_f_c_le | with_reducible apply i_DistancesFrom_f_c_le | with_reducible apply i_WiresOf_f_c_le | with_reducible apply w_FnGridFar_l0_c_le | with_reducible apply w_FnGridFar_j1_c_le | with_reducible refine OLe.cond ?_ ?_ | with_reducible refine OLe.ite ?_ ?_ | with_reducible refine OLe.bind ?_ ?_ | intro _
theorem w_FnGridFar_ent : Entb Try.prog 7 := ⟨Try.f7, by kernel_rfl, by kernel_rfl, by kernel_rfl⟩
theorem w_FnGridFar_ok : CtrOk Try.prog 7 ⟨w_FnGridFar_sig, w_FnGridFar_f⟩ :=
  ctr_of (fn := Try.f7) (by kernel_rfl) (by kernel_rfl) (fun x : Ts w_FnGridFar_sig.pc => w_FnGridFar_E) (fun x => ⟨(fn_cons ⟨i_GridNet_ok, i_GridNet_ent⟩ (fn_cons ⟨w_alive_ok, w_alive_ent⟩ (fn_cons ⟨s_DrawGridNet_ok, s_DrawGridNet_ent⟩ (fn_cons ⟨s_GridNet_ok, s_GridNet_ent⟩ (fn_cons ⟨i_DistancesFrom_ok, i_DistancesFrom_ent⟩ (fn_cons ⟨i_WiresOf_ok, i_WiresOf_ent⟩ fn_none)))))), clo_none⟩) (fun h => by cases h) follows_
end FN
