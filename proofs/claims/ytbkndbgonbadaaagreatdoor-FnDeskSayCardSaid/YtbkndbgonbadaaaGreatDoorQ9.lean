/- Texts of the proof, joined: parts -/
import Derived.Test.YtbkndbgonbadaaaGreatDoorQ8
import Derived.Test.YtbkndbgonbadaaaGreatDoorQ0
import Derived.Test.YtbkndbgonbadaaaGreatDoorJ14
import Derived.Test.YtbkndbgonbadaaaGreatDoorQ1
import Derived.Test.YtbkndbgonbadaaaGreatDoorK0
import Derived.Test.YtbkndbgonbadaaaGreatDoorQ3
import Derived.Test.YtbkndbgonbadaaaGreatDoorJ15
import Derived.Test.YtbkndbgonbadaaaGreatDoorJ16
set_option linter.unusedVariables false
set_option linter.unusedSimpArgs false
set_option linter.unusedSectionVars false
namespace FN
open Go
section
variable {a : List Int} {k : Int} {b : List Int} {l : List Pl} (h : DkP a k b l)
include h
omit h in
theorem clip_val (x : List Pl) (hx : x.length ≤ 1000) : x_impl_Place_f x = some x := by
  rw [x_impl_Place_f_eq, if_pos ⟨by omega, by omega, by omega⟩]
  by_cases c : (x.length : Int) = 0
  · rw [if_pos c, List.eq_nil_of_length_eq_zero (by omega : x.length = 0)]
  · rw [if_neg c]
    have : ((x.length : Int)).toNat = x.length := by omega
    rw [this, List.take_length]
theorem do_same (K A B : Int) : i_DeskDo_f (a, k, b, l, K, A, B) = s_DeskDo_f (a, k, b, l, K, A, B) := by
  have hp := PlP.sm h.2.1
  have hl := h.2.2
  have he := h.2.1.2.2
  have hlo := h.2.1.1.lo
  have hsm : ∀ p ∈ l, smP 4611686018427387904 p := fun p hp => by have := PlP.sm (h.1 p hp); exact ⟨by omega, by omega⟩
  have hW : IntKind.i64.wrap ((List.length l : Int) - 1) = (l.length : Int) - 1 := i64w (by omega) (by omega)
  have hme := made_eq h.2.1 K A B
  rw [i_do_head h]
  by_cases hh : (K ≠ 0 ∧ B ≠ 0) ∨ ((K = 2 ∨ K = 4) ∧ A ≠ 0)
  · rw [if_pos hh, do_no h (by omega)]
    rw [hme]
    simp only
    rw [if_neg (by omega), if_neg (by omega), if_neg (by omega), if_neg (by omega)]
  · rw [if_neg hh, i_DeskDo_j1_eq]
    by_cases k0 : K = 0
    · have n4 : ¬ (K = 4 ∧ A = 0 ∧ B = 0 ∧ 0 < l.length) := by omega
      have bad : ¬ ((0 ≤ A ∧ A < (a.length : Int)) ∧ (0 ≤ B ∧ B < (a.length : Int)) ∧ A ≠ B) → s_DeskDo_f (a, k, b, l, K, A, B) = some (a, k, b, l, false) := by
        intro hb
        rw [do_no h n4]
        rw [hme]
        simp only
        rw [if_neg (fun q => hb q.2), if_neg (by omega), if_neg (by omega), if_neg (by omega)]
      rw [beq_t k0]
      by_cases c1 : A < 0
      · rw [cnd_t c1, bad (by omega)]
      rw [cnd_f c1]
      by_cases c2 : (a.length : Int) ≤ A
      · rw [cnd_t c2, bad (by omega)]
      rw [cnd_f c2]
      by_cases c3 : B < 0
      · rw [cnd_t c3, bad (by omega)]
      rw [cnd_f c3]
      by_cases c4 : (a.length : Int) ≤ B
      · rw [cnd_t c4, bad (by omega)]
      rw [cnd_f c4]
      by_cases c5 : A = B
      · rw [beq_t c5, bad (by omega)]
      have hA : 0 ≤ A ∧ A < (a.length : Int) := ⟨by omega, by omega⟩
      have hB : 0 ≤ B ∧ B < (a.length : Int) := ⟨by omega, by omega⟩
      rw [beq_f c5, i_DeskDo_j2_eq, if_pos hA, if_neg (by omega), if_pos hA, i_DeskDo_j6_eq, List.length_set, if_pos hB, if_neg (by omega), if_pos hB]
      refine (do_made h n4 (z := flipV a A B) (κ := k) (st := b) (by omega) ?_).symm
      rw [hme]
      simp only
      rw [if_pos ⟨k0, hA, hB, c5⟩]
    rw [beq_f k0]
    have hB0 : B = 0 := by omega
    have m0 : ¬ (K = 0 ∧ (0 ≤ A ∧ A < (a.length : Int)) ∧ (0 ≤ B ∧ B < (a.length : Int)) ∧ A ≠ B) := fun q => k0 q.1
    by_cases k1 : K = 1
    · have n4 : ¬ (K = 4 ∧ A = 0 ∧ B = 0 ∧ 0 < l.length) := by omega
      have bad : ¬ ((0 ≤ A ∧ A < (a.length : Int)) ∧ b.getD A.toNat 0 = 0) → s_DeskDo_f (a, k, b, l, K, A, B) = some (a, k, b, l, false) := by
        intro hb
        rw [do_no h n4]
        rw [hme]
        simp only
        rw [if_neg m0, if_neg (fun q => hb q.2.2), if_neg (by omega), if_neg (by omega)]
      rw [beq_t k1]
      by_cases c1 : A < 0
      · rw [cnd_t c1, bad (by omega)]
      rw [cnd_f c1]
      by_cases c2 : (a.length : Int) ≤ A
      · rw [cnd_t c2, bad (by omega)]
      have hA : 0 ≤ A ∧ A < (b.length : Int) := ⟨by omega, by omega⟩
      rw [cnd_f c2, if_pos hA]
      by_cases c3 : List.getD b A.toNat 0 = 0
      · rw [bne_f c3, i_DeskDo_j3_eq, if_pos hA]
        refine (do_made h n4 (z := a) (κ := k) (st := List.set b A.toNat 1) (by rw [List.length_set]; omega) ?_).symm
        rw [hme]
        simp only
        rw [if_neg m0, if_pos ⟨k1, hB0, by omega, c3⟩]
      · rw [bne_t c3, bad (fun q => c3 q.2)]
    rw [beq_f k1]
    have m1 : ¬ (K = 1 ∧ B = 0 ∧ (0 ≤ A ∧ A < (a.length : Int)) ∧ b.getD A.toNat 0 = 0) := fun q => k1 q.1
    by_cases k2 : K = 2
    · have hA0 : A = 0 := by omega
      rw [beq_t k2, i_step h.2.1, Option.bind_some]
      refine (do_made h (by omega) (z := a) (κ := k) (st := stepV a k b) (by rw [stepV_len]; omega) ?_).symm
      rw [hme]
      simp only
      rw [if_neg m0, if_neg m1, if_pos ⟨k2, hA0, hB0⟩]
    rw [beq_f k2]
    by_cases k3 : K = 3
    · rw [beq_t k3]
      refine (do_made h (by omega) (z := a) (κ := A) (st := b) (by omega) ?_).symm
      rw [hme]
      simp only
      rw [if_neg m0, if_neg m1, if_neg (by omega), if_pos ⟨k3, hB0⟩]
    rw [beq_f k3]
    have hz : s_l15Made_f (a, k, b, K, A, B) = some ([], 0, []) := by
      rw [hme]
      simp only
      rw [if_neg m0, if_neg m1, if_neg (by omega), if_neg (by omega)]
    by_cases k4 : K = 4
    · have hA0 : A = 0 := by omega
      rw [beq_t k4, hW, i_DeskDo_j5_eq]
      by_cases c : 0 < l.length
      · have h1 : (0 : Int) ≤ (l.length : Int) - 1 ∧ (l.length : Int) - 1 < (l.length : Int) := ⟨by omega, by omega⟩
        have h2 : (0 : Int) ≤ (l.length : Int) - 1 ∧ (l.length : Int) - 1 ≤ (l.length : Int) := ⟨by omega, by omega⟩
        rw [cnd_f (by omega), i_DeskDo_j7_eq, if_pos h1, if_pos h2, clip_val _ (by rw [List.length_drop, List.length_take]; omega), Option.bind_some]
        obtain ⟨z, κ, st, hz', _⟩ := made_tot h.2.1 K A B
        rw [s_DeskDo_f_eq, sdesk a k b l (by omega) (by omega) hsm, decide_eq_true h, Option.bind_some, Bool.not_true, cond_false, l15Copy_val h, Option.bind_some]
        have e4 : (K == 4 && (A == 0 && (B == 0 && true))) = true := by rw [k4, hA0, hB0]; rfl
        simp only [hW]
        rw [e4, cond_true, cnd_t (by omega), if_pos h1, if_pos h2]
      · rw [cnd_t (by omega), do_no h (by omega) hz]
    · rw [beq_f k4, do_no h (by omega) hz]
end
end FN

/-! The reader of a code. -/
namespace FN
open Go
theorem pick_ok {l : List Int} (hl : Bytes l) (hn : l.length ≤ 2000) {p n : Int} (hp : 0 ≤ p) (hp' : p ≤ 1000000000) (h1 : 1 ≤ n) (hn' : n ≤ 1000000000) : ∃ v : Int, r_pick_f (l, p, n) = some (v, p + 1) ∧ 0 ≤ v ∧ v < n := by
  rw [r_pick_f_eq]
  have e1 : IntKind.i64.wrap (p + 1) = p + 1 := i64w (by omega) (by omega)
  have e2 : IntKind.i64.wrap (p + 1 - 1) = p := by rw [i64w (n := p + 1 - 1) (by omega) (by omega)]; omega
  simp only [e1, e2, and_self, if_true]
  rw [cnd_f (by omega)]
  by_cases hz : l.length = 0
  · rw [beq_t (by omega)]
    exact ⟨0, rfl, by omega, by omega⟩
  rw [beq_f (by omega)]
  by_cases hlt : p < (l.length : Int)
  · rw [cnd_t hlt, if_pos ⟨hp, hlt⟩, if_neg (by omega)]
    have hb := hl.get p.toNat
    rw [i64w (n := l.getD p.toNat 0) (by omega) (by omega)]
    exact ⟨_, rfl, Int.tmod_nonneg _ hb.1, Int.tmod_lt_of_pos _ (by omega)⟩
  · rw [cnd_f hlt, if_neg (by omega)]
    have a0 : 0 ≤ Int.tmod p (l.length : Int) := Int.tmod_nonneg _ hp
    have a1 : Int.tmod p (l.length : Int) < (l.length : Int) := Int.tmod_lt_of_pos _ (by omega)
    rw [if_pos ⟨a0, a1⟩, if_neg (by omega)]
    have e3 : IntKind.i64.wrap (IntKind.i64.wrap (p * 7) + 3) = p * 7 + 3 := by rw [i64w (n := p * 7) (by omega) (by omega), i64w (n := p * 7 + 3) (by omega) (by omega)]
    rw [e3]
    have b0 : 0 ≤ Int.tmod (p * 7 + 3) (l.length : Int) := Int.tmod_nonneg _ (by omega)
    have b1 : Int.tmod (p * 7 + 3) (l.length : Int) < (l.length : Int) := Int.tmod_lt_of_pos _ (by omega)
    rw [if_pos ⟨b0, b1⟩, if_neg (by omega), if_neg (by omega)]
    have c1 := hl.get (Int.tmod p (l.length : Int)).toNat
    have c2 := hl.get (Int.tmod (p * 7 + 3) (l.length : Int)).toNat
    generalize l.getD (Int.tmod p (l.length : Int)).toNat 0 = u at c1 ⊢
    generalize l.getD (Int.tmod (p * 7 + 3) (l.length : Int)).toNat 0 = v at c2 ⊢
    have d0 : 0 ≤ Int.tdiv p (l.length : Int) := Int.tdiv_nonneg hp (by omega)
    have d1 : Int.tdiv p (l.length : Int) ≤ p := Int.tdiv_le_self _ hp
    generalize Int.tdiv p (l.length : Int) = d at d0 d1 ⊢
    rw [i64w (n := u) (by omega) (by omega), i64w (n := v) (by omega) (by omega), i64w (n := d) (by omega) (by omega), i64w (n := u * 131) (by omega) (by omega), i64w (n := v * 1117) (by omega) (by omega), i64w (n := p * 29) (by omega) (by omega), i64w (n := d * 53) (by omega) (by omega), i64w (n := u * 131 + v * 1117) (by omega) (by omega), i64w (n := u * 131 + v * 1117 + p * 29) (by omega) (by omega), i64w (n := u * 131 + v * 1117 + p * 29 + d * 53) (by omega) (by omega)]
    have f0 : 0 ≤ u * 131 + v * 1117 + p * 29 + d * 53 := by omega
    have f1 : u * 131 + v * 1117 + p * 29 + d * 53 < 1000000000000 := by omega
    generalize u * 131 + v * 1117 + p * 29 + d * 53 = x at f0 f1 ⊢
    have g0 : 0 ≤ Int.tdiv x 64 := Int.tdiv_nonneg f0 (by omega)
    have g1 : Int.tdiv x 64 ≤ x := Int.tdiv_le_self _ f0
    rw [i64w (n := Int.tdiv x 64) (by omega) (by omega)]
    exact ⟨_, rfl, Int.tmod_nonneg _ (xor_nn f0 (by omega) g0 (by omega)), Int.tmod_lt_of_pos _ (by omega)⟩
theorem open_ok {l : List Int} (hl : Bytes l) : ∃ b : List Int, s_l20Open_f l = some (b, 0) ∧ Bytes b ∧ b.length ≤ 2000 := by
  rw [s_l20Open_f_eq]
  by_cases h : 2000 < (l.length : Int)
  · rw [cnd_t h, if_pos (by omega)]
    exact ⟨_, rfl, fun x hx => hl x (List.mem_of_mem_take (List.mem_of_mem_drop hx)), by simp; omega⟩
  · rw [cnd_f h]
    exact ⟨_, rfl, hl, by omega⟩
end FN

/-! What is drawn: nets, states, places. -/
namespace FN
open Go
theorem lenle {a b : Nat} (ha : a ≤ 100) (hb : b ≤ 100) : (a + b) * 8 ≤ 140737488355328 := by omega
theorem path_j {n : Int} (k : Nat) (hk : (k : Int) < n) (hn : n ≤ 6) (ih : ∀ y : List Int, y.length = k + 1 → ∃ l : List Int, s_PathNet_l0 n ((k + 1 : Nat) : Int) y = some l ∧ (l.length : Int) = n) (v : Int) (y : List Int) (hy : y.length = k) :
    ∃ l : List Int, s_PathNet_j1 n (k : Int) v y = some l ∧ (l.length : Int) = n := by
  rw [s_PathNet_j1_eq, w1 (n := k + 1) (by omega) (by omega)]
  by_cases h : ((k + 1 : Nat) : Int) < n
  · rw [cnd_t h, if_neg (by omega), if_pos (lenle (by omega) (by simp))]
    exact ih _ (by simp [hy])
  · rw [cnd_f h, if_pos (lenle (by omega) (by simp))]
    exact ih _ (by simp [hy])
theorem path_loop {n : Nat} (h1 : 1 ≤ n) (hn : n ≤ 6) : ∀ i, i ≤ n → ∀ y : List Int, y.length = i → ∃ l : List Int, s_PathNet_l0 (n : Int) (i : Int) y = some l ∧ (l.length : Int) = n := by
  refine advN ?_ fun i hi ih => ?_
  · intro y hy
    rw [s_PathNet_l0_eq, cnd_f (by omega)]
    exact ⟨y, rfl, by omega⟩
  · intro y hy
    rw [s_PathNet_l0_eq, cnd_t (by omega), l1In_val, Option.bind_some, cnd_t (show (1 : Int) ≤ n ∧ (n : Int) ≤ 6 by omega)]
    by_cases c : (0 : Int) < i
    · rw [cnd_t c, wsub (by omega) (by omega), if_neg (by omega)]
      exact path_j i (by omega) (by omega) ih _ y hy
    · rw [cnd_f c]
      exact path_j i (by omega) (by omega) ih _ y hy
theorem path_ok {n : Nat} (h1 : 1 ≤ n) (hn : n ≤ 6) : ∃ l : List Int, s_PathNet_f (n : Int) = some l ∧ l.length = n := by
  obtain ⟨l, h, hl⟩ := path_loop h1 hn 0 (by omega) [] rfl
  exact ⟨l, by rw [s_PathNet_f_eq]; exact h, by omega⟩
theorem ring_loop {n : Nat} (h1 : 3 ≤ n) (hn : n ≤ 6) : ∀ i, i ≤ n → ∀ y : List Int, y.length = i → ∃ l : List Int, s_RingNet_l0 (n : Int) (i : Int) y = some l ∧ (l.length : Int) = n := by
  refine advN ?_ fun i hi ih => ?_
  · intro y hy
    rw [s_RingNet_l0_eq, cnd_f (by omega)]
    exact ⟨y, rfl, by omega⟩
  · intro y hy
    rw [s_RingNet_l0_eq, cnd_t (by omega), l1In_val, Option.bind_some, cnd_t (show (3 : Int) ≤ n ∧ (n : Int) ≤ 6 by omega), if_neg (by omega), w1 (n := i + 1) (by omega) (by omega)]
    have e : IntKind.i64.wrap ((i : Int) + (n : Int)) = ((i + n : Nat) : Int) := by rw [i64w (by omega) (by omega)]; omega
    have e1 : IntKind.i64.wrap (IntKind.i64.wrap ((i : Int) + (n : Int)) - 1) = ((i + n - 1 : Nat) : Int) := by rw [e, i64w (by omega) (by omega)]; omega
    rw [e1]
    have t1 : ¬ (Int.tmod ((i + 1 : Nat) : Int) n < 0) := by have := Int.tmod_nonneg (n : Int) (show (0 : Int) ≤ ((i + 1 : Nat) : Int) by omega); omega
    have t2 : ¬ (Int.tmod ((i + n - 1 : Nat) : Int) n < 0) := by have := Int.tmod_nonneg (n : Int) (show (0 : Int) ≤ ((i + n - 1 : Nat) : Int) by omega); omega
    rw [if_neg t1, if_neg (by omega), if_neg t2, if_pos (lenle (by omega) (by simp))]
    exact ih _ (by simp [hy])
theorem ring_ok {n : Nat} (h1 : 3 ≤ n) (hn : n ≤ 6) : ∃ l : List Int, s_RingNet_f (n : Int) = some l ∧ l.length = n := by
  obtain ⟨l, h, hl⟩ := ring_loop h1 hn 0 (by omega) [] rfl
  exact ⟨l, by rw [s_RingNet_f_eq]; exact h, by omega⟩
theorem odd0 (l : List Int) (p : Int) : r_odd_f (l, p, 0) = some (false, p) := by
  rw [r_odd_f_eq, cnd_f (by omega)]
  simp
section
variable {l : List Int} (hl : Bytes l) (hn : l.length ≤ 2000)
include hl hn
theorem odd_ok {p n : Int} (hp : 0 ≤ p) (hp' : p ≤ 1000000000) (hn' : n ≤ 1000000000) : ∃ (b : Bool) (q : Int), r_odd_f (l, p, n) = some (b, q) ∧ p ≤ q ∧ q ≤ p + 1 := by
  rw [r_odd_f_eq]
  by_cases h : 0 < n
  · obtain ⟨v, h1, h2, h3⟩ := pick_ok hl hn hp hp' (show 1 ≤ n by omega) hn'
    rw [cnd_t h, h1, Option.bind_some, if_pos ⟨rfl, rfl⟩]
    exact ⟨_, p + 1, rfl, by omega, by omega⟩
  · rw [cnd_f h, if_pos ⟨rfl, rfl⟩]
    exact ⟨_, p, rfl, by omega, by omega⟩
theorem l20Net_loop {n : Nat} (h1 : 1 ≤ n) (h6 : n ≤ 6) : ∀ k : Nat, k ≤ 6 → ∀ (p : Int) (y : List Int), 0 ≤ p → p + 2 * (k : Int) ≤ 900000000 → y.length = n →
    ∃ (z : List Int) (q : Int), s_l20Net_l1 l 0 (n : Int) (k : Int) l p y = some (z, q) ∧ z.length = n ∧ p ≤ q ∧ q ≤ p + 2 * k := by
  intro k
  induction k with
  | zero =>
    intro _ p y hp hp' hy
    rw [s_l20Net_l1_eq, cnd_f (by omega), s_l20Net_j2_eq, odd0, Option.bind_some]
    exact ⟨y, p, by simp, hy, by omega, by omega⟩
  | succ k ih =>
    intro hk p y hp hp' hy
    rw [s_l20Net_l1_eq, cnd_t (by omega)]
    obtain ⟨a, e1, a0, a1⟩ := pick_ok hl hn hp (by omega) (show (1 : Int) ≤ n by omega) (by omega)
    obtain ⟨b, e2, b0, b1⟩ := pick_ok hl hn (show 0 ≤ p + 1 by omega) (by omega) (show (1 : Int) ≤ n by omega) (by omega)
    have hk1 : IntKind.i64.wrap (((k + 1 : Nat) : Int) - 1) = (k : Int) := by rw [wsub (by omega) (by omega)]; omega
    rw [e1, Option.bind_some, e2, Option.bind_some, hk1]
    simp only
    have ra : (0 : Int) ≤ a ∧ a < (y.length : Int) := ⟨a0, by omega⟩
    have rb : ∀ w : List Int, w.length = n → (0 : Int) ≤ b ∧ b < (w.length : Int) := fun w hw => ⟨b0, by omega⟩
    cases hc : (a != b) with
    | true =>
      rw [cond_true, if_pos ra, if_neg (show ¬ (b : Int) < 0 by omega), if_pos ra, if_pos (rb _ (by simp [hy])), if_neg (show ¬ (a : Int) < 0 by omega), if_pos (rb _ (by simp [hy]))]
      obtain ⟨z, q, g1, g2, g3, g4⟩ := ih (by omega) (p + 1 + 1) _ (by omega) (by omega) (show (List.set (List.set y (a : Int).toNat (Go.bits .or IntKind.i64 (List.getD y (a : Int).toNat 0) (IntKind.i64.wrap (1 * 2 ^ min (b : Int).toNat IntKind.i64.bits)))) (b : Int).toNat (Go.bits .or IntKind.i64 (List.getD (List.set y (a : Int).toNat (Go.bits .or IntKind.i64 (List.getD y (a : Int).toNat 0) (IntKind.i64.wrap (1 * 2 ^ min (b : Int).toNat IntKind.i64.bits)))) (b : Int).toNat 0) (IntKind.i64.wrap (1 * 2 ^ min (a : Int).toNat IntKind.i64.bits)))).length = n by simp [hy])
      exact ⟨z, q, g1, g2, by omega, by omega⟩
    | false =>
      rw [cond_false]
      obtain ⟨z, q, g1, g2, g3, g4⟩ := ih (by omega) (p + 1 + 1) y (by omega) (by omega) hy
      exact ⟨z, q, g1, g2, by omega, by omega⟩
theorem l20Net_j {n : Nat} (h1 : 1 ≤ n) (h6 : n ≤ 6) (p : Int) (y : List Int) (hp : 0 ≤ p) (hp' : p ≤ 800000000) (hy : y.length = n) :
    ∃ (z : List Int) (q : Int), s_l20Net_j0 l 0 (n : Int) l p y = some (z, q) ∧ z.length = n ∧ p ≤ q ∧ q ≤ p + 20 := by
  obtain ⟨v, e, v0, v1⟩ := pick_ok hl hn hp (by omega) (show (1 : Int) ≤ 6 by omega) (by omega)
  obtain ⟨m, rfl⟩ : ∃ m : Nat, v = m := ⟨v.toNat, by omega⟩
  rw [s_l20Net_j0_eq, e, Option.bind_some]
  obtain ⟨z, q, g1, g2, g3, g4⟩ := l20Net_loop hl hn h1 h6 m (by omega) (p + 1) y (by omega) (by omega) hy
  exact ⟨z, q, g1, g2, by omega, by omega⟩
theorem l20Net_ok {p : Int} (hp : 0 ≤ p) (hp' : p ≤ 700000000) : ∃ (z : List Int) (q : Int), s_l20Net_f (l, p, 0) = some (z, q) ∧ 1 ≤ z.length ∧ z.length ≤ 6 ∧ p ≤ q ∧ q ≤ p + 30 := by
  obtain ⟨v, e, v0, v1⟩ := pick_ok hl hn hp (by omega) (show (1 : Int) ≤ 6 by omega) (by omega)
  obtain ⟨m, rfl⟩ : ∃ m : Nat, v = m := ⟨v.toNat, by omega⟩
  have hm : IntKind.i64.wrap (1 + (m : Int)) = ((m + 1 : Nat) : Int) := by rw [i64w (by omega) (by omega)]; omega
  rw [s_l20Net_f_eq, e, Option.bind_some]
  simp only [hm]
  obtain ⟨pn, e1, e2⟩ := path_ok (n := m + 1) (by omega) (by omega)
  obtain ⟨u, e3, u0, u1⟩ := pick_ok hl hn (show 0 ≤ p + 1 by omega) (by omega) (show (1 : Int) ≤ 4 by omega) (by omega)
  rw [e1, Option.bind_some, e3, Option.bind_some]
  simp only
  have fin : ∀ y : List Int, y.length = m + 1 → ∃ (z : List Int) (q : Int), s_l20Net_j0 l 0 ((m + 1 : Nat) : Int) l (p + 1 + 1) y = some (z, q) ∧ 1 ≤ z.length ∧ z.length ≤ 6 ∧ p ≤ q ∧ q ≤ p + 30 := fun y hy => by
    obtain ⟨z, q, g1, g2, g3, g4⟩ := l20Net_j hl hn (n := m + 1) (by omega) (by omega) (p + 1 + 1) y (by omega) (by omega) hy
    exact ⟨z, q, g1, by omega, by omega, by omega, by omega⟩
  cases c0 : (u == 0) with
  | true =>
    rw [cond_true]
    by_cases h3 : (3 : Int) ≤ ((m + 1 : Nat) : Int)
    · obtain ⟨rn, e4, e5⟩ := ring_ok (n := m + 1) (by omega) (by omega)
      rw [cnd_t h3, e4, Option.bind_some]
      exact fin rn e5
    · rw [cnd_f h3]
      exact fin pn e2
  | false =>
    rw [cond_false]
    cases c1 : (u == 1) with
    | true =>
      rw [cond_true, if_pos (by omega)]
      exact fin _ (by simp)
    | false =>
      rw [cond_false]
      exact fin pn e2
theorem l20State_loop {n : Nat} (h6 : n ≤ 6) {k t : Int} (hk : 1 ≤ k) (hk' : k ≤ 100) : ∀ i, i ≤ n → ∀ (p : Int) (y : List Int), 0 ≤ p → p ≤ 700000000 + 2 * (i : Int) → y.length = i →
    ∃ (z : List Int) (q : Int), s_l20State_l0 l (n : Int) k 0 t (i : Int) l p y = some (z, q) ∧ z.length = n ∧ p ≤ q ∧ q ≤ p + 2 * ((n : Int) - i) := by
  refine advN ?_ fun i hi ih => ?_
  · intro p y hp hp' hy
    rw [s_l20State_l0_eq, cnd_f (by omega), s_l20State_j1_eq, odd0, Option.bind_some]
    exact ⟨y, p, by simp, hy, by omega, by omega⟩
  · intro p y hp hp' hy
    have hw : IntKind.i64.wrap ((i : Int) + 1) = ((i + 1 : Nat) : Int) := w1 hi (by omega)
    rw [s_l20State_l0_eq, cnd_t (by omega)]
    simp only [hw]
    by_cases c : 0 < t
    · obtain ⟨v, e, v0, v1⟩ := pick_ok hl hn hp (by omega) (show (1 : Int) ≤ 3 by omega) (by omega)
      rw [cnd_t c, e, Option.bind_some]
      simp only
      by_cases d : v < t
      · rw [cnd_t d, if_pos (lenle (by omega) (by simp))]
        obtain ⟨z, q, g1, g2, g3, g4⟩ := ih (p + 1) (y ++ [0]) (by omega) (by omega) (by simp [hy])
        exact ⟨z, q, g1, g2, by omega, by omega⟩
      · obtain ⟨u, e2, u0, u1⟩ := pick_ok hl hn (show 0 ≤ p + 1 by omega) (by omega) hk (by omega)
        rw [cnd_f d, e2, Option.bind_some, if_pos (lenle (by omega) (by simp))]
        obtain ⟨z, q, g1, g2, g3, g4⟩ := ih (p + 1 + 1) (y ++ [u]) (by omega) (by omega) (by simp [hy])
        exact ⟨z, q, g1, g2, by omega, by omega⟩
    · obtain ⟨u, e2, u0, u1⟩ := pick_ok hl hn hp (by omega) hk (by omega)
      rw [cnd_f c, e2, Option.bind_some, if_pos (lenle (by omega) (by simp))]
      obtain ⟨z, q, g1, g2, g3, g4⟩ := ih (p + 1) (y ++ [u]) (by omega) (by omega) (by simp [hy])
      exact ⟨z, q, g1, g2, by omega, by omega⟩
theorem l20State_ok {n : Nat} (h6 : n ≤ 6) {k : Int} (hk : 1 ≤ k) (hk' : k ≤ 100) {p : Int} (hp : 0 ≤ p) (hp' : p ≤ 600000000) : ∃ (z : List Int) (q : Int), s_l20State_f (l, p, (n : Int), k, 0) = some (z, q) ∧ z.length = n ∧ p ≤ q ∧ q ≤ p + 20 := by
  obtain ⟨v, e, v0, v1⟩ := pick_ok hl hn hp (by omega) (show (1 : Int) ≤ 3 by omega) (by omega)
  rw [s_l20State_f_eq, e, Option.bind_some]
  obtain ⟨z, q, g1, g2, g3, g4⟩ := l20State_loop hl hn h6 (t := v) hk hk' 0 (by omega) (p + 1) [] (by omega) (by omega) rfl
  exact ⟨z, q, g1, g2, by omega, by omega⟩
theorem l20Place_ok {n : Int} (hn' : n ≤ 1000000000) {p : Int} (hp : 0 ≤ p) (hp' : p ≤ 500000000) : ∃ (a : List Int) (k : Int) (b : List Int) (q : Int), s_l20Place_f (l, p, n) = some (a, k, b, q) ∧ a.length ≤ 6 ∧ b.length ≤ 7 ∧ p ≤ q ∧ q ≤ p + 100 := by
  obtain ⟨z, q, e1, z1, z6, q1, q2⟩ := l20Net_ok hl hn hp (by omega)
  obtain ⟨u, e2, u0, u1⟩ := pick_ok hl hn (show 0 ≤ q by omega) (by omega) (show (1 : Int) ≤ 3 by omega) (by omega)
  obtain ⟨v, e3, v0, v1⟩ := pick_ok hl hn (show 0 ≤ q + 1 by omega) (by omega) (show (1 : Int) ≤ 2 by omega) (by omega)
  have huv : 0 ≤ u * v ∧ u * v ≤ 2 := by
    rcases (show v = 0 ∨ v = 1 by omega) with rfl | rfl
    · simp
    · simp; omega
  have hw : IntKind.i64.wrap (3 + IntKind.i64.wrap (u * v)) = 3 + u * v := by rw [i64w (n := u * v) (by omega) (by omega), i64w (by omega) (by omega)]
  rw [s_l20Place_f_eq, e1, Option.bind_some, e2, Option.bind_some, e3, Option.bind_some]
  simp only [hw]
  obtain ⟨s, q', e4, s1, q3, q4⟩ := l20State_ok hl hn z6 (k := 3 + u * v) (by omega) (by omega) (show 0 ≤ q + 1 + 1 by omega) (by omega)
  obtain ⟨o, q5, e5, q6, q7⟩ := odd_ok hl hn (show 0 ≤ q' by omega) (by omega) hn'
  rw [e4, Option.bind_some, e5, Option.bind_some]
  simp only
  cases o with
  | false =>
    rw [cond_false, if_pos (by simp)]
    exact ⟨z, _, s, q5, rfl, z6, by omega, by omega, by omega⟩
  | true =>
    obtain ⟨w, e6, w0, w2⟩ := pick_ok hl hn (show 0 ≤ q5 by omega) (by omega) (show (1 : Int) ≤ 3 by omega) (by omega)
    rw [cond_true, e6, Option.bind_some]
    simp only
    cases c0 : (w == 0) with
    | true =>
      rw [cond_true, if_pos (lenle (by omega) (by simp)), if_pos (by simp)]
      exact ⟨z, _, s ++ [0], q5 + 1, rfl, z6, by simp; omega, by omega, by omega⟩
    | false =>
      rw [cond_false]
      cases c1 : (w == 1) with
      | true =>
        obtain ⟨x, e7, x0, x2⟩ := pick_ok hl hn (show 0 ≤ q5 + 1 by omega) (by omega) (show (1 : Int) ≤ 2 by omega) (by omega)
        rw [cond_true, e7, Option.bind_some]
        simp only
        rw [if_pos ⟨x0, by simpa using x2⟩, if_pos (by simp)]
        exact ⟨z, _, s, q5 + 1 + 1, rfl, z6, by omega, by omega, by omega⟩
      | false =>
        rw [cond_false, if_pos (by simp)]
        exact ⟨[], 0, [], q5 + 1, rfl, by simp, by simp, by omega, by omega⟩
end
end FN

/-! What is the same, is told so. -/
namespace FN
open Go
theorem sameInts_loop (a : List Int) (ha : a.length ≤ 4611686018427387904) : ∀ i, i ≤ a.length → w_sameInts_l0 a a (i : Int) = some true := by
  refine advN ?_ fun i hi ih => ?_
  · rw [w_sameInts_l0_eq, cnd_f (by omega)]
  · rw [w_sameInts_l0_eq, cnd_t (by omega), if_pos (inN hi), if_pos (inN hi), bne_f rfl, w1 hi (by omega)]
    exact ih
theorem sameInts_refl (a : List Int) (ha : a.length ≤ 4611686018427387904) : w_sameInts_f (a, a) = some true := by
  rw [w_sameInts_f_eq, bne_f rfl]
  exact sameInts_loop a ha 0 (by omega)
theorem samePlace_refl (a : List Int) (k : Int) (b : List Int) (ha : a.length ≤ 4611686018427387904) (hb : b.length ≤ 4611686018427387904) : w_samePlace_f (a, k, b, a, k, b) = some true := by
  rw [w_samePlace_f_eq, sameInts_refl a ha, Option.bind_some, cond_true, sameInts_refl b hb]
  simp
theorem alive_yes : w_alive_f () = some true := by
  rw [w_alive_f_eq, inet, Option.bind_some, inet, decide_eq_true (show NetP [2, 1] by decide), cond_true, decide_eq_false (show ¬ NetP [1] by decide)]
  rfl
end FN

/-! A desk after deeds, as a value. -/
namespace FN
open Go
abbrev Dk := List Int × Int × List Int × List Pl
abbrev DkOk (d : Dk) : Prop := DkP d.1 d.2.1 d.2.2.1 d.2.2.2
abbrev nowP (d : Dk) : Pl := (d.1, d.2.1, d.2.2.1)
/-- What a deed makes of a place. -/
noncomputable def madeV (p : Pl) (x : Dd3) : Pl := (s_l15Made_f (p.1, p.2.1, p.2.2, x.1, x.2.1, x.2.2)).getD ([], 0, [])
/-- It can be done, and is not the way back. -/
noncomputable def canV (p : Pl) (x : Dd3) : Bool := decide (PlP (madeV p x).1 (madeV p x).2.1 (madeV p x).2.2) && !decide (ptx (madeV p x).1 (madeV p x).2.1 (madeV p x).2.2 = ptx p.1 p.2.1 p.2.2)
def bkB (x : Dd3) (n : Nat) : Bool := decide (x.1 = 4 ∧ x.2.1 = 0 ∧ x.2.2 = 0 ∧ 0 < n)
def pastV (d : Dk) : List Pl := if 8 < (d.2.2.2 ++ [nowP d]).length then (d.2.2.2 ++ [nowP d]).drop 1 else d.2.2.2 ++ [nowP d]
def backV (d : Dk) : Dk := ((d.2.2.2.getD (d.2.2.2.length - 1) ([], 0, [])).1, (d.2.2.2.getD (d.2.2.2.length - 1) ([], 0, [])).2.1, (d.2.2.2.getD (d.2.2.2.length - 1) ([], 0, [])).2.2, d.2.2.2.take (d.2.2.2.length - 1))
noncomputable def doV (d : Dk) (x : Dd3) : Dk × Bool :=
  if bkB x d.2.2.2.length = true then (backV d, true)
  else if canV (nowP d) x = true then (((madeV (nowP d) x).1, (madeV (nowP d) x).2.1, (madeV (nowP d) x).2.2, pastV d), true) else (d, false)
theorem backV_ok {d : Dk} (h : DkOk d) (h0 : 0 < d.2.2.2.length) : DkOk (backV d) := by
  have hp := h.1 _ (getD_mem (d := ([], 0, [])) (show d.2.2.2.length - 1 < d.2.2.2.length by omega))
  exact ⟨fun p hp' => h.1 p (List.mem_of_mem_take hp'), hp, by have := h.2.2; show (d.2.2.2.take _).length ≤ 8; rw [List.length_take]; omega⟩
theorem doV_ok {d : Dk} (h : DkOk d) (x : Dd3) : DkOk (doV d x).1 := by
  unfold doV
  split
  · rename_i hb
    exact backV_ok h (by unfold bkB at hb; simpa using (of_decide_eq_true hb).2.2.2)
  · split
    · rename_i hc
      unfold canV at hc
      rw [Bool.and_eq_true] at hc
      have hmem : ∀ p ∈ d.2.2.2 ++ [nowP d], PlPp p := fun p hp => by
        rcases List.mem_append.1 hp with hp | hp
        · exact h.1 p hp
        · have : p = nowP d := by simpa using hp
          rw [this]; exact h.2.1
      have hq : PlP (madeV (nowP d) x).1 (madeV (nowP d) x).2.1 (madeV (nowP d) x).2.2 := by
        have := hc.1
        rwa [decide_eq_true_eq] at this
      have key : ∀ (m : Pl) (l : List Pl), PlP m.1 m.2.1 m.2.2 → (∀ p ∈ l, PlPp p) → l.length ≤ 8 → DkOk (m.1, m.2.1, m.2.2, l) := fun m l h1 h2 h3 => ⟨h2, h1, h3⟩
      refine key _ _ hq (fun p hp => ?_) ?_
      · have hp' : p ∈ pastV d := hp
        unfold pastV at hp'
        split at hp'
        · exact hmem p (List.mem_of_mem_drop hp')
        · exact hmem p hp'
      · have h8 := h.2.2
        unfold pastV
        split
        · rw [List.length_drop, List.length_append, List.length_singleton]; omega
        · omega
    · exact h
theorem doV_no {d : Dk} {x : Dd3} (h : (doV d x).2 = false) : (doV d x).1 = d := by
  unfold doV at h ⊢
  split at h
  · cases h
  · rename_i h1
    rw [if_neg h1]
    split at h
    · cases h
    · rename_i h2; rw [if_neg h2]
theorem do_val {d : Dk} (h : DkOk d) (x : Dd3) : s_DeskDo_f (d.1, d.2.1, d.2.2.1, d.2.2.2, x.1, x.2.1, x.2.2) = some ((doV d x).1.1, (doV d x).1.2.1, (doV d x).1.2.2.1, (doV d x).1.2.2.2, (doV d x).2) := by
  obtain ⟨a, k, b, l⟩ := d
  obtain ⟨K, A, B⟩ := x
  have h' : DkP a k b l := h
  have hl := h'.2.2
  have hsz := PlP.sm h'.2.1
  by_cases h4 : K = 4 ∧ A = 0 ∧ B = 0 ∧ 0 < l.length
  · have e : doV (a, k, b, l) (K, A, B) = (backV (a, k, b, l), true) := by
      unfold doV
      rw [if_pos (show bkB (K, A, B) l.length = true from decide_eq_true h4)]
    rw [e]
    obtain ⟨k4, A0, B0, c⟩ := h4
    have hsm : ∀ p ∈ l, smP 4611686018427387904 p := fun p hp => by have := PlP.sm (h'.1 p hp); exact ⟨by omega, by omega⟩
    have hW : IntKind.i64.wrap ((List.length l : Int) - 1) = (l.length : Int) - 1 := i64w (by omega) (by omega)
    have h1 : (0 : Int) ≤ (l.length : Int) - 1 ∧ (l.length : Int) - 1 < (l.length : Int) := ⟨by omega, by omega⟩
    have h2 : (0 : Int) ≤ (l.length : Int) - 1 ∧ (l.length : Int) - 1 ≤ (l.length : Int) := ⟨by omega, by omega⟩
    obtain ⟨z, κ, st, hz', _⟩ := made_tot h'.2.1 K A B
    rw [s_DeskDo_f_eq, sdesk a k b l (by omega) (by omega) hsm, decide_eq_true h', Option.bind_some, Bool.not_true, cond_false, l15Copy_val h', Option.bind_some]
    have e4 : (K == 4 && (A == 0 && (B == 0 && true))) = true := by rw [k4, A0, B0]; rfl
    simp only [hW]
    rw [e4, cond_true, cnd_t (by omega), if_pos h1, if_pos h2]
    have hi : ((l.length : Int) - 1).toNat = l.length - 1 := by omega
    rw [hi]
    rfl
  · obtain ⟨z, κ, st, hz, hst⟩ := made_tot h'.2.1 K A B
    have hmv : madeV (a, k, b) (K, A, B) = (z, κ, st) := by unfold madeV; rw [hz]; rfl
    have hb : ¬ bkB (K, A, B) l.length = true := fun hh => h4 (of_decide_eq_true hh)
    show s_DeskDo_f (a, k, b, l, K, A, B) = _
    rw [do_made h' h4 hst hz, i_DeskDo_j4_eq, ipl z κ st (by omega), Option.bind_some, (ptx_val z κ st (by omega)).1, Option.bind_some, (ptx_val a k b (by omega)).1, Option.bind_some]
    unfold doV
    simp only
    rw [if_neg hb]
    unfold canV
    simp only [hmv]
    have hlen : (l ++ ([(a, k, b)] : List (List Int × Int × List Int))).length = l.length + 1 := by simp
    have hmem : ∀ p ∈ l ++ ([(a, k, b)] : List (List Int × Int × List Int)), PlPp p := fun p hp => by
      rcases List.mem_append.1 hp with hp | hp
      · exact h'.1 p hp
      · have : p = (a, k, b) := by simpa using hp
        rw [this]; exact h'.2.1
    by_cases hq : PlP z κ st
    · rw [decide_eq_true hq, Bool.not_true, cond_false, Bool.true_and]
      by_cases he : ptx z κ st = ptx a k b
      · rw [he, show (ByteArray.toList (ptx a k b) == ByteArray.toList (ptx a k b)) = true from by simp, cond_true, decide_eq_true rfl, if_neg (by simp)]
      · have hne : (ByteArray.toList (ptx z κ st) == ByteArray.toList (ptx a k b)) = false := by
          cases hc : (ByteArray.toList (ptx z κ st) == ByteArray.toList (ptx a k b)) with
          | false => rfl
          | true =>
            exfalso
            apply he
            have := beq_bytes (a := ptx z κ st) (b := ptx a k b) (x := 0) (y := 1)
            rw [hc, Bool.not_true, cond_false] at this
            by_cases h0 : ptx z κ st = ptx a k b
            · exact h0
            · rw [if_neg h0] at this; cases this
        have h56 : (List.length l + List.length ([(a, k, b)] : List (List Int × Int × List Int))) * 56 ≤ 140737488355328 := by simp; omega
        have hin : (0 : Int) ≤ 1 ∧ 1 ≤ ((l.length + 1 : Nat) : Int) := ⟨by omega, by omega⟩
        rw [hne, cond_false, decide_eq_false he, Bool.not_false, if_pos rfl, copyPl (p := (a, k, b)) h'.2.1, Option.bind_some]
        simp only [if_pos h56, hlen, if_pos hin]
        unfold pastV
        simp only
        by_cases c8 : (8 : Int) < ((l.length + 1 : Nat) : Int)
        · have hd : DkP z κ st (List.drop (1 : Int).toNat (List.take (l.length + 1) (l ++ ([(a, k, b)] : List (List Int × Int × List Int))))) := ⟨fun p hp' => hmem p (List.mem_of_mem_take (List.mem_of_mem_drop hp')), hq, by rw [List.length_drop, List.length_take, hlen, show (1 : Int).toNat = 1 from rfl]; omega⟩
          rw [cnd_t c8, icopy_val hd, Option.bind_some, if_pos (show 8 < (l ++ ([(a, k, b)] : List Pl)).length by rw [hlen]; omega)]
          have ht : List.take (l.length + 1) (l ++ ([(a, k, b)] : List (List Int × Int × List Int))) = l ++ [(a, k, b)] := List.take_of_length_le (by rw [hlen]; omega)
          rw [ht]
          rfl
        · have hd : DkP z κ st (l ++ ([(a, k, b)] : List (List Int × Int × List Int))) := ⟨hmem, hq, by rw [hlen]; omega⟩
          rw [cnd_f c8, icopy_val hd, Option.bind_some, if_neg (show ¬ 8 < (l ++ ([(a, k, b)] : List Pl)).length by rw [hlen]; omega)]
    · rw [decide_eq_false hq, Bool.not_false, cond_true, Bool.false_and, if_neg (by simp)]
theorem ido_val {d : Dk} (h : DkOk d) (x : Dd3) : i_DeskDo_f (d.1, d.2.1, d.2.2.1, d.2.2.2, x.1, x.2.1, x.2.2) = some ((doV d x).1.1, (doV d x).1.2.1, (doV d x).1.2.2.1, (doV d x).1.2.2.2, (doV d x).2) := by
  rw [do_same h]; exact do_val h x
/-! Two desks at one place. -/
end FN

/-! What is drawn: deeds, spoilt texts. -/
namespace FN
open Go
section
variable {l : List Int} (hl : Bytes l) (hn : l.length ≤ 2000)
include hl hn
theorem deed_j0 (κ A B : Int) {p : Int} (hp : 0 ≤ p) (hp' : p ≤ 900000000) : ∃ (k a b q : Int), s_l20Deed_j0 l l p 0 0 0 κ A B = some (k, a, b, q) ∧ p ≤ q ∧ q ≤ p + 5 := by
  obtain ⟨bb, q, e1, q1, q2⟩ := odd_ok hl hn hp (by omega) (n := 40) (by omega)
  rw [s_l20Deed_j0_eq, e1, Option.bind_some]
  cases bb with
  | false => simp only [cond_false]; exact ⟨κ, A, B, q, by simp, by omega, by omega⟩
  | true =>
    simp only [cond_true]
    obtain ⟨u, e2, u0, u1⟩ := pick_ok hl hn (show 0 ≤ q by omega) (by omega) (show (1 : Int) ≤ 2 by omega) (by omega)
    rw [e2, Option.bind_some]
    simp only
    by_cases c : u = 0
    · obtain ⟨v, e3, v0, v1⟩ := pick_ok hl hn (show 0 ≤ q + 1 by omega) (by omega) (show (1 : Int) ≤ 2 by omega) (by omega)
      rw [beq_t c, e3, Option.bind_some, if_pos (show (0 : Int) ≤ v ∧ v < (List.length ([(-1), 100] : List Int) : Int) from ⟨v0, v1⟩)]
      exact ⟨κ, _, B, q + 1 + 1, if_pos (by simp), by omega, by omega⟩
    · rw [beq_f c]
      exact ⟨κ, A, 99, q + 1, by simp, by omega, by omega⟩
theorem l20Deed_ok {a b : List Int} {k : Int} (ha : a.length ≤ 100) {p : Int} (hp : 0 ≤ p) (hp' : p ≤ 850000000) : ∃ (k' a' b' q : Int), s_l20Deed_f (l, p, a, k, b) = some (k', a', b', q) ∧ p ≤ q ∧ q ≤ p + 20 := by
  obtain ⟨u, e1, u0, u1⟩ := pick_ok hl hn hp (by omega) (show (1 : Int) ≤ 8 by omega) (by omega)
  obtain ⟨v, e2, v0, v1⟩ := pick_ok hl hn (show 0 ≤ p + 1 by omega) (by omega) (show (1 : Int) ≤ 60 by omega) (by omega)
  have hm : ∀ x : Int, x = (if 1 > (List.length a : Int) then 1 else (List.length a : Int)) → 1 ≤ x ∧ x ≤ 1000000000 := by
    intro x hx; split at hx <;> omega
  obtain ⟨w, e3, w0, w1⟩ := pick_ok hl hn (show 0 ≤ p + 1 + 1 by omega) (by omega) (hm _ rfl).1 (hm _ rfl).2
  obtain ⟨x, e4, x0, x1⟩ := pick_ok hl hn (show 0 ≤ p + 1 + 1 + 1 by omega) (by omega) (hm _ rfl).1 (hm _ rfl).2
  obtain ⟨y, e5, y0, y1⟩ := pick_ok hl hn (show 0 ≤ p + 1 + 1 by omega) (by omega) (show (1 : Int) ≤ 3 by omega) (by omega)
  rw [s_l20Deed_f_eq, e1, Option.bind_some]
  simp only
  rw [if_pos (show (0 : Int) ≤ u ∧ u < (List.length ([0, 0, 1, 1, 2, 2, 3, 4] : List Int) : Int) from ⟨u0, u1⟩), e2, Option.bind_some]
  simp only
  generalize IntKind.i64.wrap (List.getD [0, 0, 1, 1, 2, 2, 3, 4] (u : Int).toNat 0 + IntKind.i64.wrap (IntKind.i64.wrap (Int.tdiv v 59) * 5)) = κ
  have fin : ∀ A B q : Int, p ≤ q → q ≤ p + 10 → ∃ (k' a' b' q' : Int), s_l20Deed_j0 l l q 0 0 0 κ A B = some (k', a', b', q') ∧ p ≤ q' ∧ q' ≤ p + 20 := fun A B q h1 h2 => by
    obtain ⟨k', a', b', q', g1, g2, g3⟩ := deed_j0 hl hn κ A B (p := q) (by omega) (by omega)
    exact ⟨k', a', b', q', g1, by omega, by omega⟩
  by_cases c0 : κ = 0
  · rw [beq_t c0, e3, Option.bind_some]
    simp only
    rw [e4, Option.bind_some]
    exact fin _ _ _ (by first | omega | (simp only; omega)) (by first | omega | (simp only; omega))
  · rw [beq_f c0]
    by_cases c1 : κ = 1
    · rw [beq_t c1, e3, Option.bind_some]
      exact fin _ _ _ (by first | omega | (simp only; omega)) (by first | omega | (simp only; omega))
    · rw [beq_f c1]
      by_cases c3 : κ = 3
      · rw [beq_t c3, e5, Option.bind_some]
        exact fin _ _ _ (by first | omega | (simp only; omega)) (by first | omega | (simp only; omega))
      · rw [beq_f c3]
        exact fin _ _ _ (by first | omega | (simp only; omega)) (by first | omega | (simp only; omega))
end
end FN

/-! Desks that are drawn. -/
namespace FN
open Go
theorem doO_same {a : List Int} {k : Int} {b : List Int} {l : List Pl} (h : DkP a k b l) (h7 : l.length ≤ 7) (K A B : Int) : s_DeskDoO_f (a, k, b, l, K, A, B) = s_DeskDo_f (a, k, b, l, K, A, B) := by
  have hm := PlP.sm h.2.1
  have hl := h.2.2
  have hsm : ∀ p ∈ l, smP 4611686018427387904 p := fun p hp => by have := PlP.sm (h.1 p hp); exact ⟨by omega, by omega⟩
  obtain ⟨z, κ, st, hz, hst⟩ := made_tot h.2.1 K A B
  obtain ⟨t1, t1', _⟩ := placeText_same z κ st (by omega)
  obtain ⟨t2, t2', _⟩ := placeText_same a k b (by omega)
  have c8 : ¬ (8 : Int) < ((l ++ [(a, k, b)] : List Pl).length : Int) := by
    rw [List.length_append, List.length_singleton]; omega
  rw [s_DeskDoO_f_eq, s_DeskDo_f_eq]
  simp only [sdesk a k b l (by omega) (by omega) hsm, decide_eq_true h, Option.bind_some, Bool.not_true, cond_false, l15Copy_val h, hz, spl z κ st (by omega), t1', t2', decide_eq_false c8, s_DeskDo_j1_eq, s_DeskDoO_j1_eq, List.drop_zero]
/-- What a drawn desk is on its way. -/
def OnWay (m : Nat) (d : Dk) : Prop := (DkOk d ∧ d.2.2.2.length ≤ m) ∨ d = ([], 0, [], [])
theorem noDk : ¬ DkP [] 0 [] [] := fun h => no_zero h.2.1
theorem OnWay.sm {m : Nat} {d : Dk} (h : OnWay m d) : d.1.length ≤ 6 ∧ d.2.2.1.length ≤ 6 ∧ d.2.2.2.length ≤ 8 ∧ ∀ p ∈ d.2.2.2, p.1.length ≤ 6 ∧ p.2.2.length ≤ 6 := by
  rcases h with ⟨h, _⟩ | rfl
  · have := PlP.sm h.2.1
    exact ⟨this.1, this.2, h.2.2, fun p hp => PlP.sm (h.1 p hp)⟩
  · simp
theorem doV_len {d : Dk} (x : Dd3) : (doV d x).1.2.2.2.length ≤ d.2.2.2.length + 1 := by
  unfold doV
  split
  · show (d.2.2.2.take _).length ≤ _
    rw [List.length_take]; omega
  · split
    · show (pastV d).length ≤ _
      unfold pastV
      split
      · rw [List.length_drop, List.length_append, List.length_singleton]; omega
      · rw [List.length_append, List.length_singleton]
        omega
    · show d.2.2.2.length ≤ _
      omega
theorem doO_way {m : Nat} (hm : m ≤ 7) {d : Dk} (h : OnWay m d) (x : Dd3) : ∃ d' t, s_DeskDoO_f (d.1, d.2.1, d.2.2.1, d.2.2.2, x.1, x.2.1, x.2.2) = some (d'.1, d'.2.1, d'.2.2.1, d'.2.2.2, t) ∧ OnWay (m + 1) d' := by
  rcases h with ⟨h, hl⟩ | rfl
  · refine ⟨(doV d x).1, (doV d x).2, ?_, .inl ⟨doV_ok h x, by have := doV_len (d := d) x; omega⟩⟩
    rw [doO_same h (by omega)]
    exact do_val h x
  · refine ⟨([], 0, [], []), false, ?_, .inr rfl⟩
    rw [s_DeskDoO_f_eq, sdesk [] 0 [] [] (by simp) (by simp) (by simp), decide_eq_false noDk, Option.bind_some]
    rfl
theorem OnWay.up {m n : Nat} (hmn : m ≤ n) {d : Dk} (h : OnWay m d) : OnWay n d := by
  rcases h with ⟨h, hl⟩ | h
  · exact .inl ⟨h, by omega⟩
  · exact .inr h
section
variable {l : List Int} (hl : Bytes l) (hn : l.length ≤ 2000)
include hl hn
/-- A drawn desk: its sizes. -/
def DOut (o : Option (List Int × Int × List Int × List Pl × Int)) : Prop := ∃ (d : Dk) (q : Int), o = some (d.1, d.2.1, d.2.2.1, d.2.2.2, q) ∧ d.1.length ≤ 6 ∧ d.2.2.1.length ≤ 6 ∧ d.2.2.2.length ≤ 9 ∧ (∀ p ∈ d.2.2.2, p.1.length ≤ 6 ∧ p.2.2.length ≤ 6) ∧ 0 ≤ q ∧ q ≤ 800000000
theorem desk_j1 (y0 y4 : Int) (hy0 : y0 ≤ 1000) {p : Int} (hp : 0 ≤ p) (hp' : p ≤ 700000000) {m : Nat} {d : Dk} (h : OnWay m d) : DOut (s_l20Desk_j1 l y0 l p y4 d.1 d.2.1 d.2.2.1 d.2.2.2) := by
  obtain ⟨s1, s2, s3, s4⟩ := h.sm
  obtain ⟨bb, q, e1, q1, q2⟩ := odd_ok hl hn hp (by omega) (n := y0) (by omega)
  rw [s_l20Desk_j1_eq, e1, Option.bind_some]
  cases bb with
  | false => simp only [cond_false]; exact ⟨d, q, by simp, s1, s2, by omega, s4, by omega, by omega⟩
  | true =>
    simp only [cond_true]
    obtain ⟨u, e2, u0, u1⟩ := pick_ok hl hn (show 0 ≤ q by omega) (by omega) (show (1 : Int) ≤ 3 by omega) (by omega)
    rw [e2, Option.bind_some]
    simp only
    by_cases c0 : u = 0
    · rw [beq_t c0]
      exact ⟨(d.1, 2, d.2.2.1, d.2.2.2), q + 1, by simp, s1, s2, by show d.2.2.2.length ≤ 9; omega, s4, by omega, by omega⟩
    · rw [beq_f c0]
      by_cases c1 : u = 1
      · rw [beq_t c1, if_pos (by rw [List.length_singleton]; omega)]
        refine ⟨(d.1, d.2.1, d.2.2.1, d.2.2.2 ++ [([], 0, [])]), q + 1, by simp, s1, s2, ?_, ?_, by omega, by omega⟩
        · show (d.2.2.2 ++ [([], 0, [])]).length ≤ 9
          rw [List.length_append, List.length_singleton]; omega
        · intro p hp
          rcases List.mem_append.1 hp with hp | hp
          · exact s4 p hp
          · have : p = ([], 0, []) := by simpa using hp
            rw [this]; simp
      · rw [beq_f c1]
        exact ⟨([], 0, [], []), q + 1, by simp, by simp, by simp, by simp, by simp, by omega, by omega⟩
theorem desk_loop (y0 y4 : Int) (hy0 : y0 ≤ 1000) : ∀ m : Nat, m ≤ 4 → ∀ (p : Int) (d : Dk), 0 ≤ p → p + 100 * (m : Int) ≤ 600000000 → OnWay (4 - m) d → DOut (s_l20Desk_l0 l y0 (m : Int) l p y4 d.1 d.2.1 d.2.2.1 d.2.2.2) := by
  intro m
  induction m with
  | zero =>
    intro _ p d hp hp' h
    rw [s_l20Desk_l0_eq, cnd_f (by omega)]
    exact desk_j1 hl hn y0 y4 hy0 hp (by omega) h
  | succ m ih =>
    intro hm p d hp hp' h
    obtain ⟨s1, s2, s3, s4⟩ := h.sm
    obtain ⟨K, A, B, q, e2, q1, q2⟩ := l20Deed_ok hl hn (a := d.1) (b := d.2.2.1) (k := d.2.1) (by omega) hp (by omega)
    obtain ⟨d', t, e3, h3⟩ := doO_way (by omega) h (K, A, B)
    simp only at e3
    have hm1 : IntKind.i64.wrap (((m + 1 : Nat) : Int) - 1) = (m : Int) := by rw [wsub (by omega) (by omega)]; omega
    rw [s_l20Desk_l0_eq, cnd_t (by omega), e2, Option.bind_some]
    simp only
    rw [e3, Option.bind_some, hm1]
    cases t with
    | true => exact ih (by omega) q d' (by omega) (by omega) (h3.up (by omega))
    | false => exact ih (by omega) q d (by omega) (by omega) (h.up (by omega))
theorem l20Desk_ok (y0 : Int) (hy0 : y0 ≤ 1000) {p : Int} (hp : 0 ≤ p) (hp' : p ≤ 400000000) : DOut (s_l20Desk_f (l, p, y0)) := by
  obtain ⟨a, k, b, q, e1, h1, h2, q1, q2⟩ := l20Place_ok hl hn (n := 0) (by omega) hp (by omega)
  obtain ⟨u, e3, u0, u1⟩ := pick_ok hl hn (show 0 ≤ q by omega) (by omega) (show (1 : Int) ≤ 5 by omega) (by omega)
  have hnew : ∃ d : Dk, ∃ t, s_DeskNew_f (a, k, b) = some (d.1, d.2.1, d.2.2.1, d.2.2.2, t) ∧ OnWay 0 d := by
    rw [s_DeskNew_f_eq, spl a k b (by omega), Option.bind_some]
    by_cases h : PlP a k b
    · rw [decide_eq_true h, Bool.not_true, cond_false, l15Place_val a k b (by omega) (by omega), Option.bind_some]
      exact ⟨(a, k, b, []), true, rfl, .inl ⟨⟨by simp, h, by simp⟩, by simp⟩⟩
    · rw [decide_eq_false h]
      exact ⟨([], 0, [], []), false, rfl, .inr rfl⟩
  obtain ⟨d, t, e2, hd⟩ := hnew
  obtain ⟨m, rfl⟩ : ∃ m : Nat, u = m := ⟨u.toNat, by omega⟩
  rw [s_l20Desk_f_eq, e1, Option.bind_some]
  simp only
  rw [e2, Option.bind_some]
  simp only
  rw [e3, Option.bind_some]
  exact desk_loop hl hn y0 0 hy0 m (by omega) (q + 1) d (by omega) (by omega) (hd.up (by omega))
end
end FN

