/- Texts of the proof, joined: parts -/
import Derived.Test.YtbkndbgonbadaaaGreatDoorJ8
import Derived.Test.YtbkndbgonbadaaaGreatDoorQ5
import Derived.Test.YtbkndbgonbadaaaGreatDoorQ4
import Derived.Test.YtbkndbgonbadaaaGreatDoorJ9
import Derived.Test.YtbkndbgonbadaaaGreatDoorJ10
import Derived.Test.YtbkndbgonbadaaaGreatDoorJ11
set_option linter.unusedVariables false
set_option linter.unusedSimpArgs false
set_option linter.unusedSectionVars false
/-! Where it comes to rest. -/
namespace FN
open Go
theorem RepAt.zero {g : Nat → Int} {i n j : Nat} (hr : RepAt g i n) (hz : ∀ a, g a = 0 → g (a + 1) = 0) (hj : g j = 0) (hjn : j ≤ n) (hb : ∀ m, m < j → g m ≠ 0) : i = j ∧ n = j + 1 := by
  have hlt := hr.lt
  have hne : j ≠ n := by
    rintro rfl
    exact hb i hlt (hr.eq.trans hj)
  have h1 := hz j hj
  have hn : n = j + 1 := by
    by_cases c : j + 1 < n
    · exact absurd (hj.trans h1.symm) (hr.apart j (j + 1) (by omega) c)
    · omega
  subst hn
  refine ⟨?_, rfl⟩
  by_cases c : i < j
  · exact absurd (hr.eq.trans h1) (hb i c)
  · omega
theorem endsG_val {num : List Int → Option Int} {step : List Int → Option (List Int)} {g : Nat → Int} {S : Nat → List Int} {i n : Nat} (hr : RepAt g i n) (hz : ∀ a, g a = 0 → g (a + 1) = 0) (hs : ∀ j, j < n → step (S j) = some (S (j + 1))) (hn : ∀ j, j ≤ n → num (S j) = some (g j)) (hb : ∀ j, 0 ≤ g j ∧ g j ≤ 4611686018427387904) (f : Nat) (hf : n < f) :
    endsG num step f [] (S 0) = some (if g i = 0 then (i : Int) else -1) := by
  have hlt := hr.lt
  have key : ∀ d j, n - j = d → j ≤ n → (∀ m, m < j → g m ≠ 0) → ∀ f, d < f → endsG num step f ((List.range j).map g) (S j) = some (if g i = 0 then (i : Int) else -1) := by
    intro d
    induction d with
    | zero =>
      intro j hd hj hm f hf
      have hjn : j = n := by omega
      subst hjn
      cases f with
      | zero => omega
      | succ f =>
        unfold endsG
        rw [hn j (Nat.le_refl j), Option.bind_some, if_pos (hb j)]
        have h0 : g j ≠ 0 := fun e => by
          have := (hr.zero hz e (Nat.le_refl _) hm).2
          omega
        have hmem : g j ∈ (List.range j).map g := List.mem_map.2 ⟨i, List.mem_range.2 hlt, hr.eq⟩
        rw [if_neg h0, if_pos hmem, if_neg (fun e => h0 (hr.eq ▸ e))]
    | succ d ih =>
      intro j hd hj hm f hf
      have hjn : j < n := by omega
      cases f with
      | zero => omega
      | succ f =>
        unfold endsG
        rw [hn j hj, Option.bind_some, if_pos (hb j)]
        by_cases h0 : g j = 0
        · obtain ⟨e1, e2⟩ := hr.zero hz h0 hj hm
          rw [if_pos h0, e1, if_pos h0]
          simp
        · have hmem : g j ∉ (List.range j).map g := fun hx => by
            obtain ⟨k, hk, e⟩ := List.mem_map.1 hx
            exact hr.apart k j (List.mem_range.1 hk) hjn e
          rw [if_neg h0, if_neg hmem, hs j hjn, Option.bind_some]
          have := ih (j + 1) (by omega) (by omega) (fun m hm' => by
            by_cases e : m = j
            · rw [e]; exact h0
            · exact hm m (by omega)) f (by omega)
          rw [List.range_succ, List.map_append] at this
          exact this
  have := key (n - 0) 0 rfl (by omega) (fun m hm => by omega) f (by omega)
  simpa using this
end FN

/-! LoopOf and EndsAt: the program's and the reference's alike. -/
namespace FN
open Go
theorem same_val {u v : List Int} (h : u.length = v.length) (h6 : u.length ≤ 1000) : s_l3Same_f (u, v) = some (decide (u = v)) := by
  apply Tells.val
  rw [s_l3Same_f_eq]
  have main : ∀ i, i ≤ u.length → Tells (s_l3Same_l0 u v (i : Int)) (∀ k, i ≤ k → k < u.length → u.getD k 0 = v.getD k 0) := by
    refine advN ?_ fun i hi ih => ?_
    · refine Tells.eq ?_ (Tells.yes fun k h1 h2 => by omega)
      rw [s_l3Same_l0_eq, cnd_f (by omega)]
    · rw [s_l3Same_l0_eq, cnd_t (by omega), if_pos (inN hi), if_pos (by rw [← h]; exact inN hi), gN, gN, w1 hi (by omega)]
      by_cases c : u.getD i 0 = v.getD i 0
      · rw [bne_f c]
        refine ih.iff ⟨fun hh k h1 h2 => ?_, fun hh k h1 h2 => hh k (by omega) h2⟩
        by_cases e : k = i
        · rw [e]; exact c
        · exact hh k (by omega) h2
      · rw [bne_t c]
        exact Tells.no fun hh => c (hh i (Nat.le_refl i) hi)
  exact (main 0 (by omega)).iff ⟨fun hh => ext_get h fun k hk => hh k (by omega) hk, fun e k _ _ => by rw [e]⟩
theorem numV_zero {k : Int} (hk : 0 < k) : ∀ {l : List Int}, (∀ x ∈ l, 0 ≤ x ∧ x < k) → (numV k l = 0 ↔ ∀ j, j < l.length → l.getD j 0 = 0)
  | [], _ => ⟨fun _ j hj => by simp at hj, fun _ => rfl⟩
  | x :: l, h => by
    have hx := h x (by simp)
    have hl : ∀ y ∈ l, 0 ≤ y ∧ y < k := fun y hy => h y (by simp [hy])
    have h0 := (numV_bound hk hl).1
    have hm : 0 ≤ numV k l * k := Int.mul_nonneg h0 (by omega)
    rw [numV_cons]
    constructor
    · intro e
      have e1 : x = 0 := by omega
      have e2 : numV k l = 0 := by
        have : numV k l * k = 0 := by omega
        rcases Int.mul_eq_zero.1 this with c | c
        · exact c
        · omega
      have := (numV_zero hk hl).1 e2
      intro j hj
      cases j with
      | zero => simpa using e1
      | succ j => simpa using this j (by simpa using hj)
    · intro hz
      have e1 : x = 0 := by simpa using hz 0 (by simp)
      have e2 := (numV_zero hk hl).2 fun j hj => by simpa using hz (j + 1) (by simpa using hj)
      rw [e1, e2]
      omega
section
variable {a : List Int} {k : Int} {b : List Int} (h : PlP a k b)
include h
theorem st_len (j : Nat) : (stN a k b j).length = b.length := (stN_ok h j).2
theorem st_eq (i j : Nat) : stN a k b i = stN a k b j ↔ gN_ a k b i = gN_ a k b j :=
  ⟨fun e => by unfold gN_; rw [e], fun e => numV_inj (by rw [st_len h, st_len h]) (stN_ok h i).1.2.1.mem (stN_ok h j).1.2.1.mem e⟩
theorem st_step (j : Nat) : s_l3Step_f (a, k, stN a k b j) = some (stN a k b (j + 1)) := s_step (stN_ok h j).1
theorem st_same (i j : Nat) : s_l3Same_f (stN a k b i, stN a k b j) = some (decide (gN_ a k b i = gN_ a k b j)) := by
  have hl := h.2.1.2.2.2.2
  rw [same_val (by rw [st_len h, st_len h]) (by rw [st_len h]; omega)]
  congr 1
  rw [Bool.eq_iff_iff, decide_eq_true_eq, decide_eq_true_eq]
  exact st_eq h i j
theorem g_zero (j : Nat) (e : gN_ a k b j = 0) : gN_ a k b (j + 1) = 0 := by
  have hp := (stN_ok h j).1
  have hp' := (stN_ok h (j + 1)).1
  have hk := h.2.1.2.1
  have hz := (numV_zero (by omega) hp.2.1.mem).1 e
  refine (numV_zero (by omega) hp'.2.1.mem).2 fun i hi => ?_
  have hl : i < (stN a k b j).length := by rw [st_len h] at hi ⊢; exact hi
  show (stepV a k (stN a k b j)).getD i 0 = 0
  rw [stepV_get hp hl]
  unfold stepAt
  have hi0 := hz i hl
  rw [if_neg (by omega), if_neg]
  rintro ⟨m, m1, m2, m3⟩
  have := hz m m1
  omega
section
variable {i n : Nat} (hr : RepAt (gN_ a k b) i n)
include hr
theorem loop_far {K : Nat} (h1 : 1 ≤ K) (h2 : gN_ a k b K = gN_ a k b (2 * K)) (h3 : ∀ m, 1 ≤ m → m < K → gN_ a k b m ≠ gN_ a k b (2 * m)) : ∀ m, m ≤ K → 1 ≤ m → s_LoopOf_l0 a k b (stN a k b m) (stN a k b (2 * m)) = s_LoopOf_j1 a k b (stN a k b (2 * K)) := by
  refine advN ?_ fun m hm ih => ?_
  · intro _
    rw [s_LoopOf_l0_eq, st_same h, Option.bind_some, decide_eq_true h2, Bool.not_true, cond_false]
  · intro hm1
    rw [s_LoopOf_l0_eq, st_same h, Option.bind_some, decide_eq_false (h3 m hm1 hm), Bool.not_false, cond_true, st_step h, Option.bind_some, st_step h, Option.bind_some, st_step h, Option.bind_some]
    have := ih (by omega)
    rw [show 2 * (m + 1) = 2 * m + 1 + 1 by omega] at this
    exact this
theorem loop_long (hn : n ≤ 15625) (hni : n - i ≤ 15625) : ∀ L, L ≤ n - i → 1 ≤ L → s_LoopOf_l6 a k (stN a k b (i + L)) (i : Int) (L : Int) (stN a k b i) = some ((i : Int), ((n - i : Nat) : Int)) ∧ s_LoopOf_l7 a k (stN a k b i) (stN a k b (i + L)) (i : Int) (L : Int) = some ((i : Int), ((n - i : Nat) : Int)) := by
  have hlt := hr.lt
  have hd := hr.long (gN_next h)
  refine advN ?_ fun L hL ih => ?_
  · intro _
    have e : gN_ a k b i = gN_ a k b (i + (n - i)) := (hd (n - i)).2 (Nat.dvd_refl _)
    constructor
    · rw [s_LoopOf_l6_eq, st_same h, Option.bind_some, decide_eq_true e, Bool.not_true, cond_false]
    · rw [s_LoopOf_l7_eq, st_same h, Option.bind_some, decide_eq_true e, Bool.not_true, cond_false]
  · intro h1
    have e : ¬ gN_ a k b i = gN_ a k b (i + L) := fun e => by
      have := Nat.le_of_dvd (by omega) ((hd L).1 e)
      omega
    obtain ⟨i1, i2⟩ := ih (by omega)
    have hw : IntKind.i64.wrap ((L : Int) + 1) = ((L + 1 : Nat) : Int) := w1 (n := n - i) hL (by omega)
    constructor
    · rw [s_LoopOf_l6_eq, st_same h, Option.bind_some, decide_eq_false e, Bool.not_false, cond_true, st_step h, Option.bind_some, hw]
      exact i1
    · rw [s_LoopOf_l7_eq, st_same h, Option.bind_some, decide_eq_false e, Bool.not_false, cond_true, st_step h, Option.bind_some, hw]
      exact i2
theorem meet_iff {K : Nat} (h1 : 1 ≤ K) (h2 : gN_ a k b K = gN_ a k b (2 * K)) (m : Nat) : gN_ a k b m = gN_ a k b (2 * K + m) ↔ i ≤ m := by
  have hq := hr.eq_iff (gN_next h)
  rcases (hq K (2 * K) (by omega)).1 h2 with c | ⟨c1, c2⟩
  · omega
  · rw [show 2 * K - K = K by omega] at c2
    rw [hq m (2 * K + m) (by omega), show 2 * K + m - m = 2 * K by omega]
    constructor
    · rintro (c | c)
      · omega
      · exact c.1
    · exact fun hm => .inr ⟨hm, Nat.dvd_trans c2 (Nat.dvd_mul_left _ _)⟩
theorem loop_before (hn : n ≤ 15625) {K : Nat} (h1 : 1 ≤ K) (h2 : gN_ a k b K = gN_ a k b (2 * K)) : ∀ m, m ≤ i → 1 ≤ m → s_LoopOf_l3 a k (stN a k b m) (stN a k b (2 * K + m)) (m : Int) = some ((i : Int), ((n - i : Nat) : Int)) := by
  have hlt := hr.lt
  have hmi := meet_iff h hr h1 h2
  refine advN ?_ fun m hm ih => ?_
  · intro hi
    rw [s_LoopOf_l3_eq, st_same h, Option.bind_some, decide_eq_true ((hmi i).2 (Nat.le_refl _)), Bool.not_true, cond_false, s_LoopOf_j5_eq, st_step h, Option.bind_some]
    exact (loop_long h hr hn (by omega) 1 (by omega) (Nat.le_refl _)).2
  · intro hm1
    rw [s_LoopOf_l3_eq, st_same h, Option.bind_some, decide_eq_false (fun e => by have := (hmi m).1 e; omega), Bool.not_false, cond_true, st_step h, Option.bind_some, st_step h, Option.bind_some, w1 hm (by omega)]
    exact ih (by omega)
theorem sloop_val (hn : n ≤ 15625) : s_LoopOf_f (a, k, b) = some ((i : Int), (n : Int) - (i : Int)) := by
  have hm := PlP.sm h
  have hlt := hr.lt
  obtain ⟨K, k1, k2, k3, _⟩ := hr.meet (gN_next h)
  have hmi := meet_iff h hr k1 k2
  have e0 : stN a k b 0 = b := rfl
  have st0 := st_step h 0
  rw [e0] at st0
  have hni : ((n - i : Nat) : Int) = (n : Int) - (i : Int) := by omega
  rw [s_LoopOf_f_eq, sl3 a k b (by omega), Option.bind_some, decide_eq_true h, Bool.not_true, cond_false, st0, Option.bind_some, st_step h, Option.bind_some]
  refine (loop_far h hr k1 k2 k3 1 k1 (Nat.le_refl _)).trans ?_
  rw [s_LoopOf_j1_eq, if_pos (by simp; omega), List.nil_append, s_LoopOf_l2_eq]
  have hs := st_same h 0 (2 * K)
  rw [e0] at hs
  rw [hs, Option.bind_some]
  by_cases c : i = 0
  · subst c
    have := (hmi 0).2 (Nat.le_refl _)
    rw [Nat.add_zero] at this
    rw [decide_eq_true this, Bool.not_true, cond_false, s_LoopOf_j4_eq, st0, Option.bind_some, ← hni]
    exact (loop_long h hr hn (by omega) 1 (by omega) (Nat.le_refl _)).1
  · rw [decide_eq_false (fun e => by have := (hmi 0).1 e; omega), Bool.not_false, cond_true, st0, Option.bind_some, st_step h, Option.bind_some, i64w (by omega) (by omega), ← hni]
    exact loop_before h hr hn k1 k2 1 (by omega) (Nat.le_refl _)
end
theorem ends_look (y : Int) {s : List Int} (hs : s.length ≤ 1000) : s_EndsAt_l4 y 0 s = some (if ∀ j, j < s.length → s.getD j 0 = 0 then y else -1) ∧ s_EndsAt_l5 y s 0 = some (if ∀ j, j < s.length → s.getD j 0 = 0 then y else -1) := by
  have main : ∀ i, i ≤ s.length → (∀ j, j < i → s.getD j 0 = 0) → s_EndsAt_l4 y (i : Int) s = some (if ∀ j, j < s.length → s.getD j 0 = 0 then y else -1) ∧ s_EndsAt_l5 y s (i : Int) = some (if ∀ j, j < s.length → s.getD j 0 = 0 then y else -1) := by
    refine advN ?_ fun i hi ih => ?_
    · intro hz
      rw [if_pos hz, s_EndsAt_l4_eq, s_EndsAt_l5_eq, cnd_f (by omega), cnd_f (by omega)]
      exact ⟨rfl, rfl⟩
    · intro hz
      rw [s_EndsAt_l4_eq, s_EndsAt_l5_eq, cnd_t (by omega), cnd_t (by omega), if_pos (inN hi), if_pos (inN hi), gN, w1 hi (by omega)]
      by_cases c : s.getD i 0 = 0
      · rw [bne_f c, bne_f c]
        refine ih fun j hj => ?_
        by_cases e : j = i
        · rw [e]; exact c
        · exact hz j (by omega)
      · rw [bne_t c, bne_t c, if_neg (fun hh => c (hh i hi))]
        exact ⟨rfl, rfl⟩
  exact main 0 (by omega) fun j hj => by omega
theorem ends_walk {i : Nat} (hi : i ≤ 15625) : ∀ m, m ≤ i → 1 ≤ m → s_EndsAt_l1 a k (i : Int) (stN a k b m) (m : Int) = s_EndsAt_j3 (i : Int) (stN a k b i) := by
  refine advN ?_ fun m hm ih => ?_
  · intro _
    rw [s_EndsAt_l1_eq, cnd_f (by omega)]
  · intro h1
    rw [s_EndsAt_l1_eq, cnd_t (by omega), st_step h, Option.bind_some, w1 hm (by omega)]
    exact ih (by omega)
/-- Both: where it comes to a loop, and to rest. -/
theorem loop_both : ∃ i n : Nat, n ≤ 15625 ∧ i < n ∧ i_LoopOf_f (a, k, b) = some ((i : Int), (n : Int) - (i : Int)) ∧ s_LoopOf_f (a, k, b) = some ((i : Int), (n : Int) - (i : Int)) := by
  obtain ⟨i, n, hn, hr, e⟩ := loop_val h
  exact ⟨i, n, hn, hr.lt, e, sloop_val h hr hn⟩
theorem ends_both : ∃ r : Int, -1 ≤ r ∧ r ≤ 15625 ∧ i_EndsAt_f (a, k, b) = some r ∧ s_EndsAt_f (a, k, b) = some r := by
  obtain ⟨i, n, hn, hr⟩ := gN_rep h
  have hlt := hr.lt
  have hm := PlP.sm h
  have hk := h.2.1.2.1
  have e0 : stN a k b 0 = b := rfl
  refine ⟨if gN_ a k b i = 0 then (i : Int) else -1, by split <;> omega, by split <;> omega, ?_, ?_⟩
  · rw [i_EndsAt_f_eq, iasked a k b (by omega), Option.bind_some, decide_eq_true h, cond_true]
    have key := fun f hf => endsG_val (num := fun s => i_NumberOf_f (k, s)) (step := fun s => i_needStep_f (a, k, (), s)) (g := gN_ a k b) (S := stN a k b) hr (g_zero h) (fun j _ => i_step (stN_ok h j).1) (fun j _ => numOf_val (stN_ok h j).1.2.1) (fun j => by
      have := (stN_ok h j).1.2.1.num
      exact ⟨this.1, by have := this.2; show numV k (stN a k b j) ≤ _; omega⟩) f hf
    rw [e0] at key
    have hf : n < 20000 := by omega
    generalize (20000 : Nat) = f at hf ⊢
    exact key f hf
  · have hzz : (∀ j, j < (stN a k b i).length → (stN a k b i).getD j 0 = 0) ↔ gN_ a k b i = 0 := (numV_zero (by omega) (stN_ok h i).1.2.1.mem).symm
    rw [s_EndsAt_f_eq, sloop_val h hr hn, Option.bind_some, cnd_f (show ¬ (i : Int) < 0 by omega)]
    by_cases c : 1 < (n : Int) - (i : Int)
    · rw [cnd_t c, if_neg]
      intro hz
      have := g_zero h i hz
      exact hr.apart i (i + 1) (by omega) (by omega) (hz.trans this.symm)
    · rw [cnd_f c, if_pos (by simp; omega), List.nil_append, s_EndsAt_l0_eq]
      by_cases ci : i = 0
      · subst ci
        rw [cnd_f (by omega), s_EndsAt_j2_eq]
        have := (ends_look h ((0 : Nat) : Int) (s := stN a k b 0) (by rw [st_len h]; omega)).1
        simp only [hzz] at this
        exact this
      · have st0 := st_step h 0
        rw [e0] at st0
        rw [cnd_t (by omega), st0, Option.bind_some, i64w (by omega) (by omega)]
        refine (ends_walk h (by omega) 1 (by omega) (Nat.le_refl _)).trans ?_
        rw [s_EndsAt_j3_eq]
        have := (ends_look h (i : Int) (s := stN a k b i) (by rw [st_len h]; omega)).2
        simp only [hzz] at this
        exact this
end
end FN

/-! How often they fire, and turn: the program's and the reference's alike. -/
namespace FN
open Go
/-- The first i, where told, one more. -/
def bump (P : Nat → Bool) (i : Nat) (y : List Int) : List Int := (List.range y.length).map fun k => if k < i ∧ P k = true then y.getD k 0 + 1 else y.getD k 0
theorem bump_len (P : Nat → Bool) (i : Nat) (y : List Int) : (bump P i y).length = y.length := by simp [bump]
theorem bump_get (P : Nat → Bool) (i : Nat) (y : List Int) (k : Nat) : (bump P i y).getD k 0 = if k < y.length then (if k < i ∧ P k = true then y.getD k 0 + 1 else y.getD k 0) else 0 := by
  unfold bump
  rw [List.getD_eq_getElem?_getD, List.getElem?_map]
  by_cases h : k < y.length
  · rw [if_pos h, List.getElem?_range h]; rfl
  · rw [if_neg h, List.getElem?_eq_none (by simp; omega)]; rfl
theorem bump_zero (P : Nat → Bool) (y : List Int) : bump P 0 y = y := ext_get (bump_len P 0 y) fun k hk => by
  rw [bump_len] at hk
  rw [bump_get, if_pos hk, if_neg (by omega)]
theorem bump_at (P : Nat → Bool) {i : Nat} {y : List Int} (hi : i < y.length) : (bump P i y).getD i 0 = y.getD i 0 := by
  rw [bump_get, if_pos hi, if_neg (by omega)]
theorem bump_t {P : Nat → Bool} {i : Nat} {y : List Int} (hi : i < y.length) (h : P i = true) : (bump P i y).set i (y.getD i 0 + 1) = bump P (i + 1) y := ext_get (by simp [bump_len]) fun k hk => by
  have hk' : k < y.length := by simpa [bump_len] using hk
  rw [getI_set, bump_get, bump_get, if_pos hk', if_pos hk', bump_len]
  by_cases e : k = i
  · subst e; rw [if_pos ⟨rfl, hi⟩, if_pos ⟨by omega, h⟩]
  · rw [if_neg (by omega)]
    have : k < i ↔ k < i + 1 := by omega
    simp only [this]
theorem bump_f {P : Nat → Bool} {i : Nat} {y : List Int} (h : P i = false) : bump P i y = bump P (i + 1) y := ext_get (by simp [bump_len]) fun k hk => by
  have hk' : k < y.length := by simpa [bump_len] using hk
  rw [bump_get, bump_get, if_pos hk', if_pos hk']
  by_cases e : k = i
  · subst e; rw [if_neg (by omega), if_neg (by simp [h])]
  · have : k < i ↔ k < i + 1 := by omega
    simp only [this]
theorem bump_rng {P : Nat → Bool} {i : Nat} {y : List Int} {t : Nat} (h : ∀ k, k < y.length → 0 ≤ y.getD k 0 ∧ y.getD k 0 ≤ (t : Int)) : ∀ k, k < (bump P i y).length → 0 ≤ (bump P i y).getD k 0 ∧ (bump P i y).getD k 0 ≤ ((t + 1 : Nat) : Int) := fun k hk => by
  rw [bump_len] at hk
  have := h k hk
  rw [bump_get, if_pos hk]
  split <;> omega
section
variable {a : List Int} {k : Int} {b : List Int} (h : PlP a k b)
include h
theorem one_new {t i : Nat} (hi : i < b.length) (e : (stN a k b (t + 1)).getD i 0 = 1) : (stN a k b t).getD i 0 ≠ 1 := by
  have hp := (stN_ok h t).1
  have hl := st_len h t
  have hk := h.2.1.2.1
  intro e1
  have e2 : (stepV a k (stN a k b t)).getD i 0 = 1 := e
  rw [stepV_get hp (by omega)] at e2
  unfold stepAt at e2
  rw [if_pos (by omega), e1, Int.tmod_eq_emod_of_nonneg (by omega)] at e2
  rw [Int.emod_eq_of_lt (by omega) (by omega)] at e2
  omega
noncomputable abbrev P1 (a : List Int) (k : Int) (b : List Int) (t : Nat) : Nat → Bool := fun i => (stN a k b (t + 1)).getD i 0 == 1
theorem i_fire_in {t T : Nat} {y : List Int} (ht : t < T) (hT : T ≤ 60) (hy : y.length = b.length) (hr : ∀ j, j < y.length → 0 ≤ y.getD j 0 ∧ y.getD j 0 ≤ (t : Int)) : ∀ i, i ≤ b.length → i_scripted_l3 a k (T : Int) (t : Int) (b.length : Int) (i : Int) (stN a k b t) (bump (P1 a k b t) i y) (stN a k b (t + 1)) = i_scripted_l0 a k (T : Int) ((t + 1 : Nat) : Int) (stN a k b (t + 1)) (bump (P1 a k b t) b.length y) := by
  have hm := PlP.sm h
  have l0 := st_len h t
  have l1 := st_len h (t + 1)
  refine advN ?_ fun i hi ih => ?_
  · rw [i_scripted_l3_eq, cnd_f (by omega), w1 ht (by omega)]
  · have hyi := hr i (by omega)
    rw [i_scripted_l3_eq, cnd_t (by omega), if_pos (by rw [l1]; exact inN hi), gN, gN, gN, Int.toNat_natCast, w1 hi (by omega)]
    by_cases c : (stN a k b (t + 1)).getD i 0 = 1
    · have hP : P1 a k b t i = true := beq_iff_eq.2 c
      rw [beq_t c, if_pos (by rw [l0]; exact inN hi), bne_t (one_new h hi c), if_pos (by rw [bump_len, hy]; exact inN hi), if_pos (by rw [bump_len, hy]; exact inN hi), bump_at _ (by omega), i64w (by omega) (by omega), bump_t (by omega) hP]
      exact ih
    · have hP : P1 a k b t i = false := beq_false_of_ne c
      rw [beq_f c, bump_f hP]
      exact ih
theorem s_fire_in {t T : Nat} {y : List Int} (ht : t < T) (hT : T ≤ 60) (hy : y.length = b.length) (hr : ∀ j, j < y.length → 0 ≤ y.getD j 0 ∧ y.getD j 0 ≤ (t : Int)) : ∀ i, i ≤ b.length → s_FiredRow_l1 a k (T : Int) (stN a k b (t + 1)) (t : Int) (i : Int) (bump (P1 a k b t) i y) = s_FiredRow_l2 a k (T : Int) (stN a k b (t + 1)) ((t + 1 : Nat) : Int) (bump (P1 a k b t) b.length y) := by
  have hm := PlP.sm h
  have l1 := st_len h (t + 1)
  refine advN ?_ fun i hi ih => ?_
  · rw [s_FiredRow_l1_eq, l1, cnd_f (by omega), w1 ht (by omega)]
  · have hyi := hr i (by omega)
    rw [s_FiredRow_l1_eq, l1, cnd_t (by omega), if_pos (inN hi), gN, gN, Int.toNat_natCast, w1 hi (by omega)]
    by_cases c : (stN a k b (t + 1)).getD i 0 = 1
    · have hP : P1 a k b t i = true := beq_iff_eq.2 c
      rw [beq_t c, if_pos (by rw [bump_len, hy]; exact inN hi), if_pos (by rw [bump_len, hy]; exact inN hi), bump_at _ (by omega), i64w (by omega) (by omega), bump_t (by omega) hP]
      exact ih
    · have hP : P1 a k b t i = false := beq_false_of_ne c
      rw [beq_f c, bump_f hP]
      exact ih
theorem fire_loop {T : Nat} (hT : T ≤ 60) : ∀ t, t ≤ T → ∀ y : List Int, y.length = b.length → (∀ j, j < y.length → 0 ≤ y.getD j 0 ∧ y.getD j 0 ≤ (t : Int)) → ∃ r, i_scripted_l0 a k (T : Int) (t : Int) (stN a k b t) y = some (stN a k b T, r) ∧ s_FiredRow_l0 a k (T : Int) (t : Int) y (stN a k b t) = some r ∧ s_FiredRow_l2 a k (T : Int) (stN a k b t) (t : Int) y = some r ∧ r.length = b.length ∧ ∀ j, j < r.length → 0 ≤ r.getD j 0 ∧ r.getD j 0 ≤ 60 := by
  have hm := PlP.sm h
  refine advN ?_ fun t ht ih => ?_
  · intro y hy hr
    exact ⟨y, by rw [i_scripted_l0_eq, cnd_f (by omega)], by rw [s_FiredRow_l0_eq, cnd_f (by omega)], by rw [s_FiredRow_l2_eq, cnd_f (by omega)], hy, fun j hj => by have := hr j hj; omega⟩
  · intro y hy hr
    obtain ⟨r, e1, e2, e3, e4, e5⟩ := ih (bump (P1 a k b t) b.length y) (by rw [bump_len, hy]) (bump_rng hr)
    have b0 : bump (P1 a k b t) 0 y = y := bump_zero _ y
    have i1 := i_fire_in h ht hT hy hr 0 (by omega)
    have s1 := s_fire_in h ht hT hy hr 0 (by omega)
    rw [b0] at i1 s1
    refine ⟨r, ?_, ?_, ?_, e4, e5⟩
    · rw [i_scripted_l0_eq, cnd_t (by omega), i_scripted_l1_eq, cnd_f (by omega), i_scripted_j2_eq, i_step (stN_ok h t).1, Option.bind_some, stepV_len, st_len h]
      exact i1.trans e1
    · rw [s_FiredRow_l0_eq, cnd_t (by omega), st_step h, Option.bind_some]
      exact s1.trans e3
    · rw [s_FiredRow_l2_eq, cnd_t (by omega), st_step h, Option.bind_some]
      exact s1.trans e3
omit h in
theorem cloneL_val {l : List Int} (h1 : l.length ≠ 0) (h2 : l.length ≤ 1000) : x_slices_Clone_int_int_f l = some l := by
  rw [x_slices_Clone_int_int_f_eq, if_pos ⟨rfl, h1⟩, if_pos (by simp; omega), List.nil_append]
theorem fired_val {n : Int} (h0 : 0 ≤ n) : ∃ r, i_FiredRow_f (a, k, b, n) = some r ∧ s_FiredRow_f (a, k, b, n) = some r ∧ r.length ≤ 6 ∧ ∀ j, j < r.length → 0 ≤ r.getD j 0 ∧ r.getD j 0 ≤ 60 := by
  have hm := PlP.sm h
  have ha := h.1.lo
  have hab := h.2.2
  have hs : i_ScriptOk_f ((a.length : Int), ()) = some true := by
    rw [i_ScriptOk_f_eq, i_ScriptOk_l0_eq, cnd_f (by omega), i_ScriptOk_j1_eq, cnd_t (by omega), cnd_t (by omega)]
  rw [i_FiredRow_f_eq, i_ScriptFired_f_eq, iasked a k b (by omega), Option.bind_some, decide_eq_true h, Bool.not_true, cond_false, hs, Option.bind_some, Bool.not_true, cond_false, cnd_f (show ¬ n < 0 by omega), s_FiredRow_f_eq, sl3 a k b (by omega), Option.bind_some, decide_eq_true h, Bool.not_true, cond_false, l1In_val, Option.bind_some]
  by_cases c : n ≤ 60
  · obtain ⟨T, rfl⟩ : ∃ T : Nat, n = T := ⟨n.toNat, by omega⟩
    obtain ⟨r, e1, e2, _, e4, e5⟩ := fire_loop h (T := T) (by omega) 0 (by omega) (List.replicate a.length 0) (by simp [hab]) (fun j hj => by
      rw [getD_rep]; split <;> omega)
    have e0 : stN a k b 0 = b := rfl
    rw [e0] at e1 e2
    refine ⟨r, ?_, ?_, by omega, e5⟩
    · rw [cnd_f (show ¬ (60 : Int) < (T : Int) by omega), i_scripted_f_eq, cloneL_val (by omega) (by omega), Option.bind_some, if_pos ⟨by omega, by omega, by omega⟩, Int.toNat_natCast]
      rw [show i_scripted_l0 a k (T : Int) 0 b (List.replicate a.length 0) = some (stN a k b T, r) from e1]
      rfl
    · rw [decide_eq_true (show 0 ≤ (T : Int) ∧ (T : Int) ≤ 60 by omega), Bool.not_true, cond_false, if_pos ⟨by omega, by omega, by omega⟩, if_pos (by simp; omega), Int.toNat_natCast, List.nil_append]
      exact e2
  · exact ⟨[], by rw [cnd_t (by omega)]; rfl, by rw [decide_eq_false (by omega), Bool.not_false, cond_true], by simp, fun j hj => by simp at hj⟩
end
end FN

/-! Turns. -/
namespace FN
open Go
/-- A neighbour has the next kind. -/
def nxtK (b : List Int) (i : Nat) : Int := Int.tmod (b.getD i 0 + 1) 3
def turns (a b : List Int) (i j : Nat) : Prop := ∃ m, j ≤ m ∧ m < b.length ∧ adj a i m ∧ b.getD m 0 = nxtK b i
open Classical in
noncomputable def turnAt (a b : List Int) (i : Nat) : Int := if turns a b i 0 then nxtK b i else b.getD i 0
noncomputable def turnV (a b : List Int) : List Int := (List.range b.length).map (turnAt a b)
theorem turnV_len (a b : List Int) : (turnV a b).length = b.length := by simp [turnV]
theorem turnV_get (a b : List Int) {i : Nat} (hi : i < b.length) : (turnV a b).getD i 0 = turnAt a b i := by
  unfold turnV
  rw [List.getD_eq_getElem?_getD, List.getElem?_map, List.getElem?_range hi]; rfl
theorem turnV_take (a b : List Int) {i : Nat} (h : i < b.length) : (turnV a b).take (i + 1) = (turnV a b).take i ++ [turnAt a b i] := by
  rw [List.take_succ_eq_append_getElem (by rw [turnV_len]; exact h)]
  simp [turnV]
theorem turns_step {a b : List Int} {i j : Nat} (hj : j < b.length) : turns a b i j ↔ (adj a i j ∧ b.getD j 0 = nxtK b i) ∨ turns a b i (j + 1) := by
  constructor
  · rintro ⟨m, m1, m2, m3⟩
    by_cases e : m = j
    · subst e; exact .inl m3
    · exact .inr ⟨m, by omega, m2, m3⟩
  · rintro (hh | ⟨m, m1, m2, m3⟩)
    · exact ⟨j, Nat.le_refl _, hj, hh⟩
    · exact ⟨m, by omega, m2, m3⟩
theorem turns_end {a b : List Int} {i : Nat} : ¬ turns a b i b.length := by
  rintro ⟨m, m1, m2, _⟩; omega
section
variable {a b : List Int} (h : PlP a 3 b)
include h
theorem nxtK_rng {i : Nat} (hi : i < b.length) : 0 ≤ nxtK b i ∧ nxtK b i < 3 := by
  have := h.2.1.1 i hi
  unfold nxtK
  exact ⟨Int.tmod_nonneg _ (by omega), Int.tmod_lt_of_pos _ (by omega)⟩
theorem turnV_ok : PlP a 3 (turnV a b) := by
  have hl := turnV_len a b
  refine ⟨h.1, ⟨fun i hi => ?_, h.2.1.2.1, h.2.1.2.2.1, by rw [hl]; exact h.2.1.2.2.2.1, by rw [hl]; exact h.2.1.2.2.2.2⟩, by rw [hl]; exact h.2.2⟩
  rw [hl] at hi
  rw [turnV_get a b hi]
  have hb := h.2.1.1 i hi
  have hn := nxtK_rng h hi
  unfold turnAt
  split <;> omega
open Classical in
theorem i_turn_in {i : Nat} (hi : i < b.length) : ∀ j, j ≤ b.length → ∀ w : List Int, w.length = b.length → i_turnStep_l1 a b (i : Int) (b.getD i 0) b (b.length : Int) (i : Int) b (b.length : Int) (j : Int) w = i_turnStep_l0 a b b (b.length : Int) ((i + 1 : Nat) : Int) (w.set i (if turns a b i j then nxtK b i else w.getD i 0)) := by
  have hm := PlP.sm h
  have he := h.2.2
  have hbi := h.2.1.1 i hi
  refine advN ?_ fun j hj ih => ?_
  · intro w hw
    have hs : w.set i (w.getD i 0) = w := ext_get (by simp) fun m hm' => by
      rw [getI_set]
      split
      · rename_i hh; rw [hh.1]
      · rfl
    rw [i_turnStep_l1_eq, cnd_f (by omega), if_neg turns_end, hs, w1 hi (by omega)]
  · intro w hw
    have hx : Int.tmod (IntKind.i64.wrap (b.getD i 0 + 1)) 3 = nxtK b i := by rw [i64w (by omega) (by omega)]; rfl
    have hiw : i < w.length := by omega
    rw [i_turnStep_l1_eq, cnd_t (by omega), if_pos (inN hj), if_pos (inN (by omega)), if_neg (by omega), gN, gN, bit_and _ (by omega), hx, w1 hj (by omega)]
    by_cases c1 : adj a i j
    · rw [beq_t c1]
      by_cases c2 : b.getD j 0 = nxtK b i
      · rw [beq_t c2, if_pos (by rw [hw]; exact inN hi), c2, Int.toNat_natCast, ih _ (by simp [hw]), if_pos ((turns_step hj).2 (.inl ⟨c1, c2⟩))]
        have e : (w.set i (nxtK b i)).getD i 0 = nxtK b i := by rw [getI_set, if_pos ⟨rfl, hiw⟩]
        have e2 : (if turns a b i (j + 1) then nxtK b i else nxtK b i) = nxtK b i := by split <;> rfl
        rw [e, e2, List.set_set]
      · rw [beq_f c2, ih w hw]
        have : turns a b i j ↔ turns a b i (j + 1) := (turns_step hj).trans ⟨fun hh => hh.resolve_left fun x => c2 x.2, .inr⟩
        simp only [this]
    · rw [beq_f c1, ih w hw]
      have : turns a b i j ↔ turns a b i (j + 1) := (turns_step hj).trans ⟨fun hh => hh.resolve_left fun x => c1 x.1, .inr⟩
      simp only [this]
theorem i_turn : i_turnStep_f (a, b) = some (turnV a b) := by
  have hm := PlP.sm h
  have hb1 := h.2.1.2.2.2.1
  have main : ∀ i, i ≤ b.length → ∀ w : List Int, w.length = b.length → (∀ m, m < b.length → w.getD m 0 = if m < i then turnAt a b m else b.getD m 0) → i_turnStep_l0 a b b (b.length : Int) (i : Int) w = some (turnV a b) := by
    refine advN ?_ fun i hi ih => ?_
    · intro w hw hg
      have : w = turnV a b := ext_get (by rw [hw, turnV_len]) fun m hm' => by rw [hg m (by omega), if_pos (by omega), turnV_get a b (by omega)]
      rw [i_turnStep_l0_eq, cnd_f (by omega), this]
    · intro w hw hg
      have hin := i_turn_in h hi 0 (by omega) w hw
      rw [i_turnStep_l0_eq, cnd_t (by omega), if_pos (inN hi), gN]
      refine hin.trans (ih _ (by simp [hw]) fun m hm' => ?_)
      rw [getI_set]
      by_cases e : m = i
      · subst e
        rw [if_pos ⟨rfl, by omega⟩, hg m hm', if_neg (Nat.lt_irrefl m), if_pos (Nat.lt_succ_self m)]
        rfl
      · rw [if_neg (by omega), hg m hm']
        have : m < i ↔ m < i + 1 := by omega
        simp only [this]
  rw [i_turnStep_f_eq, cloneL_val (by omega) (by omega), Option.bind_some]
  exact main 0 (by omega) b rfl fun m hm' => by rw [if_neg (by omega)]
open Classical in
theorem s_turn_in {i : Nat} (hi : i < b.length) (y : List Int) (hy : y.length ≤ 100) : ∀ j, j ≤ b.length → ∀ n : Int, s_l5Step_l1 a b (i : Int) (nxtK b i) n (j : Int) y = s_l5Step_l0 a b ((i + 1 : Nat) : Int) (y ++ [if turns a b i j then nxtK b i else n]) := by
  have hm := PlP.sm h
  have he := h.2.2
  have hr := h.1.rng i (by omega)
  refine advN ?_ fun j hj ih => ?_
  · intro n
    rw [s_l5Step_l1_eq, cnd_f (by omega), if_neg turns_end, if_pos (by simp; omega), w1 hi (by omega)]
  · intro n
    rw [s_l5Step_l1_eq, cnd_t (by omega), if_pos (inN (by omega)), if_neg (by omega), gN, gN, bit_mod hr.1 (by omega), w1 hj (by omega)]
    by_cases c1 : adj a i j
    · rw [beq_t c1, if_pos (inN hj)]
      by_cases c2 : b.getD j 0 = nxtK b i
      · rw [beq_t c2, ih, if_pos ((turns_step hj).2 (.inl ⟨c1, c2⟩))]
        congr 3
        split <;> rfl
      · rw [beq_f c2, ih]
        have : turns a b i j ↔ turns a b i (j + 1) := (turns_step hj).trans ⟨fun hh => hh.resolve_left fun x => c2 x.2, .inr⟩
        simp only [this]
    · rw [beq_f c1, ih]
      have : turns a b i j ↔ turns a b i (j + 1) := (turns_step hj).trans ⟨fun hh => hh.resolve_left fun x => c1 x.1, .inr⟩
      simp only [this]
theorem s_turn : s_l5Step_f (a, b) = some (turnV a b) := by
  have hm := PlP.sm h
  have main : ∀ i, i ≤ b.length → s_l5Step_l0 a b (i : Int) ((turnV a b).take i) = some (turnV a b) := by
    refine advN ?_ fun i hi ih => ?_
    · rw [s_l5Step_l0_eq, cnd_f (by omega), ← turnV_len a b, List.take_length]
    · have hbi := h.2.1.1 i hi
      have hx : Int.tmod (IntKind.i64.wrap (b.getD i 0 + 1)) 3 = nxtK b i := by rw [i64w (by omega) (by omega)]; rfl
      have hin := s_turn_in h hi ((turnV a b).take i) (by rw [List.length_take, turnV_len]; omega) 0 (by omega) (b.getD i 0)
      rw [turnV_take a b hi] at ih
      rw [s_l5Step_l0_eq, cnd_t (by omega), if_pos (inN hi), if_pos (inN hi), gN, hx]
      exact hin.trans ih
  rw [s_l5Step_f_eq]
  exact main 0 (by omega)
omit h in
noncomputable def tN (a b : List Int) : Nat → List Int
  | 0 => b
  | n + 1 => turnV a (tN a b n)
theorem tN_ok : ∀ n, PlP a 3 (tN a b n) ∧ (tN a b n).length = b.length
  | 0 => ⟨h, rfl⟩
  | n + 1 => ⟨turnV_ok (tN_ok n).1, by rw [tN, turnV_len]; exact (tN_ok n).2⟩
omit h in
noncomputable abbrev P2 (a b : List Int) (t : Nat) : Nat → Bool := fun i => (tN a b (t + 1)).getD i 0 != (tN a b t).getD i 0
theorem i_turned_in {t T : Nat} {y : List Int} (ht : t < T) (hT : T ≤ 60) (hy : y.length = b.length) (hr : ∀ j, j < y.length → 0 ≤ y.getD j 0 ∧ y.getD j 0 ≤ (t : Int)) : ∀ i, i ≤ b.length → i_TurnedRow_l1 a (tN a b t) (tN a b (t + 1)) (T : Int) (t : Int) (b.length : Int) (i : Int) (bump (P2 a b t) i y) = i_TurnedRow_l2 a (tN a b (t + 1)) (T : Int) ((t + 1 : Nat) : Int) (bump (P2 a b t) b.length y) ∧ i_TurnedRow_l3 a (tN a b t) (tN a b (t + 1)) (T : Int) (t : Int) (b.length : Int) (i : Int) (bump (P2 a b t) i y) = i_TurnedRow_l2 a (tN a b (t + 1)) (T : Int) ((t + 1 : Nat) : Int) (bump (P2 a b t) b.length y) := by
  have hm := PlP.sm h
  have l0 := (tN_ok h t).2
  have l1 := (tN_ok h (t + 1)).2
  refine advN ?_ fun i hi ih => ?_
  · rw [i_TurnedRow_l1_eq, i_TurnedRow_l3_eq, cnd_f (by omega), cnd_f (by omega), w1 ht (by omega)]
    exact ⟨rfl, rfl⟩
  · have hyi := hr i (by omega)
    have in0 : (0 : Int) ≤ (i : Int) ∧ (i : Int) < ((tN a b t).length : Int) := by rw [l0]; exact inN hi
    have in1 : (0 : Int) ≤ (i : Int) ∧ (i : Int) < ((tN a b (t + 1)).length : Int) := by rw [l1]; exact inN hi
    have inb : (0 : Int) ≤ (i : Int) ∧ (i : Int) < ((bump (P2 a b t) i y).length : Int) := by rw [bump_len, hy]; exact inN hi
    rw [i_TurnedRow_l1_eq, i_TurnedRow_l3_eq, cnd_t (by omega), cnd_t (by omega), if_pos in1, if_pos in1, if_pos in0, if_pos in0, gN, gN, gN, Int.toNat_natCast, w1 hi (by omega), if_pos inb, bump_at _ (by omega), i64w (by omega) (by omega)]
    by_cases c : (tN a b (t + 1)).getD i 0 = (tN a b t).getD i 0
    · have hP : P2 a b t i = false := by show ((tN a b (t + 1)).getD i 0 != (tN a b t).getD i 0) = false; rw [c]; exact bne_self_eq_false _
      rw [bne_f c, bne_f c, bump_f hP]
      exact ih
    · have hP : P2 a b t i = true := bne_iff_ne.2 c
      rw [bne_t c, bne_t c, bump_t (by omega) hP, if_pos inb, if_pos inb, if_pos inb]
      exact ih
theorem s_turned_in {t T : Nat} {y : List Int} (ht : t < T) (hT : T ≤ 60) (hy : y.length = b.length) (hr : ∀ j, j < y.length → 0 ≤ y.getD j 0 ∧ y.getD j 0 ≤ (t : Int)) : ∀ i, i ≤ b.length → s_TurnedRow_l1 a (T : Int) (t : Int) (tN a b (t + 1)) (i : Int) (bump (P2 a b t) i y) (tN a b t) = s_TurnedRow_l2 a (T : Int) (tN a b (t + 1)) ((t + 1 : Nat) : Int) (bump (P2 a b t) b.length y) ∧ s_TurnedRow_l3 a (T : Int) (tN a b t) (t : Int) (tN a b (t + 1)) (i : Int) (bump (P2 a b t) i y) = s_TurnedRow_l2 a (T : Int) (tN a b (t + 1)) ((t + 1 : Nat) : Int) (bump (P2 a b t) b.length y) := by
  have hm := PlP.sm h
  have l0 := (tN_ok h t).2
  have l1 := (tN_ok h (t + 1)).2
  refine advN ?_ fun i hi ih => ?_
  · rw [s_TurnedRow_l1_eq, s_TurnedRow_l3_eq, l0, cnd_f (by omega), cnd_f (by omega), w1 ht (by omega)]
    exact ⟨rfl, rfl⟩
  · have hyi := hr i (by omega)
    have in1 : (0 : Int) ≤ (i : Int) ∧ (i : Int) < ((tN a b (t + 1)).length : Int) := by rw [l1]; exact inN hi
    have inb : (0 : Int) ≤ (i : Int) ∧ (i : Int) < ((bump (P2 a b t) i y).length : Int) := by rw [bump_len, hy]; exact inN hi
    rw [s_TurnedRow_l1_eq, s_TurnedRow_l3_eq, l0, cnd_t (by omega), cnd_t (by omega), if_pos in1, if_pos in1, if_pos (inN hi), if_pos (inN hi), gN, gN, gN, Int.toNat_natCast, w1 hi (by omega), if_pos inb, bump_at _ (by omega), i64w (by omega) (by omega)]
    by_cases c : (tN a b (t + 1)).getD i 0 = (tN a b t).getD i 0
    · have hP : P2 a b t i = false := by show ((tN a b (t + 1)).getD i 0 != (tN a b t).getD i 0) = false; rw [c]; exact bne_self_eq_false _
      rw [bne_f c, bne_f c, bump_f hP]
      exact ih
    · have hP : P2 a b t i = true := bne_iff_ne.2 c
      rw [bne_t c, bne_t c, bump_t (by omega) hP, if_pos inb, if_pos inb, if_pos inb]
      exact ih
theorem turned_loop {T : Nat} (hT : T ≤ 60) : ∀ t, t ≤ T → ∀ y : List Int, y.length = b.length → (∀ j, j < y.length → 0 ≤ y.getD j 0 ∧ y.getD j 0 ≤ (t : Int)) → ∃ r, i_TurnedRow_l0 a (tN a b t) (T : Int) (t : Int) y = some r ∧ i_TurnedRow_l2 a (tN a b t) (T : Int) (t : Int) y = some r ∧ s_TurnedRow_l0 a (T : Int) (t : Int) y (tN a b t) = some r ∧ s_TurnedRow_l2 a (T : Int) (tN a b t) (t : Int) y = some r ∧ r.length = b.length ∧ ∀ j, j < r.length → 0 ≤ r.getD j 0 ∧ r.getD j 0 ≤ 60 := by
  have hm := PlP.sm h
  refine advN ?_ fun t ht ih => ?_
  · intro y hy hr
    exact ⟨y, by rw [i_TurnedRow_l0_eq, cnd_f (by omega)], by rw [i_TurnedRow_l2_eq, cnd_f (by omega)], by rw [s_TurnedRow_l0_eq, cnd_f (by omega)], by rw [s_TurnedRow_l2_eq, cnd_f (by omega)], hy, fun j hj => by have := hr j hj; omega⟩
  · intro y hy hr
    obtain ⟨r, e1, e2, e3, e4, e5⟩ := ih (bump (P2 a b t) b.length y) (by rw [bump_len, hy]) (bump_rng hr)
    have b0 : bump (P2 a b t) 0 y = y := bump_zero _ y
    have i1 := i_turned_in h ht hT hy hr 0 (by omega)
    have s1 := s_turned_in h ht hT hy hr 0 (by omega)
    rw [b0] at i1 s1
    have it : i_turnStep_f (a, tN a b t) = some (tN a b (t + 1)) := i_turn (tN_ok h t).1
    have st : s_l5Step_f (a, tN a b t) = some (tN a b (t + 1)) := s_turn (tN_ok h t).1
    refine ⟨r, ?_, ?_, ?_, ?_, e5⟩
    · rw [i_TurnedRow_l0_eq, cnd_t (by omega), it, Option.bind_some, hy]
      exact i1.1.trans e2
    · rw [i_TurnedRow_l2_eq, cnd_t (by omega), it, Option.bind_some, hy]
      exact i1.2.trans e2
    · rw [s_TurnedRow_l0_eq, cnd_t (by omega), st, Option.bind_some]
      exact s1.1.trans e4
    · rw [s_TurnedRow_l2_eq, cnd_t (by omega), st, Option.bind_some]
      exact s1.2.trans e4
theorem turned_val {n : Int} (h0 : 0 ≤ n) : ∃ r, i_TurnedRow_f (a, b, n) = some r ∧ s_TurnedRow_f (a, b, n) = some r ∧ r.length ≤ 6 ∧ ∀ j, j < r.length → 0 ≤ r.getD j 0 ∧ r.getD j 0 ≤ 60 := by
  have hm := PlP.sm h
  have ha := h.1.lo
  have hab := h.2.2
  rw [i_TurnedRow_f_eq, iasked a 3 b (by omega), Option.bind_some, decide_eq_true h, Bool.not_true, cond_false, cnd_f (show ¬ n < 0 by omega), s_TurnedRow_f_eq, sl3 a 3 b (by omega), Option.bind_some, decide_eq_true h, Bool.not_true, cond_false, l1In_val, Option.bind_some]
  by_cases c : n ≤ 60
  · obtain ⟨T, rfl⟩ : ∃ T : Nat, n = T := ⟨n.toNat, by omega⟩
    obtain ⟨r, e1, _, e2, _, e4, e5⟩ := turned_loop h (T := T) (by omega) 0 (by omega) (List.replicate a.length 0) (by simp [hab]) (fun j hj => by
      rw [getD_rep]; split <;> omega)
    refine ⟨r, ?_, ?_, by omega, e5⟩
    · rw [cnd_f (show ¬ (60 : Int) < (T : Int) by omega), if_pos ⟨by omega, by omega, by omega⟩, Int.toNat_natCast]
      exact e1
    · rw [decide_eq_true (show 0 ≤ (T : Int) ∧ (T : Int) ≤ 60 by omega), Bool.not_true, cond_false, if_pos ⟨by omega, by omega, by omega⟩, if_pos (by simp; omega), Int.toNat_natCast, List.nil_append]
      exact e2
  · exact ⟨[], by rw [cnd_t (by omega)], by rw [decide_eq_false (by omega), Bool.not_false, cond_true], by simp, fun j hj => by simp at hj⟩
end
end FN

