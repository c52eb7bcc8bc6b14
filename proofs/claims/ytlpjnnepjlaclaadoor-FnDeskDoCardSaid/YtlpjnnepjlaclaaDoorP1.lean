/- Texts of the proof, joined: Plain laws of numbers and lists. -/
import Derived.Test.YtlpjnnepjlaclaaDoorP0
set_option linter.unusedVariables false
set_option linter.unusedSimpArgs false
set_option linter.unusedSectionVars false
/-! The first repetition of a sequence of numbers. -/
namespace FN
open Go
structure RepAt (g : Nat → Int) (i n : Nat) : Prop where
  lt : i < n
  eq : g i = g n
  apart : ∀ a b, a < b → b < n → g a ≠ g b
theorem RepAt.uniq {g : Nat → Int} {i n i' n' : Nat} (h : RepAt g i n) (k : RepAt g i' n') : i = i' ∧ n = n' := by
  have hn : n = n' := by
    rcases Nat.lt_trichotomy n n' with hc | hc | hc
    · exact absurd h.eq (k.apart i n h.lt hc)
    · exact hc
    · exact absurd k.eq (h.apart i' n' k.lt hc)
  subst hn
  refine ⟨?_, rfl⟩
  rcases Nat.lt_trichotomy i i' with hc | hc | hc
  · exact absurd (h.eq.trans k.eq.symm) (h.apart i i' hc k.lt)
  · exact hc
  · exact absurd (k.eq.trans h.eq.symm) (h.apart i' i hc h.lt)
theorem pigeon : ∀ (N : Nat) (f : Nat → Nat), (∀ k, k ≤ N → f k < N) → ∃ a b, a < b ∧ b ≤ N ∧ f a = f b
  | 0, f, h => absurd (h 0 (Nat.le_refl 0)) (by omega)
  | N + 1, f, h => by
    by_cases hc : ∃ a, a ≤ N ∧ f a = f (N + 1)
    · obtain ⟨a, h1, h2⟩ := hc
      exact ⟨a, N + 1, by omega, Nat.le_refl _, h2⟩
    · have hne : ∀ a, a ≤ N → f a ≠ f (N + 1) := fun a ha e => hc ⟨a, ha, e⟩
      obtain ⟨a, b, h1, h2, h3⟩ := pigeon N (fun k => if f (N + 1) < f k then f k - 1 else f k) (fun k hk => by
        have h4 := h k (by omega)
        have h5 := hne k hk
        have h6 := h (N + 1) (Nat.le_refl _)
        show (if f (N + 1) < f k then f k - 1 else f k) < N
        split <;> omega)
      refine ⟨a, b, h1, by omega, ?_⟩
      have h4 := hne a (by omega)
      have h5 := hne b h2
      have h3' : (if f (N + 1) < f a then f a - 1 else f a) = (if f (N + 1) < f b then f b - 1 else f b) := h3
      split at h3' <;> split at h3' <;> omega
theorem RepAt.ex {g : Nat → Int} {N : Nat} (h : ∀ k, 0 ≤ g k ∧ g k < N) : ∃ i n, n ≤ N ∧ RepAt g i n := by
  obtain ⟨a, b, h1, h2, h3⟩ := pigeon N (fun k => (g k).toNat) (fun k _ => by have := h k; omega)
  have hab : g a = g b := by have := h a; have := h b; have h3' : (g a).toNat = (g b).toNat := h3; omega
  -- the least such b
  have key : ∀ m, m ≤ b → (∃ i n, n ≤ N ∧ RepAt g i n) ∨ ∀ x y, x < y → y < m → g x ≠ g y := by
    intro m
    induction m with
    | zero => exact fun _ => .inr fun x y _ hy => absurd hy (by omega)
    | succ m ih =>
      intro hm
      rcases ih (by omega) with h4 | h4
      · exact .inl h4
      · by_cases hc : ∃ i, i < m ∧ g i = g m
        · obtain ⟨i, h5, h6⟩ := hc
          exact .inl ⟨i, m, by omega, h5, h6, h4⟩
        · refine .inr fun x y hxy hy e => ?_
          by_cases hym : y = m
          · subst hym; exact hc ⟨x, hxy, e⟩
          · exact h4 x y hxy (by omega) e
  rcases key b (Nat.le_refl _) with h4 | h4
  · exact h4
  · exact ⟨a, b, h2, h1, hab, h4⟩
/-- One step later. -/
theorem RepAt.shift {g : Nat → Int} {i n : Nat} (hf : ∀ a b, g a = g b → g (a + 1) = g (b + 1)) (h : RepAt g i n) : RepAt (fun k => g (k + 1)) (i - 1) (if i = 0 then n else n - 1) := by
  have hlt := h.lt
  by_cases hi : i = 0
  · subst hi
    rw [if_pos rfl]
    refine ⟨h.lt, hf _ _ h.eq, fun a b hab hb => ?_⟩
    by_cases hc : b + 1 < n
    · exact h.apart (a + 1) (b + 1) (by omega) hc
    · have e : b + 1 = n := by omega
      show g (a + 1) ≠ g (b + 1)
      rw [e, ← h.eq]
      exact fun e => h.apart 0 (a + 1) (by omega) (by omega) e.symm
  · rw [if_neg hi]
    refine ⟨by omega, ?_, fun a b hab hb => h.apart (a + 1) (b + 1) (by omega) (by omega)⟩
    show g (i - 1 + 1) = g (n - 1 + 1)
    rw [show i - 1 + 1 = i by omega, show n - 1 + 1 = n by omega]
    exact h.eq
theorem loopG_val {num : List Int → Option Int} {step : List Int → Option (List Int)} {g : Nat → Int} {S : Nat → List Int} {i n : Nat} (hr : RepAt g i n) (hs : ∀ j, j < n → step (S j) = some (S (j + 1))) (hn : ∀ j, j ≤ n → num (S j) = some (g j)) (hb : ∀ j, 0 ≤ g j ∧ g j ≤ 4611686018427387904) (f : Nat) (hf : n < f) :
    loopG num step f [] (S 0) = some ((i : Int), (n : Int) - (i : Int)) := by
  have key : ∀ d j, n - j = d → j ≤ n → ∀ f, d < f → loopG num step f ((List.range j).map g) (S j) = some ((i : Int), (n : Int) - (i : Int)) := by
    intro d
    induction d with
    | zero =>
      intro j hd hj f hf
      have hjn : j = n := by omega
      subst hjn
      cases f with
      | zero => omega
      | succ f =>
        have hfi : ((List.range j).map g).findIdx? (· == g j) = some i := by
          rw [List.findIdx?_eq_some_iff_getElem]
          refine ⟨by simpa using hr.lt, by simp [hr.eq], fun k hk => ?_⟩
          have hkj : k < j := Nat.lt_trans hk hr.lt
          have := hr.apart k i hk hr.lt
          simp only [List.getElem_map, List.getElem_range, beq_iff_eq]
          rw [← hr.eq]
          simpa using this
        unfold loopG
        rw [hn j (Nat.le_refl j), Option.bind_some, if_pos (hb j)]
        simp only [hfi]
        simp
    | succ d ih =>
      intro j hd hj f hf
      have hjn : j < n := by omega
      cases f with
      | zero => omega
      | succ f =>
        have hfi : ((List.range j).map g).findIdx? (· == g j) = none := by
          rw [List.findIdx?_eq_none_iff]
          intro x hx
          obtain ⟨k, hk, rfl⟩ := List.mem_map.1 hx
          have := hr.apart k j (List.mem_range.1 hk) hjn
          simpa using this
        unfold loopG
        rw [hn j hj, Option.bind_some, if_pos (hb j)]
        simp only [hfi]
        rw [hs j hjn, Option.bind_some]
        have := ih (j + 1) (by omega) (by omega) f (by omega)
        rw [List.range_succ, List.map_append] at this
        exact this
  have := key (n - 0) 0 rfl (by omega) f (by omega)
  simpa using this
end FN
/-! A state's number; the states that come. -/
namespace FN
open Go
def numV (k : Int) (b : List Int) : Int := b.foldr (fun x n => n * k + x) 0
theorem numV_cons (k x : Int) (l : List Int) : numV k (x :: l) = numV k l * k + x := rfl
theorem numV_inj {k : Int} : ∀ {b b' : List Int}, b.length = b'.length → (∀ x ∈ b, 0 ≤ x ∧ x < k) → (∀ x ∈ b', 0 ≤ x ∧ x < k) → numV k b = numV k b' → b = b'
  | [], [], _, _, _, _ => rfl
  | [], _ :: _, h, _, _, _ => by simp at h
  | _ :: _, [], h, _, _, _ => by simp at h
  | x :: l, y :: m, h, h1, h2, e => by
    have hx := h1 x (by simp)
    have hy := h2 y (by simp)
    rw [numV_cons, numV_cons] at e
    have e1 : x = y := by
      have := congrArg (· % k) e
      simp only [Int.mul_add_emod_self_right] at this
      rwa [Int.emod_eq_of_lt hx.1 hx.2, Int.emod_eq_of_lt hy.1 hy.2] at this
    subst e1
    have e2 : numV k l * k = numV k m * k := by omega
    have e3 : numV k l = numV k m := Int.eq_of_mul_eq_mul_right (by omega) e2
    rw [numV_inj (b := l) (b' := m) (by simpa using h) (fun z hz => h1 z (by simp [hz])) (fun z hz => h2 z (by simp [hz])) e3]
theorem numV_bound {k : Int} (hk : 0 < k) : ∀ {b : List Int}, (∀ x ∈ b, 0 ≤ x ∧ x < k) → 0 ≤ numV k b ∧ numV k b + 1 ≤ k ^ b.length
  | [], _ => by simp [numV]
  | x :: l, h => by
    have hx := h x (by simp)
    obtain ⟨a1, a2⟩ := numV_bound hk (b := l) fun z hz => h z (by simp [hz])
    rw [numV_cons, List.length_cons, Int.pow_succ]
    have h1 : 0 ≤ numV k l * k := Int.mul_nonneg a1 (by omega)
    have h2 : (numV k l + 1) * k ≤ k ^ l.length * k := Int.mul_le_mul_of_nonneg_right a2 (by omega)
    rw [Int.add_mul, Int.one_mul] at h2
    omega
theorem StP.mem {k : Int} {s : List Int} (h : StP k s) : ∀ x ∈ s, 0 ≤ x ∧ x < k := by
  intro x hx
  obtain ⟨i, hi, rfl⟩ := List.getElem_of_mem hx
  have := h.1 i hi
  rwa [List.getD_eq_getElem?_getD, List.getElem?_eq_getElem hi] at this
theorem StP.num {k : Int} {s : List Int} (h : StP k s) : 0 ≤ numV k s ∧ numV k s < 15625 := by
  obtain ⟨a1, a2⟩ := numV_bound (by have := h.2.1; omega) h.mem
  refine ⟨a1, ?_⟩
  have h1 : k = 3 ∨ k = 4 ∨ k = 5 := by have := h.2; omega
  have h2 : s.length = 1 ∨ s.length = 2 ∨ s.length = 3 ∨ s.length = 4 ∨ s.length = 5 ∨ s.length = 6 := by have := h.2; omega
  have h3 : k ^ s.length ≤ 15625 := by
    rcases h1 with rfl | rfl | rfl <;> rcases h2 with e | e | e | e | e | e <;> rw [e] <;> decide
  omega
theorem numV_le {k : Int} {l : List Int} (h3 : 3 ≤ k) (h5 : k ≤ 5) (hl : l.length ≤ 6) (h : ∀ x ∈ l, 0 ≤ x ∧ x < k) : 0 ≤ numV k l ∧ numV k l < 15625 := by
  obtain ⟨a1, a2⟩ := numV_bound (by omega) h
  refine ⟨a1, ?_⟩
  have h1 : k = 3 ∨ k = 4 ∨ k = 5 := by omega
  have h2 : l.length = 0 ∨ l.length = 1 ∨ l.length = 2 ∨ l.length = 3 ∨ l.length = 4 ∨ l.length = 5 ∨ l.length = 6 := by omega
  have h3 : k ^ l.length ≤ 15625 := by
    rcases h1 with rfl | rfl | rfl <;> rcases h2 with e | e | e | e | e | e | e <;> rw [e] <;> decide
  omega
theorem num_loop {k : Int} {b : List Int} (h : StP k b) : ∀ m : Nat, m ≤ b.length → i_NumberOf_l0 k b (numV k (b.drop m)) ((m : Int) - 1) = some (numV k b)
  | 0, _ => by
    rw [i_NumberOf_l0_eq, cnd_f (by omega), List.drop_zero]
  | m + 1, hm => by
    have hd : b.drop m = b.getD m 0 :: b.drop (m + 1) := by
      rw [List.drop_eq_getElem_cons (by omega), List.getD_eq_getElem?_getD, List.getElem?_eq_getElem (by omega)]
      rfl
    have hk := h.2
    have hq := numV_le (l := b.drop (m + 1)) hk.1 hk.2.1 (by rw [List.length_drop]; omega) fun x hx => h.mem x (List.mem_of_mem_drop hx)
    have hx := h.1 m (by omega)
    have hmul : 0 ≤ numV k (b.drop (m + 1)) * k ∧ numV k (b.drop (m + 1)) * k ≤ 15625 * 5 := by
      refine ⟨Int.mul_nonneg hq.1 (by omega), ?_⟩
      exact Int.mul_le_mul (by omega) hk.2.1 (by omega) (by omega)
    have e1 : (((m + 1 : Nat) : Int) - 1) = (m : Int) := by omega
    rw [i_NumberOf_l0_eq, e1, cnd_t (by omega), if_pos ⟨by omega, by omega⟩, gN, i64w (n := numV k (b.drop (m + 1)) * k) (by omega) (by omega), i64w (n := numV k (b.drop (m + 1)) * k + b.getD m 0) (by omega) (by omega), i64w (n := (m : Int) - 1) (by omega) (by omega)]
    have := num_loop h m (by omega)
    rw [hd, numV_cons] at this
    exact this
theorem numOf_val {k : Int} {b : List Int} (h : StP k b) : i_NumberOf_f (k, b) = some (numV k b) := by
  have hl := h.2.2.2
  rw [i_NumberOf_f_eq, ist k b (by omega), Option.bind_some, decide_eq_true h, Bool.not_true, cond_false, i64w (by omega) (by omega)]
  have := num_loop h b.length (Nat.le_refl _)
  rw [List.drop_length] at this
  exact this
theorem stepV_ok {a : List Int} {k : Int} {b : List Int} (h : PlP a k b) : PlP a k (stepV a k b) := by
  have hl := stepV_len a k b
  refine ⟨h.1, ⟨fun i hi => ?_, h.2.1.2.1, h.2.1.2.2.1, by rw [hl]; exact h.2.1.2.2.2.1, by rw [hl]; exact h.2.1.2.2.2.2⟩, by rw [hl]; exact h.2.2⟩
  rw [hl] at hi
  rw [stepV_get h hi]
  have hb := h.2.1.1 i hi
  have hk := h.2.1.2.1
  unfold stepAt
  split
  · constructor
    · exact Int.tmod_nonneg _ (by omega)
    · exact Int.tmod_lt_of_pos _ (by omega)
  · split <;> omega
/-- The states that come. -/
noncomputable def stN (a : List Int) (k : Int) (b : List Int) : Nat → List Int
  | 0 => b
  | n + 1 => stepV a k (stN a k b n)
theorem stN_ok {a : List Int} {k : Int} {b : List Int} (h : PlP a k b) : ∀ n, PlP a k (stN a k b n) ∧ (stN a k b n).length = b.length
  | 0 => ⟨h, rfl⟩
  | n + 1 => ⟨stepV_ok (stN_ok h n).1, by rw [stN, stepV_len]; exact (stN_ok h n).2⟩
theorem stN_step (a : List Int) (k : Int) (b : List Int) : ∀ n, stN a k (stepV a k b) n = stN a k b (n + 1)
  | 0 => rfl
  | n + 1 => by rw [stN, stN_step a k b n]; rfl
noncomputable def gN_ (a : List Int) (k : Int) (b : List Int) (n : Nat) : Int := numV k (stN a k b n)
theorem gN_next {a : List Int} {k : Int} {b : List Int} (h : PlP a k b) (i j : Nat) (e : gN_ a k b i = gN_ a k b j) : gN_ a k b (i + 1) = gN_ a k b (j + 1) := by
  have := numV_inj (by rw [(stN_ok h i).2, (stN_ok h j).2]) (stN_ok h i).1.2.1.mem (stN_ok h j).1.2.1.mem e
  show numV k (stepV a k (stN a k b i)) = numV k (stepV a k (stN a k b j))
  rw [this]
theorem gN_rep {a : List Int} {k : Int} {b : List Int} (h : PlP a k b) : ∃ i n, n ≤ 15625 ∧ RepAt (gN_ a k b) i n :=
  RepAt.ex (N := 15625) fun j => (stN_ok h j).1.2.1.num
theorem loop_val {a : List Int} {k : Int} {b : List Int} (h : PlP a k b) : ∃ i n, n ≤ 15625 ∧ RepAt (gN_ a k b) i n ∧ i_LoopOf_f (a, k, b) = some ((i : Int), (n : Int) - (i : Int)) := by
  obtain ⟨i, n, hn, hr⟩ := gN_rep h
  refine ⟨i, n, hn, hr, ?_⟩
  have hm := PlP.sm h
  rw [i_LoopOf_f_eq, iasked a k b (by omega), Option.bind_some, decide_eq_true h, cond_true]
  have key := fun f hf => loopG_val (num := fun s => i_NumberOf_f (k, s)) (step := fun s => i_needStep_f (a, k, (), s)) (g := gN_ a k b) (S := stN a k b) hr (fun j _ => i_step (stN_ok h j).1) (fun j _ => numOf_val (stN_ok h j).1.2.1) (fun j => by
    have := (stN_ok h j).1.2.1.num
    exact ⟨this.1, by have := this.2; show numV k (stN a k b j) ≤ _; omega⟩) f hf
  have e0 : stN a k b 0 = b := rfl
  rw [e0] at key
  have hf : n < 20000 := by omega
  generalize (20000 : Nat) = f at hf ⊢
  exact key f hf
/-- One step later, the loop is as long. -/
theorem loop_step {a : List Int} {k : Int} {b : List Int} (h : PlP a k b) : ∃ i n : Nat, n ≤ 15625 ∧ i < n ∧ i_LoopOf_f (a, k, b) = some ((i : Int), (n : Int) - (i : Int)) ∧
    ∃ i' n' : Nat, i' = i - 1 ∧ i' < n' ∧ (n' : Int) - (i' : Int) = (n : Int) - (i : Int) ∧ i_LoopOf_f (a, k, stepV a k b) = some ((i' : Int), (n' : Int) - (i' : Int)) := by
  obtain ⟨i, n, hn, hr, e⟩ := loop_val h
  obtain ⟨i', n', hn', hr', e'⟩ := loop_val (stepV_ok h)
  have hs := hr.shift (gN_next h)
  have hg : gN_ a k (stepV a k b) = fun j => gN_ a k b (j + 1) := by
    funext j
    show numV k (stN a k (stepV a k b) j) = numV k (stN a k b (j + 1))
    rw [stN_step]
  rw [← hg] at hs
  obtain ⟨e1, e2⟩ := hr'.uniq hs
  refine ⟨i, n, hn, hr.lt, e, i', n', e1, hr'.lt, ?_, e'⟩
  have := hr.lt
  split at e2 <;> omega
end FN
/-! The law FnDeskDo. -/
namespace FN
open Go
/-- A drawn desk with a deed. -/
theorem drawDo_ok {x : List Int} (hb : Bytes x) : ∃ (d : Dk) (a : Dd3), s_DrawDeskDo_f x = some (d.1, d.2.1, d.2.2.1, d.2.2.2, a.1, a.2.1, a.2.2) ∧ d.1.length ≤ 6 ∧ d.2.2.1.length ≤ 6 ∧ d.2.2.2.length ≤ 9 ∧ (∀ p ∈ d.2.2.2, p.1.length ≤ 6 ∧ p.2.2.length ≤ 6) := by
  obtain ⟨l, e1, e2, e3⟩ := open_ok hb
  obtain ⟨d, q, e4, s1, s2, s3, s4, q1, q2⟩ := l20Desk_ok e2 e3 12 (by omega) (p := 0) (by omega) (by omega)
  obtain ⟨K, A, B, q', e5, q3, q4⟩ := l20Deed_ok e2 e3 (a := d.1) (b := d.2.2.1) (k := d.2.1) (by omega) (p := q) (by omega) (by omega)
  rw [s_DrawDeskDo_f_eq, e1, Option.bind_some, e4, Option.bind_some]
  simp only
  rw [e5, Option.bind_some]
  exact ⟨d, (K, A, B), rfl, s1, s2, s3, s4⟩
theorem doV_bk {e : Dk} (h : bkB (4, 0, 0) e.2.2.2.length = true) : doV e (4, 0, 0) = (backV e, true) := by
  unfold doV
  rw [if_pos h]
theorem back_same {d : Dk} (h : DkOk d) {x : Dd3} (h4 : x.1 ≠ 4) (hy : (doV d x).2 = true) (h8 : d.2.2.2.length < 8) : doV (doV d x).1 (4, 0, 0) = (d, true) := by
  have hnb : ¬ bkB x d.2.2.2.length = true := fun hh => h4 (of_decide_eq_true hh).1
  have hv : (doV d x).1.2.2.2 = pastV d := by
    unfold doV at hy ⊢
    rw [if_neg hnb] at hy ⊢
    split at hy
    · rename_i hc; rw [if_pos hc]
    · cases hy
  have hp : pastV d = d.2.2.2 ++ [nowP d] := by
    unfold pastV
    rw [if_neg (by rw [List.length_append, List.length_singleton]; omega)]
  have hl : (d.2.2.2 ++ [nowP d]).length = d.2.2.2.length + 1 := by simp
  have hbk : bkB (4, 0, 0) (doV d x).1.2.2.2.length = true := by
    rw [hv, hp, hl]
    exact decide_eq_true ⟨rfl, rfl, rfl, by omega⟩
  rw [doV_bk hbk]
  unfold backV
  rw [hv, hp, hl]
  have e1 : (d.2.2.2 ++ [nowP d]).getD (d.2.2.2.length + 1 - 1) ([], 0, []) = nowP d := by
    rw [List.getD_eq_getElem?_getD, show d.2.2.2.length + 1 - 1 = d.2.2.2.length by omega, List.getElem?_append_right (Nat.le_refl _)]
    simp
  have e2 : (d.2.2.2 ++ [nowP d]).take (d.2.2.2.length + 1 - 1) = d.2.2.2 := by
    rw [show d.2.2.2.length + 1 - 1 = d.2.2.2.length by omega, List.take_left]
  rw [e1, e2]
theorem step_now {d : Dk} (h : DkOk d) {x : Dd3} (h2 : x.1 = 2) (hy : (doV d x).2 = true) : (doV d x).1.1 = d.1 ∧ (doV d x).1.2.1 = d.2.1 ∧ (doV d x).1.2.2.1 = stepV d.1 d.2.1 d.2.2.1 := by
  have hnb : ¬ bkB x d.2.2.2.length = true := fun hh => by have := (of_decide_eq_true hh).1; omega
  unfold doV at hy ⊢
  rw [if_neg hnb] at hy ⊢
  split at hy
  · rename_i hc
    rw [if_pos hc]
    unfold canV at hc
    rw [Bool.and_eq_true] at hc
    have hq : PlP (madeV (nowP d) x).1 (madeV (nowP d) x).2.1 (madeV (nowP d) x).2.2 := by
      have := hc.1
      rwa [decide_eq_true_eq] at this
    obtain ⟨K, A, B⟩ := x
    have hK : K = 2 := h2
    subst hK
    have hm : madeV (nowP d) (2, A, B) = if A = 0 ∧ B = 0 then (d.1, d.2.1, stepV d.1 d.2.1 d.2.2.1) else ([], 0, []) := by
      unfold madeV
      have := made_eq (show PlP d.1 d.2.1 d.2.2.1 from h.2.1) 2 A B
      dsimp only at this
      rw [if_neg (by omega), if_neg (by omega)] at this
      show (s_l15Made_f (d.1, d.2.1, d.2.2.1, 2, A, B)).getD ([], 0, []) = _
      rw [this]
      by_cases c : A = 0 ∧ B = 0
      · rw [if_pos ⟨rfl, c.1, c.2⟩, if_pos c]; rfl
      · rw [if_neg (fun hh => c ⟨hh.2.1, hh.2.2⟩), if_neg (by omega), if_neg c]; rfl
    by_cases c : A = 0 ∧ B = 0
    · rw [if_pos c] at hm
      rw [hm]
      exact ⟨rfl, rfl, rfl⟩
    · rw [if_neg c] at hm
      rw [hm] at hq
      exact (no_zero hq).elim
  · cases hy
theorem sameInts_nil (l : List Int) : ∃ b, w_sameInts_f ([], l) = some b := by
  rw [w_sameInts_f_eq]
  by_cases h : ((List.length ([] : List Int) : Nat) : Int) = (l.length : Int)
  · rw [bne_f h, w_sameInts_l0_eq, cnd_f (by simp)]
    exact ⟨_, rfl⟩
  · rw [bne_t h]
    exact ⟨_, rfl⟩
theorem sameDesk_nil (a : List Int) (k : Int) (b : List Int) (l : List Pl) : ∃ t, w_sameDesk_f ([], 0, [], [], a, k, b, l) = some t := by
  obtain ⟨t1, h1⟩ := sameInts_nil a
  obtain ⟨t2, h2⟩ := sameInts_nil b
  have hp : ∃ t, w_samePlace_f ([], 0, [], a, k, b) = some t := by
    rw [w_samePlace_f_eq, h1, Option.bind_some, h2]
    cases t1 with
    | false => exact ⟨_, rfl⟩
    | true =>
      rw [cond_true]
      by_cases c : (0 : Int) = k
      · rw [beq_t c]; exact ⟨_, rfl⟩
      · rw [beq_f c]; exact ⟨_, rfl⟩
  obtain ⟨t, ht⟩ := hp
  rw [w_sameDesk_f_eq, ht, Option.bind_some]
  cases t with
  | false => exact ⟨_, rfl⟩
  | true =>
    rw [Bool.not_true, cond_false]
    by_cases h : ((List.length ([] : List Pl) : Nat) : Int) = (l.length : Int)
    · rw [bne_f h, w_sameDesk_l0_eq, cnd_f (by simp)]
      exact ⟨_, rfl⟩
    · rw [bne_t h]
      exact ⟨_, rfl⟩
theorem deskDo_law {x : List Int} (hb : Bytes x) : w_FnDeskDo_f x = some true := by
  rw [w_FnDeskDo_f_eq]
  by_cases h0 : (1048576 : Int) < (x.length : Int)
  · rw [cnd_t h0]
  rw [cnd_f h0]
  obtain ⟨d, a, e1, s1, s2, s3, s4⟩ := drawDo_ok hb
  have hs' : ∀ p ∈ d.2.2.2, smP 4611686018427387904 p := fun p hp => ⟨by have := (s4 p hp).1; omega, by have := (s4 p hp).2; omega⟩
  have hsd := sdesk d.1 d.2.1 d.2.2.1 d.2.2.2 (by omega) (by omega) hs'
  have hid := idesk d.1 d.2.1 d.2.2.1 d.2.2.2 (by omega) (by omega) hs'
  rw [e1, Option.bind_some]
  simp only
  have hz : w_sameDesk_f ([], 0, [], [], [], 0, [], []) = some true := sameDesk_refl [] 0 [] [] (by simp) (by simp) (by simp) (by simp)
  by_cases h : DkP d.1 d.2.1 d.2.2.1 d.2.2.2
  · have hk : DkOk d := h
    rw [ido_val hk a, Option.bind_some, do_val hk a, Option.bind_some]
    simp only
    have hD : DkOk (doV d a).1 := doV_ok hk a
    rw [sameDesk_ok hD]
    simp only [Option.bind_some, Bool.not_true, cond_false, beq_self_eq_true]
    cases hy : (doV d a).2 with
    | false =>
      rw [doV_no hy, sameDesk_ok hk]
      simp only [Bool.not_false, cond_true, Option.bind_some]
      rw [alive_yes]
      rfl
    | true =>
      simp only [Bool.not_true, cond_false]
      have hb9 := ido_val hD (4, 0, 0)
      simp only at hb9
      rw [hb9, Option.bind_some]
      obtain ⟨i, n, hn, hin, el, i', n', hi', hin', hlong, el'⟩ := loop_step hk.2.1
      obtain ⟨i2, n2, hn2, hr2, el2⟩ := loop_val hD.2.1
      have hlt2 := hr2.lt
      rw [el, Option.bind_some, el2, Option.bind_some]
      simp only
      have hdk : i_DeskOk_f ((doV d a).1.1, (doV d a).1.2.1, (doV d a).1.2.2.1, (doV d a).1.2.2.2) = some true := by
        have hm := PlP.sm hD.2.1
        rw [idesk _ _ _ _ (by omega) (by have := hD.2.2; omega) fun p hp => by have := PlP.sm (hD.1 p hp); exact ⟨by omega, by omega⟩]
        rw [decide_eq_true (show DkP _ _ _ _ from hD)]
      rw [hdk, Option.bind_some, cond_true]
      have hend : (cond (decide ((1 : Int) ≤ (n : Int) - (i : Int))) (some (decide ((1 : Int) ≤ (n2 : Int) - (i2 : Int)))) (some false)) = some true := by
        rw [cnd_t (by omega), decide_eq_true (by omega)]
      have tail : (cond ((a.1 != 2)) (cond (decide ((1 : Int) ≤ (n : Int) - (i : Int))) (some (decide ((1 : Int) ≤ (n2 : Int) - (i2 : Int)))) (some false)) (cond (((n : Int) - (i : Int) == (n2 : Int) - (i2 : Int))) (cond (((i2 : Int) == (if 0 > (IntKind.i64.wrap ((i : Int) - 1)) then 0 else (IntKind.i64.wrap ((i : Int) - 1))))) (cond (decide ((1 : Int) ≤ (n : Int) - (i : Int))) (some (decide ((1 : Int) ≤ (n2 : Int) - (i2 : Int)))) (some false)) (some false)) (some false))) = some true := by
        by_cases c2 : a.1 = 2
        · obtain ⟨t1, t2, t3⟩ := step_now hk c2 hy
          have e2 := el2
          rw [t1, t2, t3, el'] at e2
          have e2 := Option.some.inj e2
          have e3 : (i' : Int) = (i2 : Int) := congrArg Prod.fst e2
          have e4 : (n' : Int) - (i' : Int) = (n2 : Int) - (i2 : Int) := congrArg Prod.snd e2
          rw [bne_f c2, beq_t (by omega), i64w (by omega) (by omega)]
          have : (i2 : Int) = (if 0 > ((i : Int) - 1) then 0 else ((i : Int) - 1)) := by split <;> omega
          rw [beq_t this]
          exact hend
        · rw [bne_t c2]
          exact hend
      by_cases c4 : a.1 = 4
      · rw [beq_t c4]
        exact tail
      · rw [beq_f c4]
        by_cases c8 : (8 : Int) ≤ (d.2.2.2.length : Int)
        · rw [cnd_t c8]
          exact tail
        · rw [cnd_f c8, back_same hk c4 hy (by omega)]
          simp only [cond_true]
          rw [sameDesk_ok hk, Option.bind_some, cond_true]
          exact tail
  · have hr : i_DeskDo_f (d.1, d.2.1, d.2.2.1, d.2.2.2, a.1, a.2.1, a.2.2) = some ([], 0, [], [], false) := by
      rw [i_DeskDo_f_eq, hid, Option.bind_some, decide_eq_false h]; rfl
    have hr2 : s_DeskDo_f (d.1, d.2.1, d.2.2.1, d.2.2.2, a.1, a.2.1, a.2.2) = some ([], 0, [], [], false) := by
      rw [s_DeskDo_f_eq, hsd, Option.bind_some, decide_eq_false h]; rfl
    rw [hr, Option.bind_some, hr2, Option.bind_some]
    simp only
    rw [hz]
    simp only [Option.bind_some, Bool.not_true, cond_false, beq_self_eq_true, Bool.not_false, cond_true]
    obtain ⟨b, hb'⟩ := sameDesk_nil d.1 d.2.1 d.2.2.1 d.2.2.2
    rw [hb', Option.bind_some, hid, Option.bind_some, decide_eq_false h, alive_yes]
    cases b <;> rfl
theorem FnDeskDo_true (x : Ts w_FnDeskDo_sig.pc) (hw : WfTs w_FnDeskDo_sig.pc x) : w_FnDeskDo_f x = some true := deskDo_law fun y hy => hw.2 y hy
end FN
