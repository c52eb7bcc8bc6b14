/- Texts of the proof, joined: parts -/
import Derived.Test.YtbkndbgonbadaaaGreatDoorQ3
import Derived.Test.YtbkndbgonbadaaaGreatDoorJ5
set_option linter.unusedVariables false
set_option linter.unusedSimpArgs false
set_option linter.unusedSectionVars false
/-! One step: the program's and the reference's alike. -/
namespace FN
open Go
theorem bt_nat (x j : Nat) : bt (x : Int) j = if x.testBit j then 1 else 0 := by
  unfold bt
  rw [Nat.testBit_eq_decide_div_mod_eq]
  have : ((x : Int) / 2 ^ j) % 2 = ((x / 2 ^ j % 2 : Nat) : Int) := by push_cast; rfl
  rw [this]
  by_cases h : x / 2 ^ j % 2 = 1
  · simp [h]
  · simp [h]; omega
theorem and_ne {x m : Nat} : x &&& m ≠ 0 ↔ ∃ j, x.testBit j = true ∧ m.testBit j = true := by
  constructor
  · intro h
    apply Classical.byContradiction
    intro hn
    apply h
    apply Nat.eq_of_testBit_eq
    intro i
    rw [Nat.testBit_and, Nat.zero_testBit]
    cases hx : x.testBit i with
    | false => rfl
    | true => cases hm : m.testBit i with
      | false => rfl
      | true => exact absurd ⟨i, hx, hm⟩ hn
  · rintro ⟨j, hx, hm⟩ h
    have : (x &&& m).testBit j = true := by rw [Nat.testBit_and, hx, hm]; rfl
    rw [h, Nat.zero_testBit] at this
    cases this
/-- A firing neighbour. -/
def fires (a b : List Int) (i : Nat) : Prop := ∃ j, j < b.length ∧ bt (a.getD i 0) j = 1 ∧ b.getD j 0 = 1
open Classical in
noncomputable def stepAt (a : List Int) (k : Int) (b : List Int) (i : Nat) : Int := if 0 < b.getD i 0 then Int.tmod (b.getD i 0 + 1) k else if fires a b i then 1 else 0
noncomputable def stepV (a : List Int) (k : Int) (b : List Int) : List Int := (List.range b.length).map (stepAt a k b)
theorem stepV_len (a : List Int) (k : Int) (b : List Int) : (stepV a k b).length = b.length := by simp [stepV]
theorem stepV_take (a : List Int) (k : Int) (b : List Int) {i : Nat} (h : i < b.length) : (stepV a k b).take (i + 1) = (stepV a k b).take i ++ [stepAt a k b i] := by
  rw [List.take_succ_eq_append_getElem (by rw [stepV_len]; exact h)]
  simp [stepV]
theorem bit_or (M i j : Nat) : (M ||| 2 ^ i).testBit j = (M.testBit j || decide (i = j)) := by
  rw [Nat.testBit_or, Nat.testBit_two_pow]
section
variable {a : List Int} {k : Int} {b : List Int} (h : PlP a k b)
include h
theorem s_mask : ∀ i, i ≤ b.length → ∀ M : Nat, M < 64 → (∀ j, M.testBit j = true ↔ j < i ∧ b.getD j 0 = 1) →
    ∃ M' : Nat, M' < 64 ∧ (∀ j, M'.testBit j = true ↔ j < b.length ∧ b.getD j 0 = 1) ∧ s_l3Step_l0 a k b (M : Int) (i : Int) = s_l3Step_l2 a k b (M' : Int) 0 [] := by
  have hm := PlP.sm h
  refine advN ?_ fun i hi ih => ?_
  · intro M hM hb
    refine ⟨M, hM, hb, ?_⟩
    rw [s_l3Step_l0_eq, cnd_f (by omega), s_l3Step_j1_eq]
  · intro M hM hb
    rw [s_l3Step_l0_eq, cnd_t (by omega), if_pos (inN hi), gN, w1 hi (by omega)]
    by_cases c : b.getD i 0 = 1
    · have hp : (2 : Nat) ^ i < 64 := by
        have : (2 : Nat) ^ i < 2 ^ 6 := Nat.pow_lt_pow_right (by omega) (by omega)
        omega
      have e : Go.bits .or IntKind.i64 (M : Int) (IntKind.i64.wrap (1 * 2 ^ min ((i : Int)).toNat IntKind.i64.bits)) = ((M ||| 2 ^ i : Nat) : Int) := by
        rw [sh1 (by omega), show (2 : Int) ^ i = ((2 ^ i : Nat) : Int) by push_cast; rfl]
        exact (bits_nat (by omega) (by omega)).2.1
      rw [beq_t c, if_neg (by omega), e]
      refine ih _ ?_ fun j => ?_
      · have : M ||| 2 ^ i < 2 ^ 6 := Nat.or_lt_two_pow (by omega) (by omega)
        omega
      · rw [bit_or, Bool.or_eq_true, hb, decide_eq_true_eq]
        constructor
        · rintro (⟨h1, h2⟩ | rfl)
          · exact ⟨by omega, h2⟩
          · exact ⟨by omega, c⟩
        · rintro ⟨h1, h2⟩
          by_cases e : i = j
          · exact .inr e
          · exact .inl ⟨by omega, h2⟩
    · rw [beq_f c]
      refine ih _ hM fun j => ?_
      rw [hb]
      constructor
      · rintro ⟨h1, h2⟩; exact ⟨by omega, h2⟩
      · rintro ⟨h1, h2⟩
        refine ⟨?_, h2⟩
        by_cases e : j = i
        · rw [e] at h2; exact absurd h2 c
        · omega
theorem near_nat {i : Nat} (hi : i < a.length) : ∃ x : Nat, a.getD i 0 = (x : Int) ∧ x < 64 := by
  have hm := PlP.sm h
  obtain ⟨h0, h1⟩ := h.1.rng i hi
  have := pow6 (n := a.length) hm.1
  exact ⟨(a.getD i 0).toNat, by omega, by omega⟩
theorem s_step_loop (M : Nat) (hM : M < 64) (hb : ∀ j, M.testBit j = true ↔ j < b.length ∧ b.getD j 0 = 1) : ∀ i, i ≤ b.length → s_l3Step_l2 a k b (M : Int) (i : Int) ((stepV a k b).take i) = some (stepV a k b) := by
  have hm := PlP.sm h
  have hk := h.2.1.2.1
  have he := h.2.2
  refine advN ?_ fun i hi ih => ?_
  · rw [s_l3Step_l2_eq, cnd_f (by omega), ← stepV_len a k b, List.take_length]
  · obtain ⟨r1, r2⟩ := h.2.1.1 i hi
    have hk5 := h.2.1.2.2.1
    have hlen : ((stepV a k b).take i).length ≤ 6 := by rw [List.length_take, stepV_len]; omega
    rw [stepV_take a k b hi] at ih
    rw [s_l3Step_l2_eq, cnd_t (by omega), if_pos (inN hi), gN, gN, w1 hi (by omega)]
    by_cases c : 0 < b.getD i 0
    · have e : stepAt a k b i = Int.tmod (IntKind.i64.wrap (b.getD i 0 + 1)) k := by
        unfold stepAt; rw [if_pos c, i64w (by omega) (by omega)]
      rw [cnd_t c, if_neg (by omega), if_pos (by simp; omega), ← e]
      exact ih
    · rw [cnd_f c, if_pos (inN (by omega))]
      obtain ⟨x, hx, hx'⟩ := near_nat h (i := i) (by omega)
      rw [hx, (bits_nat (by omega) (by omega)).1]
      have hf : fires a b i ↔ x &&& M ≠ 0 := by
        rw [and_ne]
        unfold fires
        rw [hx]
        constructor
        · rintro ⟨j, h1, h2, h3⟩
          refine ⟨j, ?_, (hb j).2 ⟨h1, h3⟩⟩
          rw [bt_nat] at h2
          cases hq : x.testBit j with
          | true => rfl
          | false => rw [hq] at h2; simp at h2
        · rintro ⟨j, h1, h2⟩
          obtain ⟨h3, h4⟩ := (hb j).1 h2
          exact ⟨j, h3, by rw [bt_nat, h1]; rfl, h4⟩
      by_cases f : fires a b i
      · have e : stepAt a k b i = 1 := by unfold stepAt; rw [if_neg c, if_pos f]
        have := hf.1 f
        rw [bne_t (by omega), if_pos (by simp; omega), ← e]
        exact ih
      · have e : stepAt a k b i = b.getD i 0 := by unfold stepAt; rw [if_neg c, if_neg f]; omega
        have : x &&& M = 0 := Classical.byContradiction fun h => f (hf.2 h)
        rw [bne_f (by omega), if_pos (by simp; omega), ← e]
        exact ih
theorem s_step : s_l3Step_f (a, k, b) = some (stepV a k b) := by
  rw [s_l3Step_f_eq]
  obtain ⟨M, hM, hb, e⟩ := s_mask h 0 (by omega) 0 (by omega) (fun j => by simp)
  refine (show s_l3Step_l0 a k b 0 0 = _ from e).trans ?_
  exact s_step_loop h M hM hb 0 (by omega)
end
end FN

namespace FN
open Go
section
variable {a : List Int} {k : Int} {b : List Int} (h : PlP a k b)
include h
theorem i_step_inner {i : Nat} (hi : i < b.length) (out : List Int) (n : Int) : ∀ j, j ≤ b.length → ∀ c : Nat, c ≤ j →
    ∃ c' : Nat, c' ≤ 6 ∧ (1 ≤ c' ↔ 1 ≤ c ∨ ∃ m, j ≤ m ∧ m < b.length ∧ bt (a.getD i 0) m = 1 ∧ b.getD m 0 = 1) ∧ i_needStep_l1 a k b (i : Int) (c : Int) 1 b n (i : Int) b (b.length : Int) (j : Int) out = i_needStep_j3 a k b (i : Int) (c' : Int) 1 b n (i : Int) out := by
  have hm := PlP.sm h
  have he := h.2.2
  refine advN ?_ fun j hj ih => ?_
  · intro c hc
    refine ⟨c, by omega, ⟨fun h => .inl h, ?_⟩, ?_⟩
    · rintro (h | ⟨m, h1, h2, _⟩)
      · exact h
      · omega
    · rw [i_needStep_l1_eq, cnd_f (by omega), i_needStep_j2_eq]
  · intro c hc
    rw [i_needStep_l1_eq, cnd_t (by omega), if_pos (inN hj), if_pos (inN (by omega)), if_neg (by omega), gN, gN, bit_and _ (by omega), w1 hj (by omega)]
    have stay : ¬ (bt (a.getD i 0) j = 1 ∧ b.getD j 0 = 1) → ∀ c' : Nat, (1 ≤ c' ↔ 1 ≤ c ∨ ∃ m, j + 1 ≤ m ∧ m < b.length ∧ bt (a.getD i 0) m = 1 ∧ b.getD m 0 = 1) → (1 ≤ c' ↔ 1 ≤ c ∨ ∃ m, j ≤ m ∧ m < b.length ∧ bt (a.getD i 0) m = 1 ∧ b.getD m 0 = 1) := by
      intro hn c' e
      rw [e]
      constructor
      · rintro (h | ⟨m, h1, h2⟩)
        · exact .inl h
        · exact .inr ⟨m, by omega, h2⟩
      · rintro (h | ⟨m, h1, h2, h3⟩)
        · exact .inl h
        · by_cases e : m = j
          · subst e; exact absurd h3 hn
          · exact .inr ⟨m, by omega, h2, h3⟩
    by_cases c1 : bt (a.getD i 0) j = 1
    · rw [beq_t c1]
      by_cases c2 : b.getD j 0 = 1
      · have e1 : IntKind.i64.wrap ((c : Int) + 1) = ((c + 1 : Nat) : Int) := i64w (by omega) (by omega)
        rw [beq_t c2, e1]
        obtain ⟨c', h1, h2, h3⟩ := ih (c + 1) (by omega)
        refine ⟨c', h1, ⟨fun _ => .inr ⟨j, Nat.le_refl j, hj, c1, c2⟩, fun _ => h2.2 (.inl (by omega))⟩, h3⟩
      · rw [beq_f c2]
        obtain ⟨c', h1, h2, h3⟩ := ih c (by omega)
        exact ⟨c', h1, stay (fun h => c2 h.2) c' h2, h3⟩
    · rw [beq_f c1]
      obtain ⟨c', h1, h2, h3⟩ := ih c (by omega)
      exact ⟨c', h1, stay (fun h => c1 h.1) c' h2, h3⟩
omit h in
/-- What is filled in so far. -/
theorem set_take {v : List Int} {i : Nat} (hi : i < v.length) (x : Int) (hx : v.getD i 0 = x) : List.set (v.take i ++ List.replicate (v.length - i) 0) i x = v.take (i + 1) ++ List.replicate (v.length - (i + 1)) 0 := by
  apply List.ext_getElem?
  intro m
  rw [List.getElem?_set]
  have hl : (v.take i).length = i := by rw [List.length_take]; omega
  by_cases e : i = m
  · subst e
    rw [if_pos rfl, if_pos (by simp; omega), List.getElem?_append_left (by rw [List.length_take]; omega), List.getElem?_take_of_lt (by omega), ← hx, List.getD_eq_getElem?_getD, List.getElem?_eq_getElem hi]
    rfl
  · rw [if_neg e]
    by_cases c : m < i
    · rw [List.getElem?_append_left (by omega), List.getElem?_append_left (by rw [List.length_take]; omega), List.getElem?_take_of_lt c, List.getElem?_take_of_lt (by omega)]
    · rw [List.getElem?_append_right (by omega), List.getElem?_append_right (by rw [List.length_take]; omega), List.getElem?_replicate, List.getElem?_replicate, hl, List.length_take]
      have : min (i + 1) v.length = i + 1 := by omega
      rw [this]
      by_cases c2 : m - i < v.length - i
      · rw [if_pos c2, if_pos (by omega)]
      · rw [if_neg c2, if_neg (by omega)]
theorem stepV_get {i : Nat} (hi : i < b.length) : (stepV a k b).getD i 0 = stepAt a k b i := by
  rw [List.getD_eq_getElem?_getD, List.getElem?_eq_getElem (by rw [stepV_len]; exact hi)]
  simp [stepV]
theorem i_step_outer : ∀ i, i ≤ b.length → i_needStep_l0 a k b b (b.length : Int) (i : Int) ((stepV a k b).take i ++ List.replicate (b.length - i) 0) = some (stepV a k b) := by
  have hm := PlP.sm h
  have hk := h.2.1.2.1
  have hk5 := h.2.1.2.2.1
  have he := h.2.2
  refine advN ?_ fun i hi ih => ?_
  · rw [i_needStep_l0_eq, cnd_f (by omega), Nat.sub_self, List.replicate_zero, List.append_nil, ← stepV_len a k b, List.take_length]
  · obtain ⟨r1, r2⟩ := h.2.1.1 i hi
    have hout : ((stepV a k b).take i ++ List.replicate (b.length - i) 0).length = b.length := by
      rw [List.length_append, List.length_take, stepV_len, List.length_replicate]; omega
    have hset : ∀ x, stepAt a k b i = x → List.set ((stepV a k b).take i ++ List.replicate (b.length - i) 0) i x = (stepV a k b).take (i + 1) ++ List.replicate (b.length - (i + 1)) 0 := by
      intro x hx
      have := set_take (v := stepV a k b) (i := i) (by rw [stepV_len]; exact hi) x ((stepV_get h hi).trans hx)
      rwa [stepV_len] at this
    have hti : ((i : Int)).toNat = i := by omega
    rw [i_needStep_l0_eq, cnd_t (by omega), if_pos (inN hi), gN]
    by_cases c : 0 < b.getD i 0
    · have e : stepAt a k b i = Int.tmod (IntKind.i64.wrap (b.getD i 0 + 1)) k := by
        unfold stepAt; rw [if_pos c, i64w (by omega) (by omega)]
      rw [cnd_t c, if_neg (by omega), if_pos (by rw [hout]; exact inN hi), hti, hset _ e, w1 hi (by omega)]
      exact ih
    · rw [cnd_f c]
      obtain ⟨c', h1, h2, h3⟩ := i_step_inner h hi ((stepV a k b).take i ++ List.replicate (b.length - i) 0) (b.length : Int) 0 (by omega) 0 (by omega)
      refine (show i_needStep_l1 a k b (i : Int) 0 1 b (b.length : Int) (i : Int) b (b.length : Int) 0 _ = _ from h3).trans ?_
      have hf : fires a b i ↔ 1 ≤ c' := by
        rw [h2]
        unfold fires
        constructor
        · rintro ⟨j, j1, j2, j3⟩; exact .inr ⟨j, by omega, j1, j2, j3⟩
        · rintro (hh | ⟨m, m1, m2, m3, m4⟩)
          · omega
          · exact ⟨m, m2, m3, m4⟩
      rw [i_needStep_j3_eq]
      by_cases f : fires a b i
      · have e : stepAt a k b i = 1 := by unfold stepAt; rw [if_neg c, if_pos f]
        have := hf.1 f
        rw [cnd_t (by omega), if_pos (by rw [hout]; exact inN hi), hti, hset _ e, w1 hi (by omega)]
        exact ih
      · have e : stepAt a k b i = 0 := by unfold stepAt; rw [if_neg c, if_neg f]
        have : ¬ 1 ≤ c' := fun h => f (hf.2 h)
        have hz : (stepV a k b).take i ++ List.replicate (b.length - i) 0 = (stepV a k b).take (i + 1) ++ List.replicate (b.length - (i + 1)) 0 := by
          rw [stepV_take a k b hi, e, List.append_assoc]
          congr 1
          rw [show b.length - i = (b.length - (i + 1)) + 1 by omega, List.replicate_succ]
          rfl
        rw [cnd_f (by omega), w1 hi (by omega), hz]
        exact ih
theorem i_step : i_needStep_f (a, k, (), b) = some (stepV a k b) := by
  have hm := PlP.sm h
  rw [i_needStep_f_eq, if_pos ⟨by omega, by omega, by omega⟩]
  have := i_step_outer h 0 (by omega)
  rwa [List.take_zero, List.nil_append, Nat.sub_zero] at this
end
end FN

/-! Distances and parts: the program's and the reference's alike. -/
namespace FN
open Go
theorem bits_andNot {a b : Nat} (ha : a < 9223372036854775808) (hb : b < 9223372036854775808) : ∃ c : Nat, Go.bits .andNot .i64 (a : Int) (b : Int) = (c : Int) ∧ c ≤ a ∧ ∀ j, c.testBit j = (a.testBit j && !b.testBit j) := by
  have ha' : a < 2 ^ 63 := ha
  have hb' : b < 2 ^ 63 := hb
  have e1 : (BitVec.ofInt 64 (a : Int)).toNat = a := by rw [BitVec.ofInt_natCast, BitVec.toNat_ofNat]; exact Nat.mod_eq_of_lt (by omega)
  have e2 : (BitVec.ofInt 64 (b : Int)).toNat = b := by rw [BitVec.ofInt_natCast, BitVec.toNat_ofNat]; exact Nat.mod_eq_of_lt (by omega)
  have hj : ∀ j, (BitVec.ofInt 64 (a : Int) &&& ~~~ BitVec.ofInt 64 (b : Int) : BitVec 64).toNat.testBit j = (a.testBit j && !b.testBit j) := by
    intro j
    rw [BitVec.testBit_toNat, BitVec.getLsbD_and, BitVec.getLsbD_not, ← BitVec.testBit_toNat, ← BitVec.testBit_toNat, e1, e2]
    by_cases c : j < 64
    · simp [c]
    · have : a.testBit j = false := Nat.testBit_lt_two_pow (Nat.lt_of_lt_of_le ha' (Nat.pow_le_pow_right (by omega) (by omega)))
      simp [this]
  have hle : (BitVec.ofInt 64 (a : Int) &&& ~~~ BitVec.ofInt 64 (b : Int) : BitVec 64).toNat ≤ a := by
    rw [BitVec.toNat_and, e1]
    exact Nat.and_le_left
  refine ⟨_, ?_, hle, hj⟩
  show IntKind.i64.wrap ((BitVec.ofInt 64 (a : Int) &&& ~~~ BitVec.ofInt 64 (b : Int) : BitVec 64).toNat : Int) = _
  exact i64w (by omega) (by omega)
theorem ext_get {a b : List Int} (h : a.length = b.length) (k : ∀ i, i < a.length → a.getD i 0 = b.getD i 0) : a = b := by
  apply List.ext_getElem h
  intro i h1 h2
  have := k i h1
  rwa [List.getD_eq_getElem?_getD, List.getD_eq_getElem?_getD, List.getElem?_eq_getElem h1, List.getElem?_eq_getElem h2] at this
theorem getI_set (z : List Int) (i k : Nat) (v : Int) : (z.set i v).getD k 0 = if k = i ∧ i < z.length then v else z.getD k 0 := by
  rw [List.getD_eq_getElem?_getD, List.getD_eq_getElem?_getD, List.getElem?_set]
  by_cases h : i = k
  · subst h
    by_cases h2 : i < z.length
    · simp [h2]
    · rw [if_pos rfl, if_neg h2, if_neg (by omega), List.getElem?_eq_none (by omega)]
  · rw [if_neg h, if_neg (by omega)]
/-- A neighbour. -/
def adj (a : List Int) (i j : Nat) : Prop := bt (a.getD i 0) j = 1
theorem NetP.nat {a : List Int} (h : NetP a) {i : Nat} (hi : i < a.length) : ∃ x : Nat, a.getD i 0 = (x : Int) ∧ x < 64 ∧ ∀ j, x.testBit j = true ↔ adj a i j := by
  obtain ⟨h0, h1⟩ := h.rng i hi
  have := pow6 (n := a.length) h.hi
  refine ⟨(a.getD i 0).toNat, by omega, by omega, fun j => ?_⟩
  have e : a.getD i 0 = (((a.getD i 0).toNat : Nat) : Int) := by omega
  unfold adj
  rw [e, bt_nat, Int.toNat_natCast]
  cases ((a.getD i 0).toNat).testBit j <;> simp
theorem adj_lt {a : List Int} (h : NetP a) {i j : Nat} (hi : i < a.length) (hj : adj a i j) : j < a.length := by
  obtain ⟨h0, h1⟩ := h.rng i hi
  unfold adj at hj
  apply Classical.byContradiction
  intro hn
  have hp : (2 : Int) ^ a.length ≤ 2 ^ j := by
    have := Nat.pow_le_pow_right (show 0 < 2 by omega) (show a.length ≤ j by omega)
    exact_mod_cast this
  unfold bt at hj
  rw [Int.ediv_eq_zero_of_lt h0 (by omega)] at hj
  omega
theorem adj_sym {a : List Int} (h : NetP a) {i j : Nat} (hi : i < a.length) (hj : adj a i j) : adj a j i := by
  have := h.sym i hi j (adj_lt h hi hj)
  unfold adj at hj ⊢
  omega
theorem bt_beq {M i : Nat} {α : Type} {x y : α} : cond (bt (M : Int) i == 1) x y = if M.testBit i = true then x else y := by
  rw [bt_nat]
  cases M.testBit i <;> simp
theorem or64 {x y : Nat} (hx : x < 64) (hy : y < 64) : x ||| y < 64 := by
  have : x ||| y < 2 ^ 6 := Nat.or_lt_two_pow (by omega) (by omega)
  omega
section
variable {a : List Int} (h : NetP a)
include h
/-- The program's pass. -/
theorem i_pass {M : Nat} {n : Int} (z : List Int) (hz : z.length = a.length) : ∀ i, i ≤ a.length → ∀ (Nx : Nat) (w : List Int), Nx < 64 → w.length = a.length →
    (∀ j, Nx.testBit j = true ↔ ∃ k, k < i ∧ M.testBit k = true ∧ z.getD k 0 < 0 ∧ adj a k j) → (∀ k, w.getD k 0 = if k < i ∧ M.testBit k = true ∧ z.getD k 0 < 0 then n else z.getD k 0) →
    ∃ (Nx' : Nat) (w' : List Int), Nx' < 64 ∧ w'.length = a.length ∧ (∀ j, Nx'.testBit j = true ↔ ∃ k, k < a.length ∧ M.testBit k = true ∧ z.getD k 0 < 0 ∧ adj a k j) ∧ (∀ k, w'.getD k 0 = if k < a.length ∧ M.testBit k = true ∧ z.getD k 0 < 0 then n else z.getD k 0) ∧
      i_DistancesFrom_l3 a (M : Int) n (Nx : Int) (a.length : Int) (i : Int) w = i_DistancesFrom_l2 a (Nx' : Int) (IntKind.i64.wrap (n + 1)) w' := by
  have hm := h.hi
  refine advN ?_ fun i hi ih => ?_
  · intro Nx w h1 h2 h3 h4
    refine ⟨Nx, w, h1, h2, h3, h4, ?_⟩
    rw [i_DistancesFrom_l3_eq, cnd_f (by omega)]
  · intro Nx w h1 h2 h3 h4
    have hwi : w.getD i 0 = z.getD i 0 := by rw [h4, if_neg (by omega)]
    have skip : ¬ (M.testBit i = true ∧ z.getD i 0 < 0) → (∀ j, Nx.testBit j = true ↔ ∃ k, k < i + 1 ∧ M.testBit k = true ∧ z.getD k 0 < 0 ∧ adj a k j) ∧ (∀ k, w.getD k 0 = if k < i + 1 ∧ M.testBit k = true ∧ z.getD k 0 < 0 then n else z.getD k 0) := by
      intro hn
      refine ⟨fun j => ?_, fun k => ?_⟩
      · rw [h3]
        constructor
        · rintro ⟨k, a1, a2⟩; exact ⟨k, by omega, a2⟩
        · rintro ⟨k, a1, a2, a3, a4⟩
          by_cases e : k = i
          · subst e; exact absurd ⟨a2, a3⟩ hn
          · exact ⟨k, by omega, a2, a3, a4⟩
      · rw [h4]
        by_cases e : k = i
        · subst e; rw [if_neg (by omega), if_neg (fun hh => hn hh.2)]
        · have : k < i ↔ k < i + 1 := by omega
          simp only [this]
    rw [i_DistancesFrom_l3_eq, cnd_t (by omega), if_neg (by omega), bit_and _ (by omega), bt_beq, gN, gN, w1 hi (by omega)]
    by_cases c1 : M.testBit i = true
    · rw [if_pos c1, if_pos (by rw [h2]; exact inN hi), hwi]
      by_cases c2 : z.getD i 0 < 0
      · obtain ⟨x, hx, hx6, hxj⟩ := h.nat hi
        rw [cnd_t c2, if_pos (by rw [h2]; exact inN hi), if_pos (inN hi), hx, (bits_nat (by omega) (by omega)).2.1]
        refine ih (Nx ||| x) (w.set ((i : Int)).toNat n) (or64 h1 hx6) (by simp [h2]) (fun j => ?_) (fun k => ?_)
        · rw [Nat.testBit_or, Bool.or_eq_true, h3, hxj]
          constructor
          · rintro (⟨k, a1, a2⟩ | a1)
            · exact ⟨k, by omega, a2⟩
            · exact ⟨i, by omega, c1, c2, a1⟩
          · rintro ⟨k, a1, a2, a3, a4⟩
            by_cases e : k = i
            · subst e; exact .inr a4
            · exact .inl ⟨k, by omega, a2, a3, a4⟩
        · rw [Int.toNat_natCast, getI_set]
          by_cases e : k = i
          · subst e; rw [if_pos ⟨rfl, by omega⟩, if_pos ⟨by omega, c1, c2⟩]
          · rw [if_neg (by omega), h4]
            have : k < i ↔ k < i + 1 := by omega
            simp only [this]
      · rw [cnd_f c2]
        obtain ⟨s1, s2⟩ := skip (fun hh => c2 hh.2)
        exact ih Nx w h1 h2 s1 s2
    · rw [if_neg c1]
      obtain ⟨s1, s2⟩ := skip (fun hh => c1 hh.1)
      exact ih Nx w h1 h2 s1 s2
/-- The reference's pass. -/
theorem s_pass {W : Nat} {S n : Int} (z : List Int) (hz : z.length = a.length) : ∀ i, i ≤ a.length → ∀ (w : List Int), w.length = a.length → (∀ k, w.getD k 0 = if k < i ∧ W.testBit k = true then n else z.getD k 0) →
    ∃ (w' : List Int), w'.length = a.length ∧ (∀ k, w'.getD k 0 = if k < a.length ∧ W.testBit k = true then n else z.getD k 0) ∧ s_l1Far_l3 a S (W : Int) n (i : Int) w = s_l1Far_j4 a S (W : Int) n w' := by
  have hm := h.hi
  refine advN ?_ fun i hi ih => ?_
  · intro w h2 h4
    refine ⟨w, h2, h4, ?_⟩
    rw [s_l1Far_l3_eq, cnd_f (by omega)]
  · intro w h2 h4
    rw [s_l1Far_l3_eq, cnd_t (by omega), if_neg (by omega), bit_mod (by omega) (by omega), bt_beq, w1 hi (by omega)]
    by_cases c1 : W.testBit i = true
    · rw [if_pos c1, if_pos (by rw [h2]; exact inN hi)]
      refine ih _ (by simp [h2]) fun k => ?_
      rw [Int.toNat_natCast, getI_set]
      by_cases e : k = i
      · subst e; rw [if_pos ⟨rfl, by omega⟩, if_pos ⟨by omega, c1⟩]
      · rw [if_neg (by omega), h4]
        have : k < i ↔ k < i + 1 := by omega
        simp only [this]
    · rw [if_neg c1]
      refine ih _ h2 fun k => ?_
      rw [h4]
      by_cases e : k = i
      · subst e; rw [if_neg (by omega), if_neg (fun hh => c1 hh.2)]
      · have : k < i ↔ k < i + 1 := by omega
        simp only [this]
theorem s_near {W : Nat} : ∀ i, i ≤ a.length → ∀ R : Nat, R < 64 → (∀ j, R.testBit j = true ↔ ∃ k, k < i ∧ W.testBit k = true ∧ adj a k j) → ∃ R' : Nat, R' < 64 ∧ (∀ j, R'.testBit j = true ↔ ∃ k, k < a.length ∧ W.testBit k = true ∧ adj a k j) ∧ s_l1Near_l0 a (W : Int) (R : Int) (i : Int) = some (R' : Int) := by
  have hm := h.hi
  refine advN ?_ fun i hi ih => ?_
  · intro R h1 h2
    exact ⟨R, h1, h2, by rw [s_l1Near_l0_eq, cnd_f (by omega)]⟩
  · intro R h1 h2
    rw [s_l1Near_l0_eq, cnd_t (by omega), if_neg (by omega), bit_mod (by omega) (by omega), bt_beq, w1 hi (by omega), gN]
    by_cases c1 : W.testBit i = true
    · obtain ⟨x, hx, hx6, hxj⟩ := h.nat hi
      rw [if_pos c1, if_pos (inN hi), hx, (bits_nat (by omega) (by omega)).2.1]
      refine ih _ (or64 h1 hx6) fun j => ?_
      rw [Nat.testBit_or, Bool.or_eq_true, h2, hxj]
      constructor
      · rintro (⟨k, a1, a2⟩ | a1)
        · exact ⟨k, by omega, a2⟩
        · exact ⟨i, by omega, c1, a1⟩
      · rintro ⟨k, a1, a2, a3⟩
        by_cases e : k = i
        · subst e; exact .inr a3
        · exact .inl ⟨k, by omega, a2, a3⟩
    · rw [if_neg c1]
      refine ih _ h1 fun j => ?_
      rw [h2]
      constructor
      · rintro ⟨k, a1, a2⟩; exact ⟨k, by omega, a2⟩
      · rintro ⟨k, a1, a2, a3⟩
        by_cases e : k = i
        · subst e; exact absurd a2 c1
        · exact ⟨k, by omega, a2, a3⟩
theorem far_same : ∀ (d S : Nat), 63 - S ≤ d → S < 64 → ∀ (M W n : Nat) (z : List Int), M < 64 → W < 64 → n ≤ S → z.length = a.length → (∀ k, k < a.length → (S.testBit k = true ↔ 0 ≤ z.getD k 0)) → (∀ k, S.testBit k = true → k < a.length) →
    (∀ k, W.testBit k = true ↔ k < a.length ∧ M.testBit k = true ∧ z.getD k 0 < 0) → (∀ k, k < a.length → -1 ≤ z.getD k 0 ∧ z.getD k 0 ≤ 63) →
    ∃ r, i_DistancesFrom_l2 a (M : Int) (n : Int) z = some r ∧ s_l1Far_l2 a (S : Int) (W : Int) (n : Int) z = some r ∧ r.length = a.length ∧ (∀ k, k < a.length → -1 ≤ r.getD k 0 ∧ r.getD k 0 ≤ 63) ∧ (∀ k, k < a.length → (0 ≤ z.getD k 0 ∨ M.testBit k = true) → 0 ≤ r.getD k 0) := by
  have hm := h.hi
  intro d
  have step : ∀ (S M W n : Nat) (z : List Int), (S < 64) → M < 64 → W < 64 → n ≤ S → z.length = a.length → (∀ k, k < a.length → (S.testBit k = true ↔ 0 ≤ z.getD k 0)) → (∀ k, S.testBit k = true → k < a.length) →
      (∀ k, W.testBit k = true ↔ k < a.length ∧ M.testBit k = true ∧ z.getD k 0 < 0) → (∀ k, k < a.length → -1 ≤ z.getD k 0 ∧ z.getD k 0 ≤ 63) →
      (∃ r, i_DistancesFrom_l2 a (M : Int) (n : Int) z = some r ∧ s_l1Far_l2 a (S : Int) (W : Int) (n : Int) z = some r ∧ r.length = a.length ∧ (∀ k, k < a.length → -1 ≤ r.getD k 0 ∧ r.getD k 0 ≤ 63) ∧ (∀ k, k < a.length → (0 ≤ z.getD k 0 ∨ M.testBit k = true) → 0 ≤ r.getD k 0)) ∨
      ∃ (S' M' W' : Nat) (w : List Int), S < S' ∧ S' < 64 ∧ M' < 64 ∧ W' < 64 ∧ w.length = a.length ∧ (∀ k, k < a.length → (S'.testBit k = true ↔ 0 ≤ w.getD k 0)) ∧ (∀ k, S'.testBit k = true → k < a.length) ∧
        (∀ k, W'.testBit k = true ↔ k < a.length ∧ M'.testBit k = true ∧ w.getD k 0 < 0) ∧ (∀ k, k < a.length → -1 ≤ w.getD k 0 ∧ w.getD k 0 ≤ 63) ∧ (∀ k, k < a.length → (0 ≤ z.getD k 0 ∨ M.testBit k = true) → 0 ≤ w.getD k 0) ∧
        i_DistancesFrom_l2 a (M : Int) (n : Int) z = i_DistancesFrom_l2 a (M' : Int) ((n + 1 : Nat) : Int) w ∧ s_l1Far_l2 a (S : Int) (W : Int) (n : Int) z = s_l1Far_l2 a (S' : Int) (W' : Int) ((n + 1 : Nat) : Int) w := by
    intro S M W n z hS hM hW hn hz hs hs' hw hr
    obtain ⟨Nx, w, p1, p2, p3, p4, p5⟩ := i_pass h (M := M) (n := (n : Int)) z hz 0 (by omega) 0 z (by omega) hz (fun j => by simp) (fun k => by simp)
    have hpass : M ≠ 0 → i_DistancesFrom_l2 a (M : Int) (n : Int) z = i_DistancesFrom_l2 a (Nx : Int) ((n + 1 : Nat) : Int) w := by
      intro h0
      rw [i_DistancesFrom_l2_eq, bne_t (by omega), hz]
      refine p5.trans ?_
      rw [i64w (by omega) (by omega)]
      rfl
    by_cases hW0 : W = 0
    · left
      subst hW0
      have hno : ∀ k, ¬ (k < a.length ∧ M.testBit k = true ∧ z.getD k 0 < 0) := fun k hk => by
        have := (hw k).2 hk
        simp at this
      refine ⟨z, ?_, ?_, hz, hr, fun k hk hc => ?_⟩
      · by_cases h0 : M = 0
        · subst h0
          rw [i_DistancesFrom_l2_eq, bne_f (by rfl)]
        · have e1 : w = z := ext_get (p2.trans hz.symm) fun k hk => by rw [p4, if_neg (hno k)]
          have e2 : Nx = 0 := by
            apply Nat.eq_of_testBit_eq
            intro j
            rw [Nat.zero_testBit]
            cases hj : Nx.testBit j with
            | false => rfl
            | true =>
              obtain ⟨k, q1, q2, q3, _⟩ := (p3 j).1 hj
              exact absurd ⟨q1, q2, q3⟩ (hno k)
          rw [hpass h0, e1, e2, i_DistancesFrom_l2_eq, bne_f (by rfl)]
      · rw [s_l1Far_l2_eq, bne_f (by rfl)]
      · rcases hc with hc | hc
        · exact hc
        · have := hno k
          have := (hr k hk).1
          apply Classical.byContradiction
          intro hneg
          exact hno k ⟨hk, hc, by omega⟩
    · right
      obtain ⟨b, hb⟩ : ∃ b, W.testBit b = true := Nat.exists_testBit_of_ne_zero hW0
      obtain ⟨hb1, hb2, hb3⟩ := (hw b).1 hb
      have hM0 : M ≠ 0 := fun e => by rw [e] at hb2; simp at hb2
      obtain ⟨w', q2, q4, q5⟩ := s_pass h (W := W) (S := (S : Int)) (n := (n : Int)) z hz 0 (by omega) z hz (fun k => by simp)
      have eww : w' = w := ext_get (q2.trans p2.symm) fun k hk => by
        rw [q4, p4]
        by_cases c : k < a.length ∧ W.testBit k = true
        · rw [if_pos c, if_pos ((hw k).1 c.2)]
        · rw [if_neg c, if_neg fun hh => c ⟨hh.1, (hw k).2 hh⟩]
      subst eww
      obtain ⟨R, r1, r2, r3⟩ := s_near h (W := W) 0 (by omega) 0 (by omega) (fun j => by simp)
      have hS' : S ||| W < 64 := or64 hS hW
      obtain ⟨C, c1, c2, c3⟩ := bits_andNot (a := R) (b := S ||| W) (by omega) (by omega)
      have hsb : S.testBit b = false := by
        cases hq : S.testBit b with
        | false => rfl
        | true => have := (hs b hb1).1 hq; omega
      have hlt : S < S ||| W := by
        have h1 : S ≤ S ||| W := Nat.left_le_or
        have h2 : S ≠ S ||| W := fun e => by
          have := congrArg (Nat.testBit · b) e
          simp [Nat.testBit_or, hsb, hb] at this
        omega
      have hneg : ∀ k, k < a.length → ((S ||| W).testBit k = true ↔ 0 ≤ w'.getD k 0) := fun k hk => by
        rw [Nat.testBit_or, Bool.or_eq_true, hs k hk, hw, q4]
        by_cases c : k < a.length ∧ W.testBit k = true
        · rw [if_pos c]
          have := (hw k).1 c.2
          constructor
          · intro _; omega
          · intro _; exact .inr this
        · rw [if_neg c]
          constructor
          · rintro (hh | hh)
            · exact hh
            · exact absurd ⟨hk, (hw k).2 hh⟩ c
          · exact fun hh => .inl hh
      refine ⟨S ||| W, Nx, C, w', hlt, hS', p1, by omega, p2, hneg, fun k hk => ?_, fun k => ?_, fun k hk => ?_, fun k hk hc => ?_, hpass hM0, ?_⟩
      · rw [Nat.testBit_or, Bool.or_eq_true] at hk
        rcases hk with hk | hk
        · exact hs' k hk
        · exact ((hw k).1 hk).1
      · rw [c3, Bool.and_eq_true, r2]
        constructor
        · rintro ⟨⟨i, i1, i2, i3⟩, hk⟩
          have hi := (hw i).1 i2
          have hkl := adj_lt h i1 i3
          refine ⟨hkl, (p3 k).2 ⟨i, i1, hi.2.1, hi.2.2, i3⟩, ?_⟩
          have : ¬ 0 ≤ w'.getD k 0 := fun h0 => by
            rw [(hneg k hkl).2 h0] at hk
            cases hk
          omega
        · rintro ⟨hkl, hk, hk0⟩
          obtain ⟨i, i1, i2, i3, i4⟩ := (p3 k).1 hk
          refine ⟨⟨i, i1, (hw i).2 ⟨i1, i2, i3⟩, i4⟩, ?_⟩
          cases hq : (S ||| W).testBit k with
          | false => rfl
          | true => have := (hneg k hkl).1 hq; omega
      · have := hr k hk
        rw [q4]
        split <;> omega
      · have := hr k hk
        rw [p4]
        by_cases c : k < a.length ∧ M.testBit k = true ∧ z.getD k 0 < 0
        · rw [if_pos c]; omega
        · rw [if_neg c]
          rcases hc with hc | hc
          · exact hc
          · apply Classical.byContradiction
            intro hh
            exact c ⟨hk, hc, by omega⟩
      · rw [s_l1Far_l2_eq, bne_t (by omega)]
        refine q5.trans ?_
        rw [s_l1Far_j4_eq, s_l1Near_f_eq, show s_l1Near_l0 a (W : Int) 0 0 = some (R : Int) from r3, Option.bind_some, (bits_nat (a := S) (b := W) (by omega) (by omega)).2.1, c1, i64w (by omega) (by omega)]
        rfl
  induction d with
  | zero =>
    intro S hd hS M W n z hM hW hn hz hs hs' hw hr
    rcases step S M W n z hS hM hW hn hz hs hs' hw hr with hh | ⟨S', M', W', w, h1, h2, _⟩
    · exact hh
    · omega
  | succ d ih =>
    intro S hd hS M W n z hM hW hn hz hs hs' hw hr
    rcases step S M W n z hS hM hW hn hz hs hs' hw hr with hh | ⟨S', M', W', w, h1, h2, h3, h4, h5, h6, h7, h8, h9, h10, h11, h12⟩
    · exact hh
    · obtain ⟨r, e1, e2, e3, e4, e5⟩ := ih S' (by omega) h2 M' W' (n + 1) w h3 h4 (by omega) h5 h6 h7 h8 h9
      exact ⟨r, h11.trans e1, h12.trans e2, e3, e4, fun k hk hc => e5 k hk (.inl (h10 k hk hc))⟩
omit h in
theorem getD_rep (n k : Nat) (v : Int) : (List.replicate n v).getD k 0 = if k < n then v else 0 := by
  rw [List.getD_eq_getElem?_getD, List.getElem?_replicate]
  split <;> rfl
omit h in
theorem neg_fill : ∀ (n : Nat) (w : List Int), w.length = n → n ≤ 1000 → ∀ (M : Int) (i : Nat), i ≤ n → (∀ k, k < i → w.getD k 0 = -1) → i_DistancesFrom_l0 a M (n : Int) (i : Int) w = i_DistancesFrom_l2 a M 0 (List.replicate n (-1)) := by
  intro n w hw hn M i hi
  obtain ⟨d, hd⟩ : ∃ d, n = i + d := ⟨n - i, by omega⟩
  induction d generalizing i w with
  | zero =>
    intro hk
    have : w = List.replicate n (-1) := ext_get (by simp [hw]) fun k hk' => by rw [hk k (by omega), getD_rep, if_pos (by omega)]
    rw [i_DistancesFrom_l0_eq, cnd_f (by omega), i_DistancesFrom_j1_eq, this]
  | succ d ih =>
    intro hk
    rw [i_DistancesFrom_l0_eq, cnd_t (by omega), if_pos (by omega), w1 (n := n) (by omega) (by omega)]
    refine ih (w := w.set ((i : Int)).toNat (-1)) (by simp [hw]) (i + 1) (by omega) (by omega) fun k hk' => ?_
    rw [Int.toNat_natCast, getI_set]
    by_cases e : k = i
    · subst e; rw [if_pos ⟨rfl, by omega⟩]
    · rw [if_neg (by omega)]; exact hk k (by omega)
omit h in
theorem neg_fill_s (M : Int) (hn : a.length ≤ 1000) : ∀ i, i ≤ a.length → s_l1Far_l0 a M (i : Int) (List.replicate i (-1)) = s_l1Far_l2 a 0 M 0 (List.replicate a.length (-1)) := by
  refine advN ?_ fun i hi ih => ?_
  · rw [s_l1Far_l0_eq, cnd_f (by omega), s_l1Far_j1_eq]
  · rw [s_l1Far_l0_eq, cnd_t (by omega), if_pos (by simp; omega), w1 hi (by omega)]
    rw [List.replicate_succ'] at ih
    exact ih
/-- All at once. -/
theorem far_val {M : Nat} (hM : M < 2 ^ a.length) : ∃ r, i_DistancesFrom_f (a, (M : Int)) = some r ∧ s_l1Far_f (a, (M : Int)) = some r ∧ s_DistancesFrom_f (a, (M : Int)) = some r ∧ r.length = a.length ∧ (∀ k, k < a.length → -1 ≤ r.getD k 0 ∧ r.getD k 0 ≤ 63) ∧ (∀ k, k < a.length → M.testBit k = true → 0 ≤ r.getD k 0) := by
  have hm := h.hi
  have hp := pow6 hm
  have h64 : (2 : Nat) ^ a.length ≤ 2 ^ 6 := Nat.pow_le_pow_right (by omega) hm
  have h64' : (2 : Nat) ^ 6 = 64 := rfl
  have hcast : ((2 ^ a.length : Nat) : Int) = (2 : Int) ^ a.length := by push_cast; rfl
  have hbit : ∀ k, M.testBit k = true → k < a.length := fun k hk => by
    apply Classical.byContradiction
    intro hn
    have : 2 ^ a.length ≤ 2 ^ k := Nat.pow_le_pow_right (by omega) (by omega)
    rw [Nat.testBit_lt_two_pow (by omega)] at hk
    cases hk
  obtain ⟨r, e1, e2, e3, e4, e5⟩ := far_same h 63 0 (by omega) (by omega) M M 0 (List.replicate a.length (-1)) (by omega) (by omega) (by omega) (by simp) (fun k hk => by
      rw [getD_rep, if_pos hk, Nat.zero_testBit]; simp) (fun k hk => by rw [Nat.zero_testBit] at hk; cases hk) (fun k => by
      constructor
      · intro hk; exact ⟨hbit k hk, hk, by rw [getD_rep, if_pos (hbit k hk)]; omega⟩
      · exact fun hk => hk.2.1) (fun k hk => by rw [getD_rep, if_pos hk]; omega)
  have hset : i_setOk_f (a, (M : Int)) = some true := by
    rw [i_setOk_f_eq, inet, decide_eq_true h, Option.bind_some, cond_true, cnd_t (by omega), if_neg (by omega), sh1 (by omega), decide_eq_true (by omega)]
  have hf : s_l1Far_f (a, (M : Int)) = some r := by
    rw [s_l1Far_f_eq]
    exact (neg_fill_s (a := a) (M : Int) (by omega) 0 (by omega)).trans e2
  refine ⟨r, ?_, hf, ?_, e3, e4, fun k hk hb => e5 k hk (.inr hb)⟩
  · rw [i_DistancesFrom_f_eq, hset, Option.bind_some, Bool.not_true, cond_false, if_pos ⟨by omega, by omega, by omega⟩, Int.toNat_natCast, List.length_replicate]
    exact (neg_fill (a := a) a.length _ (by simp) (by omega) (M : Int) 0 (by omega) (fun k hk => by omega)).trans e1
  · rw [s_DistancesFrom_f_eq, snet, decide_eq_true h, Option.bind_some, Bool.not_true, cond_false, if_neg (by omega), sh1 (by omega), wsub (by omega) (by omega), l1In_val, Option.bind_some, decide_eq_true (show 0 ≤ (M : Int) ∧ (M : Int) ≤ 2 ^ a.length - 1 by omega), Bool.not_true, cond_false, hf]
    rfl
/-- The first that is come to. -/
theorem i_first {r : List Int} (hr : r.length = a.length) {i m : Nat} (hm : m < a.length) (hk : 0 ≤ r.getD m 0) (hb : ∀ k, k < m → r.getD k 0 < 0) (y : List Int) (hy : y.length ≤ 1000) : ∀ k, k ≤ m → i_PartsOf_l1 a (a.length : Int) (i : Int) r (a.length : Int) (k : Int) y = i_PartsOf_l0 a (a.length : Int) (IntKind.i64.wrap ((i : Int) + 1)) (y ++ [(m : Int)]) := by
  have hm6 := h.hi
  refine advN ?_ fun k hk' ih => ?_
  · rw [i_PartsOf_l1_eq, cnd_t (by omega), if_pos (by omega), gN, cnd_t hk, if_pos (by simp; omega)]
  · rw [i_PartsOf_l1_eq, cnd_t (by omega), if_pos (by omega), gN, cnd_f (by have := hb k hk'; omega), w1 (n := m) hk' (by omega)]
    exact ih
theorem s_first {r : List Int} (hr : r.length = a.length) {i m : Nat} (hi : i < a.length) (hmi : m ≤ i) (hk : 0 ≤ r.getD m 0) (hb : ∀ k, k < m → r.getD k 0 < 0) (y : List Int) (hy : y.length ≤ 1000) : ∀ j : Nat, j ≤ i + 1 → ∀ l : Nat, (j ≤ m → l = m) → l ≤ i → s_PartsOf_l1 a (i : Int) r (l : Int) ((j : Int) - 1) y = s_PartsOf_l0 a (IntKind.i64.wrap ((i : Int) + 1)) (y ++ [(m : Int)])
  | 0, _, l, hl, hli => by
    rw [s_PartsOf_l1_eq, cnd_f (by omega), if_pos (by simp; omega), hl (by omega)]
  | j + 1, hj, l, hl, hli => by
    have hm6 := h.hi
    have e1 : (((j + 1 : Nat) : Int) - 1) = (j : Int) := by omega
    rw [s_PartsOf_l1_eq, e1, cnd_t (by omega), if_pos (by omega), gN, wsub (by omega) (by omega)]
    by_cases c : 0 ≤ r.getD j 0
    · rw [cnd_t c]
      refine s_first hr hi hmi hk hb y hy j (by omega) j (fun hjm => ?_) (by omega)
      by_cases e : j = m
      · exact e
      · have := hb j (by omega); omega
    · rw [cnd_f c]
      refine s_first hr hi hmi hk hb y hy j (by omega) l (fun hjm => hl ?_) hli
      by_cases e : j = m
      · subst e; exact absurd hk c
      · omega
omit h in
theorem least_get {r : List Int} {i : Nat} (hi : 0 ≤ r.getD i 0) : ∃ m, m ≤ i ∧ 0 ≤ r.getD m 0 ∧ ∀ k, k < m → r.getD k 0 < 0 := by
  induction i using Nat.strongRecOn with
  | _ i ih =>
    by_cases c : ∃ k, k < i ∧ 0 ≤ r.getD k 0
    · obtain ⟨k, h1, h2⟩ := c
      obtain ⟨m, m1, m2, m3⟩ := ih k h1 h2
      exact ⟨m, by omega, m2, m3⟩
    · refine ⟨i, Nat.le_refl _, hi, fun k hk => ?_⟩
      apply Classical.byContradiction
      intro hh
      exact c ⟨k, hk, by omega⟩
theorem parts_loop : ∀ i, i ≤ a.length → ∀ y : List Int, y.length = i → (∀ v ∈ y, 0 ≤ v ∧ v ≤ 5) → ∃ r, i_PartsOf_l0 a (a.length : Int) (i : Int) y = some r ∧ s_PartsOf_l0 a (i : Int) y = some r ∧ r.length = a.length ∧ ∀ v ∈ r, 0 ≤ v ∧ v ≤ 5 := by
  have hm := h.hi
  refine advN ?_ fun i hi ih => ?_
  · intro y hy hv
    exact ⟨y, by rw [i_PartsOf_l0_eq, cnd_f (by omega)], by rw [s_PartsOf_l0_eq, cnd_f (by omega)], hy, hv⟩
  · intro y hy hv
    have hlt : 2 ^ i < 2 ^ a.length := Nat.pow_lt_pow_right (by omega) hi
    obtain ⟨r, e1, e2, _, e3, e4, e5⟩ := far_val h (M := 2 ^ i) hlt
    have hb := e5 i hi (by simp [Nat.testBit_two_pow])
    obtain ⟨m, m1, m2, m3⟩ := least_get hb
    have hc : ((2 ^ i : Nat) : Int) = (2 : Int) ^ i := by push_cast; rfl
    rw [hc] at e1 e2
    have hw : IntKind.i64.wrap ((i : Int) + 1) = ((i + 1 : Nat) : Int) := w1 hi (by omega)
    obtain ⟨q, q1, q2, q3, q4⟩ := ih (y ++ [(m : Int)]) (by simp [hy]) (fun v hvm => by
      rcases List.mem_append.1 hvm with hh | hh
      · exact hv v hh
      · rw [List.mem_singleton] at hh; omega)
    refine ⟨q, ?_, ?_, q3, q4⟩
    · rw [i_PartsOf_l0_eq, cnd_t (by omega), if_neg (by omega), sh1 (by omega), e1, Option.bind_some, e3]
      refine (i_first h e3 (by omega) m2 m3 y (by omega) 0 (by omega)).trans ?_
      rw [hw]; exact q1
    · rw [s_PartsOf_l0_eq, cnd_t (by omega), snet, decide_eq_true h, Option.bind_some, cond_true, if_neg (by omega), sh1 (by omega), e2, Option.bind_some]
      have := s_first h e3 hi m1 m2 m3 y (by omega) (i + 1) (Nat.le_refl _) i (fun hh => by omega) (Nat.le_refl _)
      rw [show (((i + 1 : Nat) : Int) - 1) = (i : Int) by omega] at this
      refine this.trans ?_
      rw [hw]; exact q2
theorem parts_val : ∃ r : List Int, i_PartsOf_f a = some r ∧ s_PartsOf_f a = some r ∧ r.length = a.length ∧ ∀ v ∈ r, 0 ≤ v ∧ v ≤ 5 := by
  obtain ⟨r, e1, e2, e3, e4⟩ := parts_loop h 0 (by omega) [] rfl (fun v hv => by cases hv)
  refine ⟨r, ?_, ?_, e3, e4⟩
  · rw [i_PartsOf_f_eq, inet, decide_eq_true h, Option.bind_some, Bool.not_true, cond_false]; exact e1
  · rw [s_PartsOf_f_eq]; exact e2
end
end FN

