/- All at rest is a place: laws.FnPlaceOk answers true at every code: the place drawn is judged alike by the program and by the reference, and so are the place with all nodes at rest and the one with one kind more. Conditions: none. -/
import Derived.Test.YteibjlghlbkcoaaPFnPlaceOkx7
namespace Go.Proofs.Yteibjlghlbkcoaa.Pure
open Go.RowKit Go.Proofs.Yteibjlghlbkcoaa.PFnPlaceOk Go.Proofs.YteibjlghlbkcoaaW.PrintWords Go.Proofs.YteibjlghlbkcoaaW.PrintLast Go.Proofs.YteibjlghlbkcoaaW.PrintMore

theorem wr {n : Int} (h0 : -9223372036854775808 ≤ n) (h1 : n ≤ 9223372036854775807) : wrap64 n = n := by unfold wrap64; omega
/-- Downward. -/
theorem adv {P : Int → Prop} {a n : Int} (hle : a ≤ n) (hn : P n) (h : ∀ i, a ≤ i → i < n → P (i + 1) → P i) : P a := by
  obtain ⟨d, hd⟩ : ∃ d : Nat, n - a = d := ⟨(n - a).toNat, by omega⟩
  induction d generalizing a with
  | zero => have : a = n := by omega
            rw [this]; exact hn
  | succ d ih => exact h a (by omega) (by omega) (ih (by omega) (fun i h1 h2 => h i (by omega) h2) (by omega))
/-- It comes to a truth, that of Q. -/
def Tells (g : Nat → Option Bool) (Q : Prop) : Prop := ∃ r, Ev g r ∧ (r = true ↔ Q)
theorem Tells.step {g f : Nat → Option Bool} {Q : Prop} (h : ∀ k, g (k + 1) = f k) (k : Tells f Q) : Tells g Q := by
  obtain ⟨r, h1, h2⟩ := k
  exact ⟨r, Ev.step h h1, h2⟩
theorem Tells.iff {g : Nat → Option Bool} {Q Q' : Prop} (k : Tells g Q) (h : Q ↔ Q') : Tells g Q' := by
  obtain ⟨r, h1, h2⟩ := k
  exact ⟨r, h1, h2.trans h⟩
theorem Tells.no {Q : Prop} (h : ¬ Q) : Tells (fun _ => some false) Q := ⟨false, Ev.now _, by simp [h]⟩
theorem Tells.yes {Q : Prop} (h : Q) : Tells (fun _ => some true) Q := ⟨true, Ev.now _, by simp [h]⟩
theorem Tells.now {b : Bool} : Tells (fun _ => some b) (b = true) := ⟨b, Ev.now _, Iff.rfl⟩
theorem Tells.val {g : Nat → Option Bool} {Q : Prop} [Decidable Q] (k : Tells g Q) : Ev g (decide Q) := by
  obtain ⟨r, h1, h2⟩ := k
  have : r = decide Q := by rw [Bool.eq_iff_iff]; simpa using h2
  exact this ▸ h1

def bitI (x i : Int) : Int := Go.bits .and .i64 (shr .i64 x i) 1
structure NetP (l : List Int) : Prop where
  lo : 1 ≤ l.length
  hi : l.length ≤ 6
  rng : ∀ i : Int, 0 ≤ i → i < l.length → 0 ≤ rd l i ∧ rd l i < 2 ^ l.length
  sym : ∀ i k : Int, 0 ≤ i → i < l.length → 0 ≤ k → k < l.length → bitI (rd l i) k = bitI (rd l k) i
  self : ∀ i : Int, 0 ≤ i → i < l.length → bitI (rd l i) i ≠ 1

theorem shl_one (n : Nat) (h : n ≤ 6) : shl .i64 1 (n : Int) = 2 ^ n := by
  obtain rfl | rfl | rfl | rfl | rfl | rfl | rfl : n = 0 ∨ n = 1 ∨ n = 2 ∨ n = 3 ∨ n = 4 ∨ n = 5 ∨ n = 6 := by omega
  all_goals decide

theorem impl_inner (l : List Int) (hn : l.length ≤ 6) (x3 : Int) (h3 : 0 ≤ x3) (x4 x16 : Int) (Q : Prop) (h16 : 0 ≤ x16) (h16' : x16 < l.length)
    (hnext : Tells (fun k => impl_NetOk.l0 k l l (l.length : Int) (x16 + 1)) Q) (j : Int) (hj : 0 ≤ j) (hj' : j ≤ l.length) :
    Tells (fun k => impl_NetOk.l1 k l x3 x4 l (l.length : Int) x16 (l.length : Int) j) ((∀ i, j ≤ i → i < l.length → bitI x4 i = bitI (rd l i) x3) ∧ Q) := by
  refine adv (P := fun j => Tells (fun k => impl_NetOk.l1 k l x3 x4 l (l.length : Int) x16 (l.length : Int) j) ((∀ i, j ≤ i → i < l.length → bitI x4 i = bitI (rd l i) x3) ∧ Q)) hj' ?_ ?_
  · refine (Tells.step (fun k => ?_) hnext).iff ⟨fun h => ⟨fun i h1 h2 => by omega, h⟩, fun h => h.2⟩
    simp only [impl_NetOk.l1]
    rw [if_neg (by omega), wr (by omega) (by omega)]
  · intro i h1 h2 ih
    by_cases c : bitI x4 i = bitI (rd l i) x3
    · refine (Tells.step (fun k => ?_) ih).iff ⟨fun h => ⟨fun m h4 h5 => ?_, h.2⟩, fun h => ⟨fun m h4 h5 => h.1 m (by omega) h5, h.2⟩⟩
      · simp only [impl_NetOk.l1]
        rw [if_pos h2, if_pos (by omega), if_pos h2, if_pos h3, wr (by omega) (by omega)]
        exact if_pos c
      · by_cases e : m = i
        · rw [e]; exact c
        · exact h.1 m (by omega) h5
    · refine Tells.step (fun k => ?_) (Tells.no (fun h => c (h.1 i (by omega) h2)))
      simp only [impl_NetOk.l1]
      rw [if_pos h2, if_pos (by omega), if_pos h2, if_pos h3]
      exact if_neg c

theorem impl_outer (l : List Int) (h1 : 1 ≤ l.length) (hn : l.length ≤ 6) (j : Int) (hj : 0 ≤ j) (hj' : j ≤ l.length) :
    Tells (fun k => impl_NetOk.l0 k l l (l.length : Int) j) (∀ i, j ≤ i → i < l.length → (0 ≤ rd l i ∧ rd l i < 2 ^ l.length ∧ bitI (rd l i) i ≠ 1) ∧ ∀ m : Int, 0 ≤ m → m < l.length → bitI (rd l i) m = bitI (rd l m) i) := by
  refine adv (P := fun j => Tells (fun k => impl_NetOk.l0 k l l (l.length : Int) j) (∀ i, j ≤ i → i < l.length → (0 ≤ rd l i ∧ rd l i < 2 ^ l.length ∧ bitI (rd l i) i ≠ 1) ∧ ∀ m : Int, 0 ≤ m → m < l.length → bitI (rd l i) m = bitI (rd l m) i)) hj' ?_ ?_
  · refine Tells.step (fun k => ?_) (Tells.yes (fun i h1 h2 => by omega))
    simp only [impl_NetOk.l0]
    rw [if_neg (by omega)]
  · intro i g1 g2 ih
    have hs : shl .i64 1 (l.length : Int) = 2 ^ l.length := shl_one _ hn
    have key : ∀ b, Tells (fun k => impl_NetOk.j2 k l i (rd l i) l (l.length : Int) i b) (b = false ∧ (∀ m : Int, 0 ≤ m → m < l.length → bitI (rd l i) m = bitI (rd l m) i) ∧ (∀ i', i + 1 ≤ i' → i' < l.length → (0 ≤ rd l i' ∧ rd l i' < 2 ^ l.length ∧ bitI (rd l i') i' ≠ 1) ∧ ∀ m : Int, 0 ≤ m → m < l.length → bitI (rd l i') m = bitI (rd l m) i')) := by
      intro b
      cases b with
      | true => exact Tells.step (fun k => by simp only [impl_NetOk.j2]; rfl) (Tells.no (by simp))
      | false =>
        refine (Tells.step (fun k => ?_) (impl_inner l hn i (by omega) (rd l i) i _ (by omega) g2 ih 0 (by omega) (by omega))).iff (by simp)
        simp only [impl_NetOk.j2]; rfl
    by_cases a1 : rd l i < 0
    · refine (Tells.step (fun k => ?_) (key true)).iff ⟨fun h => by simp at h, fun h => by have := h i (Int.le_refl i) g2; omega⟩
      simp only [impl_NetOk.l0]
      rw [if_pos g2, if_pos (by omega), if_pos g2, if_pos a1]
    · by_cases a2 : rd l i ≥ 2 ^ l.length
      · refine (Tells.step (fun k => ?_) (key true)).iff ⟨fun h => by simp at h, fun h => by have := h i (Int.le_refl i) g2; omega⟩
        simp only [impl_NetOk.l0]
        rw [if_pos g2, if_pos (by omega), if_pos g2, if_neg a1, hs, if_pos a2]
      · refine (Tells.step (fun k => ?_) (key (bitI (rd l i) i == 1))).iff ⟨fun h => ?_, fun h => ?_⟩
        · simp only [impl_NetOk.l0]
          rw [if_pos g2, if_pos (by omega), if_pos g2, if_neg a1, hs, if_neg a2]
          rfl
        · obtain ⟨e1, e2, e3⟩ := h
          intro m h4 h5
          by_cases e : m = i
          · subst e
            exact ⟨⟨by omega, by omega, by simpa using e1⟩, e2⟩
          · exact e3 m (by omega) h5
        · have := h i (Int.le_refl i) g2
          exact ⟨by simpa using this.1.2.2, this.2, fun m h4 h5 => h m (by omega) h5⟩

theorem impl_net (l : List Int) : Tells (fun k => impl_NetOk.f k l) (NetP l) := by
  by_cases h1 : (l.length : Int) < 1
  · obtain ⟨r, hr, hq⟩ : Tells (fun k => impl_NetOk.j0 k l true) (NetP l) := Tells.step (fun k => by simp only [impl_NetOk.j0]; rfl) (Tells.no (fun h => by have := h.lo; omega))
    exact ⟨r, Ev.congr (fun k => by unfold impl_NetOk.f; rw [if_pos h1]) hr, hq⟩
  · by_cases h2 : (l.length : Int) > 6
    · obtain ⟨r, hr, hq⟩ : Tells (fun k => impl_NetOk.j0 k l true) (NetP l) := Tells.step (fun k => by simp only [impl_NetOk.j0]; rfl) (Tells.no (fun h => by have := h.hi; omega))
      exact ⟨r, Ev.congr (fun k => by unfold impl_NetOk.f; rw [if_neg h1, decide_eq_true h2]) hr, hq⟩
    · obtain ⟨r, hr, hq⟩ : Tells (fun k => impl_NetOk.j0 k l false) (NetP l) := by
        refine (Tells.step (fun k => by simp only [impl_NetOk.j0]; rfl) (impl_outer l (by omega) (by omega) 0 (by omega) (by omega))).iff ⟨fun h => ?_, fun h => ?_⟩
        · exact ⟨by omega, by omega, fun i a b => ⟨(h i a b).1.1, (h i a b).1.2.1⟩, fun i k a b c d => (h i a b).2 k c d, fun i a b => (h i a b).1.2.2⟩
        · exact fun i a b => ⟨⟨(h.rng i a b).1, (h.rng i a b).2, h.self i a b⟩, fun m c d => h.sym i m a b c d⟩
      exact ⟨r, Ev.congr (fun k => by unfold impl_NetOk.f; rw [if_neg h1, decide_eq_false h2]) hr, hq⟩
/-- The truth decides a test. -/
theorem Tells.test {g : Nat → Option Bool} {Q Q' : Prop} {f : Nat → Bool → Option Bool} (h : Tells g Q) (hy : Q → Tells (fun k => f k true) Q') (hn : ¬ Q → Tells (fun k => f k false) Q') : Tells (fun k => (g k).bind (f k)) Q' := by
  obtain ⟨r, h1, h2⟩ := h
  cases r with
  | true =>
    obtain ⟨s, h3, h4⟩ := hy (h2.1 rfl)
    exact ⟨s, Ev.bind h1 h3, h4⟩
  | false =>
    obtain ⟨s, h3, h4⟩ := hn (fun q => by simpa using h2.2 q)
    exact ⟨s, Ev.bind h1 h3, h4⟩
theorem Tells.congr {g f : Nat → Option Bool} {Q : Prop} (h : ∀ k, g k = f k) (k : Tells f Q) : Tells g Q := by
  obtain ⟨r, h1, h2⟩ := k
  exact ⟨r, Ev.congr h h1, h2⟩
theorem in_val (n a b : Int) : spec_l1In.f n a b = some (decide (a ≤ n ∧ n ≤ b)) := by
  unfold spec_l1In.f
  by_cases h : n ≥ a
  · rw [if_pos h]; congr 1; rw [decide_eq_decide]; constructor <;> intro h' <;> omega
  · rw [if_neg h]; congr 1; symm; exact decide_eq_false (by omega)
theorem in_tells (n a b : Int) : Tells (fun _ => spec_l1In.f n a b) (a ≤ n ∧ n ≤ b) :=
  (Tells.congr (fun _ => in_val n a b) Tells.now).iff (by simp)

theorem tmod_bit (x : Nat) (hx : x < 64) (i : Nat) (hi : i < 6) : Int.tmod (shr .i64 (x : Int) (i : Int)) 2 = bitI (x : Int) (i : Int) := by
  have h : ∀ x : Nat, x < 64 → ∀ i : Nat, i < 6 → Int.tmod (shr .i64 (x : Int) (i : Int)) 2 = bitI (x : Int) (i : Int) := by decide +kernel
  exact h x hx i hi
theorem pow_le (n : Nat) (h : n ≤ 6) : (2 : Int) ^ n ≤ 64 ∧ 1 ≤ (2 : Int) ^ n := by
  obtain rfl | rfl | rfl | rfl | rfl | rfl | rfl : n = 0 ∨ n = 1 ∨ n = 2 ∨ n = 3 ∨ n = 4 ∨ n = 5 ∨ n = 6 := by omega
  all_goals decide
theorem tmod_bit' {l : List Int} (hn : l.length ≤ 6) {x i : Int} (h0 : 0 ≤ x) (h1 : x < 2 ^ l.length) (h2 : 0 ≤ i) (h3 : i < l.length) : Int.tmod (shr .i64 x i) 2 = bitI x i := by
  have := pow_le _ hn
  obtain ⟨a, rfl⟩ := Int.eq_ofNat_of_zero_le h0
  obtain ⟨b, rfl⟩ := Int.eq_ofNat_of_zero_le h2
  exact tmod_bit a (by omega) b (by omega)

def RngP (l : List Int) : Prop := ∀ i : Int, 0 ≤ i → i < l.length → 0 ≤ rd l i ∧ rd l i < 2 ^ l.length
def PairP (l : List Int) (i m : Int) : Prop := bitI (rd l i) m = bitI (rd l m) i ∧ ¬ (m = i ∧ bitI (rd l i) i = 1)

theorem spec_l2 (l : List Int) (hn : l.length ≤ 6) (hr : RngP l) (i : Int) (h0 : 0 ≤ i) (h1 : i < l.length) (Q : Prop) (hnext : Tells (fun k => spec_NetOk.l1 k l (i + 1)) Q) (j : Int) (hj : 0 ≤ j) (hj' : j ≤ l.length) :
    Tells (fun k => spec_NetOk.l2 k l i j) ((∀ m, j ≤ m → m < l.length → PairP l i m) ∧ Q) := by
  refine adv (P := fun j => Tells (fun k => spec_NetOk.l2 k l i j) ((∀ m, j ≤ m → m < l.length → PairP l i m) ∧ Q)) hj' ?_ ?_
  · refine (Tells.step (fun k => ?_) hnext).iff ⟨fun h => ⟨fun i h1 h2 => by omega, h⟩, fun h => h.2⟩
    simp only [spec_NetOk.l2]
    rw [if_neg (by omega), wr (by omega) (by omega)]
  · intro m g1 g2 ih
    have e1 := tmod_bit' hn (hr i h0 h1).1 (hr i h0 h1).2 (show 0 ≤ m by omega) g2
    have e2 := tmod_bit' hn (hr m (by omega) g2).1 (hr m (by omega) g2).2 h0 h1
    by_cases c : bitI (rd l i) m = bitI (rd l m) i
    · by_cases c2 : m = i ∧ bitI (rd l i) i = 1
      · refine Tells.step (fun k => ?_) (Tells.no (fun h => (h.1 m (Int.le_refl m) g2).2 c2))
        simp only [spec_NetOk.l2]
        rw [if_pos g2, if_pos h0, if_pos h1, if_pos (by omega), e1, e2, if_pos c, if_pos c2.1, c2.1, if_pos c2.2]
      · refine (Tells.step (fun k => ?_) ih).iff ⟨fun h => ⟨fun q h4 h5 => ?_, h.2⟩, fun h => ⟨fun q h4 h5 => h.1 q (by omega) h5, h.2⟩⟩
        · simp only [spec_NetOk.l2]
          rw [if_pos g2, if_pos h0, if_pos h1, if_pos (by omega), e1, e2, if_pos c, wr (by omega) (by omega)]
          by_cases e : m = i
          · rw [if_pos e, e, if_neg (fun h => c2 ⟨e, h⟩)]
          · rw [if_neg e]
        · by_cases e : q = m
          · rw [e]; exact ⟨c, c2⟩
          · exact h.1 q (by omega) h5
    · refine Tells.step (fun k => ?_) (Tells.no (fun h => c (h.1 m (Int.le_refl m) g2).1))
      simp only [spec_NetOk.l2]
      rw [if_pos g2, if_pos h0, if_pos h1, if_pos (by omega), e1, e2, if_neg c]
theorem spec_l1 (l : List Int) (hn : l.length ≤ 6) (hr : RngP l) (j : Int) (hj : 0 ≤ j) (hj' : j ≤ l.length) :
    Tells (fun k => spec_NetOk.l1 k l j) (∀ i, j ≤ i → i < l.length → ∀ m : Int, 0 ≤ m → m < l.length → PairP l i m) := by
  refine adv (P := fun j => Tells (fun k => spec_NetOk.l1 k l j) (∀ i, j ≤ i → i < l.length → ∀ m : Int, 0 ≤ m → m < l.length → PairP l i m)) hj' ?_ ?_
  · refine Tells.step (fun k => ?_) (Tells.yes (fun i h1 h2 => by omega))
    simp only [spec_NetOk.l1]
    rw [if_neg (by omega)]
  · intro i g1 g2 ih
    refine (Tells.step (fun k => ?_) (spec_l2 l hn hr i (by omega) g2 _ ih 0 (by omega) (by omega))).iff ⟨fun h q h1 h2 => ?_, fun h => ⟨h i (Int.le_refl i) g2, fun q h1 h2 => h q (by omega) h2⟩⟩
    · simp only [spec_NetOk.l1]
      rw [if_pos g2]
    · by_cases e : q = i
      · rw [e]; exact h.1
      · exact h.2 q (by omega) h2
theorem spec_l0 (l : List Int) (hn : l.length ≤ 6) (j : Int) (hj : 0 ≤ j) (hj' : j ≤ l.length) (hp : ∀ i : Int, 0 ≤ i → i < j → 0 ≤ rd l i ∧ rd l i < 2 ^ l.length) :
    Tells (fun k => spec_NetOk.l0 k l j) (RngP l ∧ ∀ i : Int, 0 ≤ i → i < l.length → ∀ m : Int, 0 ≤ m → m < l.length → PairP l i m) := by
  have := pow_le _ hn
  refine adv (P := fun j => (∀ i : Int, 0 ≤ i → i < j → 0 ≤ rd l i ∧ rd l i < 2 ^ l.length) → Tells (fun k => spec_NetOk.l0 k l j) (RngP l ∧ ∀ i : Int, 0 ≤ i → i < l.length → ∀ m : Int, 0 ≤ m → m < l.length → PairP l i m)) hj' ?_ ?_ hp
  · intro hp
    refine (Tells.step (fun k => ?_) (spec_l1 l hn hp 0 (by omega) (by omega))).iff ⟨fun h => ⟨hp, h⟩, fun h => h.2⟩
    simp only [spec_NetOk.l0]
    rw [if_neg (by omega)]
  · intro i g1 g2 ih hp
    refine Tells.step (fun k => ?_) (Tells.test (in_tells (rd l i) 0 (2 ^ l.length - 1)) (f := fun k t => if t = true then spec_NetOk.l0 k l (i + 1) else some false) (fun hy => ?_) (fun hno => ?_))
    · simp only [spec_NetOk.l0]
      rw [if_pos g2, if_pos (by omega), shl_one _ hn, wr (n := 2 ^ l.length - 1) (by omega) (by omega), wr (by omega) (by omega)]
    · simp only [if_true]
      refine ih (fun q h1 h2 => ?_)
      by_cases e : q = i
      · rw [e]; omega
      · exact hp q h1 (by omega)
    · exact Tells.no (fun h => hno (by have := h.1 i (by omega) g2; omega))
theorem spec_net (l : List Int) : Tells (fun k => spec_NetOk.f k l) (NetP l) := by
  refine Tells.congr (fun k => by unfold spec_NetOk.f; rfl) (Tells.test (in_tells (l.length : Int) 1 6) (f := fun k t => if t = true then spec_NetOk.l0 k l 0 else some false) (fun hy => ?_) (fun hn => ?_))
  · simp only [if_true]
    refine (spec_l0 l (by omega) 0 (by omega) (by omega) (fun i _ _ => by omega)).iff ⟨fun h => ?_, fun h => ?_⟩
    · exact ⟨by omega, by omega, h.1, fun i m a b c d => (h.2 i a b m c d).1, fun i a b e => (h.2 i a b i a b).2 ⟨rfl, e⟩⟩
    · exact ⟨h.rng, fun i a b m c d => ⟨h.sym i m a b c d, fun e => h.self i a b e.2⟩⟩
  · exact Tells.no (fun h => hn (by have := h.lo; have := h.hi; omega))

structure StP (kinds : Int) (l : List Int) : Prop where
  rng : ∀ i : Int, 0 ≤ i → i < l.length → 0 ≤ rd l i ∧ rd l i < kinds
  k3 : 3 ≤ kinds
  k5 : kinds ≤ 5
  lo : 1 ≤ l.length
  hi : l.length ≤ 6
theorem spec_state (kinds : Int) (l : List Int) (hm : l.length ≤ 140737488351232) : Tells (fun k => spec_StateOk.f k kinds l) (StP kinds l) := by
  suffices H : ∀ j : Int, 0 ≤ j → j ≤ l.length → Tells (fun k => spec_StateOk.l0 k kinds l j) ((∀ i : Int, j ≤ i → i < l.length → 0 ≤ rd l i ∧ rd l i < kinds) ∧ (3 ≤ kinds ∧ kinds ≤ 5) ∧ 1 ≤ (l.length : Int) ∧ (l.length : Int) ≤ 6) from
    (Tells.congr (fun k => by unfold spec_StateOk.f; rfl) (H 0 (by omega) (by omega))).iff ⟨fun h => ⟨h.1, h.2.1.1, h.2.1.2, by omega, by omega⟩, fun h => ⟨h.rng, ⟨h.k3, h.k5⟩, by have := h.lo; omega, by have := h.hi; omega⟩⟩
  intro j hj hj'
  refine adv (P := fun j => Tells (fun k => spec_StateOk.l0 k kinds l j) ((∀ i : Int, j ≤ i → i < l.length → 0 ≤ rd l i ∧ rd l i < kinds) ∧ (3 ≤ kinds ∧ kinds ≤ 5) ∧ 1 ≤ (l.length : Int) ∧ (l.length : Int) ≤ 6)) hj' ?_ ?_
  · refine Tells.step (fun k => ?_) (Tells.test (in_tells kinds 3 5) (f := fun _ t => if t = true then (spec_l1In.f (l.length : Int) 1 6).bind (fun t120 => some t120) else some false) (fun hy => ?_) (fun hno => ?_))
    · simp only [spec_StateOk.l0]
      rw [if_neg (by omega)]
    · simp only [if_true]
      exact (Tells.congr (fun _ => by rw [in_val]; rfl) (in_tells (l.length : Int) 1 6)).iff ⟨fun h => ⟨fun i h1 h2 => by omega, hy, h⟩, fun h => h.2.2⟩
    · exact Tells.no (fun h => hno h.2.1)
  · intro i g1 g2 ih
    by_cases c : 0 ≤ rd l i ∧ rd l i < kinds
    · refine (Tells.step (fun k => ?_) ih).iff ⟨fun h => ⟨fun q h4 h5 => ?_, h.2⟩, fun h => ⟨fun q h4 h5 => h.1 q (by omega) h5, h.2⟩⟩
      · simp only [spec_StateOk.l0]
        rw [if_pos g2, if_pos (by omega), if_neg (by omega), if_neg (by omega), wr (by omega) (by omega)]
      · by_cases e : q = i
        · rw [e]; exact c
        · exact h.1 q (by omega) h5
    · refine Tells.step (fun k => ?_) (Tells.no (fun h => c (h.1 i (Int.le_refl i) g2)))
      simp only [spec_StateOk.l0]
      rw [if_pos g2, if_pos (by omega)]
      by_cases c1 : rd l i < 0
      · rw [if_pos c1]
      · rw [if_neg c1, if_pos (by omega)]
theorem impl_state (kinds : Int) (l : List Int) (hm : l.length ≤ 140737488351232) : Tells (fun k => impl_StateOk.f k kinds l) (StP kinds l) := by
  suffices H : ∀ j : Int, 0 ≤ j → j ≤ l.length → Tells (fun k => impl_StateOk.l0 k kinds l l (l.length : Int) j) ((∀ i : Int, j ≤ i → i < l.length → 0 ≤ rd l i ∧ rd l i < kinds) ∧ (3 ≤ kinds ∧ kinds ≤ 5) ∧ 1 ≤ (l.length : Int) ∧ (l.length : Int) ≤ 6) from
    (Tells.congr (fun k => by unfold impl_StateOk.f; rfl) (H 0 (by omega) (by omega))).iff ⟨fun h => ⟨h.1, h.2.1.1, h.2.1.2, by omega, by omega⟩, fun h => ⟨h.rng, ⟨h.k3, h.k5⟩, by have := h.lo; omega, by have := h.hi; omega⟩⟩
  intro j hj hj'
  refine adv (P := fun j => Tells (fun k => impl_StateOk.l0 k kinds l l (l.length : Int) j) ((∀ i : Int, j ≤ i → i < l.length → 0 ≤ rd l i ∧ rd l i < kinds) ∧ (3 ≤ kinds ∧ kinds ≤ 5) ∧ 1 ≤ (l.length : Int) ∧ (l.length : Int) ≤ 6)) hj' ?_ ?_
  · refine (Tells.step (f := fun _ => some (decide ((3 ≤ kinds ∧ kinds ≤ 5) ∧ 1 ≤ (l.length : Int) ∧ (l.length : Int) ≤ 6))) (fun k => ?_) Tells.now).iff ⟨fun h => ⟨fun i h1 h2 => by omega, by simpa using h⟩, fun h => by simpa using h.2⟩
    simp only [impl_StateOk.l0]
    rw [if_neg (by omega)]
    repeat' split
    all_goals (congr 1; first | (rw [decide_eq_decide]; constructor <;> intro _ <;> omega) | (symm; exact decide_eq_false (by omega)))
  · intro i g1 g2 ih
    by_cases c : 0 ≤ rd l i ∧ rd l i < kinds
    · refine (Tells.step (fun k => ?_) ih).iff ⟨fun h => ⟨fun q h4 h5 => ?_, h.2⟩, fun h => ⟨fun q h4 h5 => h.1 q (by omega) h5, h.2⟩⟩
      · simp only [impl_StateOk.l0]
        rw [if_pos g2, if_pos (by omega), if_pos g2, if_neg (by omega), if_neg (by omega), wr (by omega) (by omega)]
      · by_cases e : q = i
        · rw [e]; exact c
        · exact h.1 q (by omega) h5
    · refine Tells.step (fun k => ?_) (Tells.no (fun h => c (h.1 i (Int.le_refl i) g2)))
      simp only [impl_StateOk.l0]
      rw [if_pos g2, if_pos (by omega), if_pos g2]
      by_cases c1 : rd l i < 0
      · rw [if_pos c1]
      · rw [if_neg c1, if_pos (by omega)]
structure PlP (net : List Int) (kinds : Int) (state : List Int) : Prop where
  nt : NetP net
  st : StP kinds state
  len : net.length = state.length
theorem impl_place (net : List Int) (kinds : Int) (state : List Int) (hm : state.length ≤ 140737488351232) : Tells (fun k => impl_PlaceOk.f k net kinds state) (PlP net kinds state) := by
  refine Tells.congr (fun k => by unfold impl_PlaceOk.f impl_asked.f; simp only [Option.bind_assoc]) (Tells.test (impl_net net) (f := fun k t => (if t = true then (impl_StateOk.f k kinds state).bind (fun t => if t = true then some ((net.length : Int) == (state.length : Int)) else some false) else some false).bind fun t => some t) (fun hy => ?_) (fun hn => ?_))
  · simp only [if_true, Option.bind_assoc]
    refine Tells.test (impl_state kinds state hm) (fun hs => ?_) (fun hn => ?_)
    · simp only [if_true, Option.bind_some]
      refine Tells.now.iff ⟨fun h => ⟨hy, hs, by have := eq_of_beq h; omega⟩, fun h => by rw [h.len]; simp⟩
    · exact Tells.no (fun h => hn h.st)
  · exact Tells.no (fun h => hn h.nt)
theorem spec_place (net : List Int) (kinds : Int) (state : List Int) (hm : state.length ≤ 140737488351232) : Tells (fun k => spec_PlaceOk.f k net kinds state) (PlP net kinds state) := by
  refine Tells.congr (fun k => by unfold spec_PlaceOk.f spec_l3Ok.f; simp only [Option.bind_assoc]) (Tells.test (spec_net net) (f := fun k t => (if t = true then (spec_StateOk.f k kinds state).bind (fun t => if t = true then some ((state.length : Int) == (net.length : Int)) else some false) else some false).bind fun t => some t) (fun hy => ?_) (fun hn => ?_))
  · simp only [if_true, Option.bind_assoc]
    refine Tells.test (spec_state kinds state hm) (fun hs => ?_) (fun hn => ?_)
    · simp only [if_true, Option.bind_some]
      refine Tells.now.iff ⟨fun h => ⟨hy, hs, by have := eq_of_beq h; omega⟩, fun h => by rw [h.len]; simp⟩
    · exact Tells.no (fun h => hn h.st)
  · exact Tells.no (fun h => hn h.nt)
/-- A row of bytes. -/
structure Bytes (s : List Int) : Prop where
  b : ∀ i : Int, 0 ≤ i → i < s.length → 0 ≤ rd s i ∧ rd s i < 256
  n : s.length ≤ 2000

theorem xor_nat (a b : Nat) (ha : a < 2 ^ 62) (hb : b < 2 ^ 62) : Go.bits .xor .i64 (a : Int) (b : Int) = ((a ^^^ b : Nat) : Int) := by
  have h : a ^^^ b < 2 ^ 62 := Nat.xor_lt_two_pow ha hb
  have hp : 2 ^ 62 ≤ 2 ^ IntKind.i64.bits := by decide
  have ha' : a % 2 ^ IntKind.i64.bits = a := Nat.mod_eq_of_lt (Nat.lt_of_lt_of_le ha hp)
  have hb' : b % 2 ^ IntKind.i64.bits = b := Nat.mod_eq_of_lt (Nat.lt_of_lt_of_le hb hp)
  simp only [Go.bits, BitVec.ofInt_natCast, BitVec.toNat_xor, BitVec.toNat_ofNat, ha', hb']
  rw [IntKind.wrap_i64]
  omega

theorem ev_pick (s : List Int) (hs : Bytes s) (p n : Int) (hp : 0 ≤ p) (hp' : p ≤ 1000000) (hn : n ≤ 1000000) :
    ∃ v, Ev (fun k => spec_l20Rd_pick.f k s p n) (v, p + 1) ∧ 0 ≤ v ∧ (1 ≤ n → v < n) := by
  have e0 : wrap64 (p + 1) = p + 1 := wr (by omega) (by omega)
  have e1 : wrap64 (p + 1 - 1) = p := by rw [wr (by omega) (by omega)]; omega
  by_cases h1 : n < 1
  · refine ⟨0, Ev.congr (fun k => by unfold spec_l20Rd_pick.f; rw [if_pos h1, e0]) (Ev.step (fun k => by simp only [spec_l20Rd_pick.j0, if_true]) (Ev.now _)), by omega, by omega⟩
  by_cases h2 : (s.length : Int) = 0
  · refine ⟨0, Ev.congr (fun k => by unfold spec_l20Rd_pick.f; rw [if_neg h1, e0, h2]) (Ev.step (fun k => by simp only [spec_l20Rd_pick.j0]; rfl) (Ev.now _)), by omega, by omega⟩
  have e2 : ((s.length : Int) == 0) = false := by simpa using h2
  have hl := hs.n
  by_cases h3 : p < s.length
  · have hb := hs.b p hp h3
    refine ⟨rd s p % n, Ev.congr (fun k => by unfold spec_l20Rd_pick.f; rw [if_neg h1, e0, e2]) (Ev.step (f := fun _ => some (rd s p % n, p + 1)) (fun k => ?_) (Ev.now _)), Int.emod_nonneg _ (by omega), fun _ => Int.emod_lt_of_pos _ (by omega)⟩
    simp only [spec_l20Rd_pick.j0]
    rw [if_neg (by simp), e1, if_pos h3, if_pos hp, if_neg (by omega), wr (n := rd s p) (by omega) (by omega), Int.tmod_eq_emod_of_nonneg (by omega)]
  · have q0 : Int.tmod p s.length = p % s.length := Int.tmod_eq_emod_of_nonneg hp
    have q1 : 0 ≤ p % s.length := Int.emod_nonneg _ h2
    have q2 : p % s.length < s.length := Int.emod_lt_of_pos _ (by omega)
    have w1 : wrap64 (wrap64 (p * 7) + 3) = p * 7 + 3 := by rw [wr (n := p * 7) (by omega) (by omega), wr (by omega) (by omega)]
    have r0 : Int.tmod (p * 7 + 3) s.length = (p * 7 + 3) % s.length := Int.tmod_eq_emod_of_nonneg (by omega)
    have r1 : 0 ≤ (p * 7 + 3) % s.length := Int.emod_nonneg _ h2
    have r2 : (p * 7 + 3) % s.length < s.length := Int.emod_lt_of_pos _ (by omega)
    have b1 := hs.b _ q1 q2
    have b2 := hs.b _ r1 r2
    have d0 : Int.tdiv p s.length = p / s.length := Int.tdiv_eq_ediv_of_nonneg hp
    have d1 : 0 ≤ p / s.length := Int.ediv_nonneg hp (by omega)
    have d2 : p / s.length ≤ p := Int.ediv_le_self _ hp
    generalize hx1 : rd s (p % s.length) = x1 at *
    generalize hx2 : rd s ((p * 7 + 3) % s.length) = x2 at *
    generalize hx3 : p / (s.length : Int) = x3 at *
    have w2 : wrap64 (wrap64 (wrap64 (wrap64 (wrap64 x1 * 131) + wrap64 (wrap64 x2 * 1117)) + wrap64 (p * 29)) + wrap64 (wrap64 x3 * 53)) = x1 * 131 + x2 * 1117 + p * 29 + x3 * 53 := by
      rw [wr (n := x1) (by omega) (by omega), wr (n := x2) (by omega) (by omega), wr (n := x3) (by omega) (by omega), wr (n := x1 * 131) (by omega) (by omega), wr (n := x2 * 1117) (by omega) (by omega), wr (n := p * 29) (by omega) (by omega), wr (n := x3 * 53) (by omega) (by omega), wr (n := x1 * 131 + x2 * 1117) (by omega) (by omega), wr (n := x1 * 131 + x2 * 1117 + p * 29) (by omega) (by omega), wr (by omega) (by omega)]
    generalize hx : x1 * 131 + x2 * 1117 + p * 29 + x3 * 53 = x at *
    have hx0 : 0 ≤ x := by omega
    have hxb : x ≤ 1000000000 := by omega
    have d3 : wrap64 (Int.tdiv x 64) = x / 64 := by rw [Int.tdiv_eq_ediv_of_nonneg hx0]; exact wr (by omega) (by omega)
    obtain ⟨y, hy, hy0⟩ : ∃ y : Nat, Go.bits .xor .i64 x (x / 64) = (y : Int) ∧ True := by
      obtain ⟨a, ha⟩ := Int.eq_ofNat_of_zero_le hx0
      obtain ⟨b, hb⟩ := Int.eq_ofNat_of_zero_le (show 0 ≤ x / 64 by omega)
      exact ⟨_, by rw [hb, ha]; exact xor_nat a b (by omega) (by omega), trivial⟩
    refine ⟨(y : Int) % n, Ev.congr (fun k => by unfold spec_l20Rd_pick.f; rw [if_neg h1, e0, e2]) (Ev.step (f := fun _ => some ((y : Int) % n, p + 1)) (fun k => ?_) (Ev.now _)), Int.emod_nonneg _ (by omega), fun _ => Int.emod_lt_of_pos _ (by omega)⟩
    simp only [spec_l20Rd_pick.j0]
    rw [if_neg (by simp), e1, if_neg h3, if_neg h2, q0, if_pos q1, if_pos q2, w1, r0, if_pos r1, if_pos r2, if_neg (by omega), hx1, hx2, d0, w2, d3, hy, Int.tmod_eq_emod_of_nonneg (by omega)]

theorem ev_odd (s : List Int) (hs : Bytes s) (p n : Int) (hp : 0 ≤ p) (hp' : p ≤ 1000000) (hn : n ≤ 1000000) :
    ∃ b q, Ev (fun k => spec_l20Rd_odd.f k s p n) (b, q) ∧ p ≤ q ∧ q ≤ p + 1 ∧ (n ≤ 0 → b = false) := by
  by_cases h : n > 0
  · obtain ⟨v, h1, _, _⟩ := ev_pick s hs p n hp hp' hn
    exact ⟨_, _, Ev.congr (fun k => by unfold spec_l20Rd_odd.f; rw [if_pos h]) (Ev.bind h1 (Ev.now _)), by simp; omega, by simp, fun h => by omega⟩
  · exact ⟨false, p, Ev.congr (fun k => by unfold spec_l20Rd_odd.f; rw [if_neg h]) (Ev.now _), by omega, by omega, fun _ => rfl⟩
def okLen (n : Nat) : Option (List Int) → Bool
  | some l => l.length == n
  | none => false
theorem okLen_some {n : Nat} {o : Option (List Int)} (h : okLen n o = true) : ∃ l, o = some l ∧ l.length = n := by
  cases o with
  | none => simp [okLen] at h
  | some l => exact ⟨l, rfl, by simpa [okLen] using h⟩
theorem ev_path (n : Nat) (h1 : 1 ≤ n) (h6 : n ≤ 6) : ∃ l, Ev (fun k => spec_PathNet.f k (n : Int)) l ∧ l.length = n := by
  obtain ⟨l, h, hl⟩ : ∃ l, spec_PathNet.f 20 (n : Int) = some l ∧ l.length = n := by
    apply okLen_some
    obtain rfl | rfl | rfl | rfl | rfl | rfl : n = 1 ∨ n = 2 ∨ n = 3 ∨ n = 4 ∨ n = 5 ∨ n = 6 := by omega
    all_goals decide +kernel
  exact ⟨l, Ev.of (spec_PathNet.mono _) h, hl⟩
theorem ev_ring (n : Nat) (h1 : 3 ≤ n) (h6 : n ≤ 6) : ∃ l, Ev (fun k => spec_RingNet.f k (n : Int)) l ∧ l.length = n := by
  obtain ⟨l, h, hl⟩ : ∃ l, spec_RingNet.f 20 (n : Int) = some l ∧ l.length = n := by
    apply okLen_some
    obtain rfl | rfl | rfl | rfl : n = 3 ∨ n = 4 ∨ n = 5 ∨ n = 6 := by omega
    all_goals decide +kernel
  exact ⟨l, Ev.of (spec_RingNet.mono _) h, hl⟩

theorem ev_net_loop (s : List Int) (hs : Bytes s) (a1 : Int) (ha : a1 ≤ 1000) (nodes : Nat) (h1 : 1 ≤ nodes) (h6 : nodes ≤ 6) (d : Nat) : ∀ (net : List Int) (p : Int), net.length = nodes → 0 ≤ p → p + 2 * d ≤ 900000 → d ≤ 1000 →
    ∃ net' q, Ev (fun k => spec_l20Net.l0 k a1 nodes net d s p) (net', q) ∧ p ≤ q ∧ q ≤ p + 2 * d + 2 ∧ net'.length ≤ 6 ∧ (a1 ≤ 0 → net'.length = nodes) := by
  induction d with
  | zero =>
    intro net p hn hp hb hd
    obtain ⟨b, q, ho, o1, o2, o3⟩ := ev_odd s hs p a1 hp (by omega) (by omega)
    have hst : ∀ {r}, Ev (fun k => if (b, q).1 = true then ((spec_l20Rd_pick.f k s (b, q).2 3).bind fun bt186 => (if bt186.1 = 0 then (some ((([] : List Int)), bt186.2)) else (if bt186.1 = 1 then (if 0 < (net.length : Int) then (some ((net.set (0 : Int).toNat (Go.bits .or .i64 (rd net 0) 1)), bt186.2)) else (none)) else (if 0 < (net.length : Int) then (if 0 ≤ (wrap64 ((nodes : Int) - 1)) then ((some (net.set (0 : Int).toNat (Go.bits .xor .i64 (rd net 0) (shl .i64 1 (wrap64 ((nodes : Int) - 1)))) : List Int)).bind fun y194 => (if (nodes : Int) = 1 then (some ((y194.set (0 : Int).toNat (-1)), bt186.2)) else (some (y194, bt186.2)))) else (none)) else (none))))) else (some (net, (b, q).2))) r → Ev (fun k => spec_l20Net.l0 k a1 nodes net ((0 : Nat) : Int) s p) r :=
      fun h => Ev.step (fun k => by simp only [spec_l20Net.l0]; rw [if_neg (by simp)]) (Ev.bind ho h)
    cases b with
    | false => exact ⟨net, q, hst (Ev.congr (fun k => if_neg (by simp)) (Ev.now _)), by omega, by omega, by omega, fun _ => hn⟩
    | true =>
      have ha1 : ¬ a1 ≤ 0 := fun h => by simpa using o3 h
      obtain ⟨v, hv, v0, v3⟩ := ev_pick s hs q 3 (by omega) (by omega) (by omega)
      have hst2 : ∀ {r}, Ev (fun _ => if v = 0 then (some ((([] : List Int)), q + 1)) else (if v = 1 then (if 0 < (net.length : Int) then (some ((net.set (0 : Int).toNat (Go.bits .or .i64 (rd net 0) 1)), q + 1)) else (none)) else (if 0 < (net.length : Int) then (if 0 ≤ (wrap64 ((nodes : Int) - 1)) then ((some (net.set (0 : Int).toNat (Go.bits .xor .i64 (rd net 0) (shl .i64 1 (wrap64 ((nodes : Int) - 1)))) : List Int)).bind fun y194 => (if (nodes : Int) = 1 then (some ((y194.set (0 : Int).toNat (-1)), q + 1)) else (some (y194, q + 1)))) else (none)) else (none)))) r → _ := fun {r} h => hst (r := r) (Ev.congr (fun k => if_pos rfl) (Ev.bind hv h))
      by_cases e0 : v = 0
      · exact ⟨[], q + 1, hst2 (Ev.congr (fun _ => by rw [if_pos e0]) (Ev.now _)), by omega, by omega, by simp, fun h => absurd h ha1⟩
      · by_cases e1 : v = 1
        · exact ⟨_, q + 1, hst2 (Ev.congr (fun _ => by rw [if_neg e0, if_pos e1, if_pos (by omega)]) (Ev.now _)), by omega, by omega, by simp; omega, fun h => absurd h ha1⟩
        · by_cases e2 : (nodes : Int) = 1
          · exact ⟨_, q + 1, hst2 (Ev.congr (fun _ => by rw [if_neg e0, if_neg e1, if_pos (by omega), if_pos (by rw [wr (by omega) (by omega)]; omega), Option.bind_some, if_pos e2]) (Ev.now _)), by omega, by omega, by simp; omega, fun h => absurd h ha1⟩
          · exact ⟨_, q + 1, hst2 (Ev.congr (fun _ => by rw [if_neg e0, if_neg e1, if_pos (by omega), if_pos (by rw [wr (by omega) (by omega)]; omega), Option.bind_some, if_neg e2]) (Ev.now _)), by omega, by omega, by simp; omega, fun h => absurd h ha1⟩
  | succ d ih =>
    intro net p hn hp hb hd
    obtain ⟨v, hv, v0, v1⟩ := ev_pick s hs p nodes hp (by omega) (by omega)
    obtain ⟨u, hu, u0, u1⟩ := ev_pick s hs (p + 1) nodes (by omega) (by omega) (by omega)
    have v2 := v1 (by omega)
    have u2 := u1 (by omega)
    have ed : wrap64 (((d + 1 : Nat) : Int) - 1) = (d : Int) := by rw [wr (by omega) (by omega)]; omega
    by_cases e : v = u
    · obtain ⟨net', q, h1, h2, h3, h4, h5⟩ := ih net (p + 1 + 1) hn (by omega) (by omega) (by omega)
      refine ⟨net', q, ?_, by omega, by omega, h4, h5⟩
      refine Ev.step (fun k => by simp only [spec_l20Net.l0]; rw [if_pos (by omega)]) (Ev.bind hv (Ev.bind hu ?_))
      exact Ev.congr (fun k => by (try dsimp only); rw [if_pos e, ed]) h1
    · obtain ⟨net', q, h1, h2, h3, h4, h5⟩ := ih ((net.set (v : Int).toNat (Go.bits .or .i64 (rd net v) (shl .i64 1 u))).set (u : Int).toNat (Go.bits .or .i64 (rd (net.set (v : Int).toNat (Go.bits .or .i64 (rd net v) (shl .i64 1 u))) u) (shl .i64 1 v))) (p + 1 + 1) (by simpa using hn) (by omega) (by omega) (by omega)
      refine ⟨net', q, ?_, by omega, by omega, h4, h5⟩
      refine Ev.step (fun k => by simp only [spec_l20Net.l0]; rw [if_pos (by omega)]) (Ev.bind hv (Ev.bind hu ?_))
      exact Ev.congr (fun k => by (try dsimp only); rw [if_neg e, if_pos v0, if_pos (by omega), if_pos u0, Option.bind_some, if_pos (by first | omega | (simp; omega)), ed]) h1
theorem ev_net (s : List Int) (hs : Bytes s) (p a1 : Int) (ha : a1 ≤ 1000) (hp : 0 ≤ p) (hp' : p ≤ 800000) :
    ∃ net q, Ev (fun k => spec_l20Net.f k s p a1) (net, q) ∧ p ≤ q ∧ q ≤ p + 20 ∧ net.length ≤ 6 ∧ (a1 ≤ 0 → 1 ≤ net.length) := by
  obtain ⟨v, hv, v0, v6⟩ := ev_pick s hs p 6 hp (by omega) (by omega)
  have v6' := v6 (by omega)
  obtain ⟨n, hn⟩ := Int.eq_ofNat_of_zero_le (show 0 ≤ 1 + v by omega)
  have ew : wrap64 (1 + v) = (n : Int) := by rw [wr (by omega) (by omega)]; exact hn
  obtain ⟨path, hpath, hpl⟩ := ev_path n (by omega) (by omega)
  obtain ⟨t, ht, t0, t4⟩ := ev_pick s hs (p + 1) 4 (by omega) (by omega) (by omega)
  obtain ⟨x, hx, x0, x6⟩ := ev_pick s hs (p + 1 + 1) 6 (by omega) (by omega) (by omega)
  have x6' := x6 (by omega)
  obtain ⟨d, rfl⟩ := Int.eq_ofNat_of_zero_le x0
  have hj : ∀ net : List Int, net.length = n → ∃ net' q, Ev (fun k => spec_l20Net.j0 k a1 n net s (p + 1 + 1)) (net', q) ∧ p ≤ q ∧ q ≤ p + 20 ∧ net'.length ≤ 6 ∧ (a1 ≤ 0 → 1 ≤ net'.length) := by
    intro net hl
    obtain ⟨net', q, h1, h2, h3, h4, h5⟩ := ev_net_loop s hs a1 ha n (by omega) (by omega) d net (p + 1 + 1 + 1) hl (by omega) (by omega) (by omega)
    refine ⟨net', q, ?_, by omega, by omega, h4, fun h => by have := h5 h; omega⟩
    exact Ev.step (f := fun k => (spec_l20Rd_pick.f k s (p + 1 + 1) 6).bind fun bt174 => (spec_l20Net.l0 k a1 n net bt174.1 s bt174.2)) (fun k => by simp only [spec_l20Net.j0]) (Ev.bind hx h1)
  have hst : ∀ {r}, Ev (fun k => if t = 0 then (if (n : Int) ≥ 3 then ((spec_RingNet.f k (n : Int)).bind fun t168 => (spec_l20Net.j0 k a1 (n : Int) t168 s (p + 1 + 1))) else (spec_l20Net.j0 k a1 (n : Int) path s (p + 1 + 1))) else (if t = 1 then (if 0 ≤ (n : Int) then (if ((n : Int) : Int).toNat ≤ 35184372088832 then (spec_l20Net.j0 k a1 (n : Int) (List.replicate ((n : Int) : Int).toNat 0) s (p + 1 + 1)) else (none)) else (none)) else (spec_l20Net.j0 k a1 (n : Int) path s (p + 1 + 1)))) r → Ev (fun k => spec_l20Net.f k s p a1) r := by
    intro r h
    refine Ev.congr (fun k => by unfold spec_l20Net.f; rfl) (Ev.bind hv ?_)
    simp only [ew]
    exact Ev.bind hpath (Ev.bind ht h)
  by_cases t1 : t = 0
  · by_cases c3 : (n : Int) ≥ 3
    · obtain ⟨ring, hr, hrl⟩ := ev_ring n (by omega) (by omega)
      obtain ⟨net', q, h1, h⟩ := hj ring hrl
      exact ⟨net', q, hst (Ev.congr (fun k => by rw [if_pos t1, if_pos c3]) (Ev.bind hr h1)), h⟩
    · obtain ⟨net', q, h1, h⟩ := hj path hpl
      exact ⟨net', q, hst (Ev.congr (fun k => by rw [if_pos t1, if_neg c3]) h1), h⟩
  · by_cases t2 : t = 1
    · obtain ⟨net', q, h1, h⟩ := hj (List.replicate ((n : Int) : Int).toNat 0) (by simp)
      exact ⟨net', q, hst (Ev.congr (fun k => by rw [if_neg t1, if_pos t2, if_pos (by omega), if_pos (by omega)]) h1), h⟩
    · obtain ⟨net', q, h1, h⟩ := hj path hpl
      exact ⟨net', q, hst (Ev.congr (fun k => by rw [if_neg t1, if_neg t2]) h1), h⟩

theorem ev_state_loop (s : List Int) (hs : Bytes s) (nodes : Int) (hn : nodes ≤ 100) (kinds thin a3 : Int) (hk : 1 ≤ kinds) (hk' : kinds ≤ 1000) (ha : a3 ≤ 1000) (d : Nat) : ∀ (st : List Int) (i p : Int), (st.length : Int) = i → nodes - i = d → 1 ≤ nodes → 0 ≤ p → p + 2 * d ≤ 900000 →
    ∃ st' q, Ev (fun k => spec_l20State.l0 k nodes kinds a3 st thin i s p) (st', q) ∧ p ≤ q ∧ q ≤ p + 2 * d + 2 ∧ st'.length ≤ 100 ∧ (a3 ≤ 0 → (st'.length : Int) = nodes) := by
  induction d with
  | zero =>
    intro st i p hl hd h1 hp hb
    obtain ⟨b, q, ho, o1, o2, o3⟩ := ev_odd s hs p a3 hp (by omega) (by omega)
    have hst : ∀ {r}, Ev (fun k => if b = true then ((spec_l20Rd_pick.f k s q 2).bind fun bt218 => (if bt218.1 = 0 then (some ((([] : List Int)), bt218.2)) else (if 0 ≤ (wrap64 ((st.length : Int) - 1)) then (if (wrap64 ((st.length : Int) - 1)) < (st.length : Int) then (some ((st.set ((wrap64 ((st.length : Int) - 1)) : Int).toNat kinds), bt218.2)) else (none)) else (none)))) else (some (st, q))) r → Ev (fun k => spec_l20State.l0 k nodes kinds a3 st thin i s p) r :=
      fun h => Ev.step (fun k => by simp only [spec_l20State.l0]; rw [if_neg (by omega)]) (Ev.bind ho h)
    cases b with
    | false => exact ⟨st, q, hst (Ev.congr (fun k => if_neg (by simp)) (Ev.now _)), by omega, by omega, by omega, fun _ => by omega⟩
    | true =>
      have ha1 : ¬ a3 ≤ 0 := fun h => by simpa using o3 h
      obtain ⟨v, hv, v0, v3⟩ := ev_pick s hs q 2 (by omega) (by omega) (by omega)
      by_cases e0 : v = 0
      · exact ⟨[], q + 1, hst (Ev.congr (fun k => if_pos rfl) (Ev.bind hv (Ev.congr (fun k => by rw [if_pos e0]) (Ev.now _)))), by omega, by omega, by simp, fun h => absurd h ha1⟩
      · refine ⟨_, q + 1, hst (Ev.congr (fun k => if_pos rfl) (Ev.bind hv (Ev.congr (fun k => by rw [if_neg e0, wr (by omega) (by omega), if_pos (by omega), if_pos (by omega)]) (Ev.now _)))), by omega, by omega, by simp; omega, fun h => absurd h ha1⟩
  | succ d ih =>
    intro st i p hl hd h1 hp hb
    have ei : wrap64 (i + 1) = i + 1 := wr (by omega) (by omega)
    by_cases c : thin > 0
    · obtain ⟨v, hv, v0, v1⟩ := ev_pick s hs p 3 hp (by omega) (by omega)
      by_cases c2 : v < thin
      · obtain ⟨st', q, g1, g2, g3, g4, g5⟩ := ih (st ++ [0]) (i + 1) (p + 1) (by simp; omega) (by omega) h1 (by omega) (by omega)
        refine ⟨st', q, ?_, by omega, by omega, g4, g5⟩
        refine Ev.step (fun k => by simp only [spec_l20State.l0]; rw [if_pos (by omega), if_pos c]) (Ev.bind hv ?_)
        exact Ev.congr (fun k => by (try dsimp only); rw [if_pos c2, if_pos (by omega), ei]) g1
      · obtain ⟨u, hu, u0, u1⟩ := ev_pick s hs (p + 1) kinds (by omega) (by omega) (by omega)
        obtain ⟨st', q, g1, g2, g3, g4, g5⟩ := ih (st ++ [u]) (i + 1) (p + 1 + 1) (by simp; omega) (by omega) h1 (by omega) (by omega)
        refine ⟨st', q, ?_, by omega, by omega, g4, g5⟩
        refine Ev.step (fun k => by simp only [spec_l20State.l0]; rw [if_pos (by omega), if_pos c]) (Ev.bind hv ?_)
        refine Ev.congr (fun k => by (try dsimp only); rw [if_neg c2]) (Ev.bind hu ?_)
        exact Ev.congr (fun k => by (try dsimp only); rw [if_pos (by omega), ei]) g1
    · obtain ⟨u, hu, u0, u1⟩ := ev_pick s hs p kinds (by omega) (by omega) (by omega)
      obtain ⟨st', q, g1, g2, g3, g4, g5⟩ := ih (st ++ [u]) (i + 1) (p + 1) (by simp; omega) (by omega) h1 (by omega) (by omega)
      refine ⟨st', q, ?_, by omega, by omega, g4, g5⟩
      refine Ev.step (fun k => by simp only [spec_l20State.l0]; rw [if_pos (by omega), if_neg c]) (Ev.bind hu ?_)
      exact Ev.congr (fun k => by (try dsimp only); rw [if_pos (by omega), ei]) g1
theorem ev_state (s : List Int) (hs : Bytes s) (p nodes kinds a3 : Int) (hn : nodes ≤ 100) (h1 : 1 ≤ nodes) (hk : 1 ≤ kinds) (hk' : kinds ≤ 1000) (ha : a3 ≤ 1000) (hp : 0 ≤ p) (hp' : p ≤ 800000) :
    ∃ st q, Ev (fun k => spec_l20State.f k s p nodes kinds a3) (st, q) ∧ p ≤ q ∧ q ≤ p + 300 ∧ st.length ≤ 100 ∧ (a3 ≤ 0 → (st.length : Int) = nodes) := by
  obtain ⟨v, hv, v0, v1⟩ := ev_pick s hs p 3 hp (by omega) (by omega)
  obtain ⟨d, hd⟩ := Int.eq_ofNat_of_zero_le (show 0 ≤ nodes by omega)
  obtain ⟨st', q, g1, g2, g3, g4, g5⟩ := ev_state_loop s hs nodes hn kinds v a3 hk hk' ha d [] 0 (p + 1) rfl (by omega) h1 (by omega) (by omega)
  exact ⟨st', q, Ev.congr (fun k => by unfold spec_l20State.f; rfl) (Ev.bind hv g1), by omega, by omega, g4, g5⟩
theorem ev_place (s : List Int) (hs : Bytes s) (p a1 : Int) (ha : a1 ≤ 1000) (hp : 0 ≤ p) (hp' : p ≤ 700000) :
    ∃ net kinds st q, Ev (fun k => spec_l20Place.f k s p a1) (net, kinds, st, q) ∧ p ≤ q ∧ q ≤ p + 500 ∧ net.length ≤ 6 ∧ st.length ≤ 101 := by
  obtain ⟨net, q1, h1, a1', b1, c1, d1⟩ := ev_net s hs p 0 (by omega) hp (by omega)
  have d1 := d1 (by omega)
  obtain ⟨v, hv, v0, v1⟩ := ev_pick s hs q1 3 (by omega) (by omega) (by omega)
  obtain ⟨u, hu, u0, u1⟩ := ev_pick s hs (q1 + 1) 2 (by omega) (by omega) (by omega)
  have v1 := v1 (by omega)
  have u1 := u1 (by omega)
  have hm : 0 ≤ v * u ∧ v * u ≤ 2 := by
    obtain rfl | rfl : u = 0 ∨ u = 1 := by omega
    · simp
    · simp; omega
  have ek : wrap64 (3 + wrap64 (v * u)) = 3 + v * u := by rw [wr (n := v * u) (by omega) (by omega), wr (by omega) (by omega)]
  obtain ⟨st, q2, h2, a2, b2, c2, d2⟩ := ev_state s hs (q1 + 1 + 1) net.length (3 + v * u) 0 (by omega) (by omega) (by omega) (by omega) (by omega) (by omega) (by omega)
  obtain ⟨b, q3, ho, o1, o2, o3⟩ := ev_odd s hs q2 a1 (by omega) (by omega) (by omega)
  have hst : ∀ {r}, Ev (fun k => (if b = true then ((spec_l20Rd_pick.f k s q3 3).bind fun bt240 => (if bt240.1 = 0 then (if st.length < 17592186044416 then (some (net, 3 + v * u, (st ++ [0]), bt240.2)) else (none)) else (if bt240.1 = 1 then ((some (([2, 6] : List Int) : List Int)).bind fun y245 => ((spec_l20Rd_pick.f k s bt240.2 2).bind fun bt248 => (if 0 ≤ bt248.1 then (if bt248.1 < (y245.length : Int) then (some (net, rd y245 bt248.1, st, bt248.2)) else (none)) else (none)))) else (some (([] : List Int), 0, ([] : List Int), bt240.2))))) else (some (net, 3 + v * u, st, q3)))) r → Ev (fun k => spec_l20Place.f k s p a1) r := by
    intro r h
    refine Ev.congr (fun k => by unfold spec_l20Place.f; rfl) (Ev.bind h1 (Ev.bind hv (Ev.bind hu ?_)))
    simp only [ek]
    exact Ev.bind h2 (Ev.bind ho h)
  cases b with
  | false => exact ⟨net, 3 + v * u, st, q3, hst (Ev.congr (fun k => if_neg (by simp)) (Ev.now _)), by omega, by omega, c1, by omega⟩
  | true =>
    obtain ⟨x, hx, x0, x1⟩ := ev_pick s hs q3 3 (by omega) (by omega) (by omega)
    have hst2 : ∀ {r}, Ev (fun k => (if x = 0 then (if st.length < 17592186044416 then (some (net, 3 + v * u, (st ++ [0]), q3 + 1)) else (none)) else (if x = 1 then ((some (([2, 6] : List Int) : List Int)).bind fun y245 => ((spec_l20Rd_pick.f k s (q3 + 1) 2).bind fun bt248 => (if 0 ≤ bt248.1 then (if bt248.1 < (y245.length : Int) then (some (net, rd y245 bt248.1, st, bt248.2)) else (none)) else (none)))) else (some (([] : List Int), 0, ([] : List Int), q3 + 1))))) r → _ := fun {r} h => hst (r := r) (Ev.congr (fun k => if_pos rfl) (Ev.bind hx h))
    by_cases e0 : x = 0
    · exact ⟨net, 3 + v * u, st ++ [0], q3 + 1, hst2 (Ev.congr (fun k => by rw [if_pos e0, if_pos (by omega)]) (Ev.now _)), by omega, by omega, c1, by simp; omega⟩
    · by_cases e1 : x = 1
      · obtain ⟨y, hy, y0, y1⟩ := ev_pick s hs (q3 + 1) 2 (by omega) (by omega) (by omega)
        have y1 := y1 (by omega)
        refine ⟨net, rd [2, 6] y, st, q3 + 1 + 1, hst2 (Ev.congr (fun k => by rw [if_neg e0, if_pos e1, Option.bind_some]) (Ev.bind hy (Ev.congr (fun k => by rw [if_pos y0, if_pos (by simp; omega)]) (Ev.now _)))), by omega, by omega, c1, by omega⟩
      · exact ⟨[], 0, [], q3 + 1, hst2 (Ev.congr (fun k => by rw [if_neg e0, if_neg e1]) (Ev.now _)), by omega, by omega, by simp, by simp⟩
theorem ev_open (l0 : List Int) (h : ∀ x ∈ l0, (Lit.int .u8 x).wf = true) : ∃ s, (∀ k : Nat, (fun _ => spec_l20Open.f l0) k = some (s, 0)) ∧ Bytes s := by
  have hb : ∀ x ∈ l0, 0 ≤ x ∧ x < 256 := by
    intro x hx
    have := h x hx
    simp [Lit.wf, IntKind.min, IntKind.max, IntKind.bits, IntKind.signed] at this
    omega
  have hr : ∀ s : List Int, (∀ x ∈ s, x ∈ l0) → ∀ i : Int, 0 ≤ i → i < s.length → 0 ≤ rd s i ∧ rd s i < 256 := by
    intro s hs i h0 h1
    have hi : i.toNat < s.length := by omega
    unfold rd
    rw [List.getD_eq_getElem?_getD, List.getElem?_eq_getElem hi]
    exact hb _ (hs _ (List.getElem_mem hi))
  by_cases c : (l0.length : Int) > 2000
  · refine ⟨l0.take 2000, fun k => ?_, hr _ (fun x hx => List.mem_of_mem_take hx), by simp; omega⟩
    simp only [spec_l20Open.f]
    rw [if_pos c, if_pos (by omega)]
  · refine ⟨l0, fun k => ?_, hr _ (fun x hx => hx), by omega⟩
    simp only [spec_l20Open.f]
    rw [if_neg c]
theorem ev_alive : Ev (fun k => laws_alive.f k) true := Ev.of laws_alive.mono (k := 20) (by decide +kernel)
theorem ev_draw (l0 : List Int) (h : ∀ x ∈ l0, (Lit.int .u8 x).wf = true) : ∃ net kinds st, Ev (fun k => spec_DrawPlaceOk.f k l0) (net, kinds, st) ∧ net.length ≤ 6 ∧ st.length ≤ 101 := by
  obtain ⟨s, h1, hs⟩ := ev_open l0 h
  obtain ⟨net, kinds, st, q, h2, _, _, h3, h4⟩ := ev_place s hs 0 2 (by omega) (by omega) (by omega)
  refine ⟨net, kinds, st, ?_, h3, h4⟩
  refine Ev.congr (fun k => by unfold spec_DrawPlaceOk.f; rfl) (Ev.bind (⟨0, fun k _ => h1 k⟩ : Ev (fun _ => spec_l20Open.f l0) (s, 0)) (Ev.bind h2 ?_))
  exact Ev.now _
theorem FnPlaceOk : laws_FnPlaceOk.Pure := by
  show ∀ (l0 : List Int), l0.length ≤ maxLen → l0.length * 1 ≤ 140737488351232 → (∀ x ∈ l0, (Lit.int .u8 x).wf = true) → ∃ k, laws_FnPlaceOk.f k l0 = some true
  intro l0 _ _ hw
  apply Ev.rounds
  by_cases c : (l0.length : Int) > 1048576
  · exact Ev.congr (fun k => by unfold laws_FnPlaceOk.f; rw [if_pos c]) (Ev.now _)
  obtain ⟨net, kinds, st, h1, hn, hs⟩ := ev_draw l0 hw
  refine Ev.congr (fun k => by unfold laws_FnPlaceOk.f; rw [if_neg c]) (Ev.bind h1 ?_)
  obtain ⟨r, e1, q1⟩ := impl_place net kinds st (by omega)
  obtain ⟨r', e2, q2⟩ := spec_place net kinds st (by omega)
  obtain rfl : r = r' := by rw [Bool.eq_iff_iff]; exact q1.trans q2.symm
  refine Ev.bind e1 (Ev.bind e2 ?_)
  cases r with
  | false =>
    obtain ⟨r3, e3, q3⟩ := impl_place [] 0 [] (by simp)
    obtain rfl : r3 = false := by
      cases r3 with
      | false => rfl
      | true => have := (q3.1 rfl).st.k3; omega
    refine Ev.congr (fun k => by rw [if_neg (by simp), if_neg (by simp)]) (Ev.bind e3 ?_)
    refine Ev.congr (fun k => by rw [if_neg (by simp)]) (Ev.bind ev_alive (Ev.now _))
  | true =>
    have hp := q1.1 rfl
    have hl := hp.nt.lo
    obtain ⟨r3, e3, q3⟩ := impl_place net kinds (List.replicate (net.length : Int).toNat 0) (by simp; omega)
    obtain rfl : r3 = true := by
      refine q3.2 ⟨hp.nt, ⟨fun i h0 h1 => ?_, hp.st.k3, hp.st.k5, by simpa using hl, by simpa using hn⟩, by simp⟩
      have : rd (List.replicate (net.length : Int).toNat 0) i = 0 := by
        unfold rd
        rw [List.getD_eq_getElem?_getD, List.getElem?_replicate]
        split <;> rfl
      rw [this]; have := hp.st.k3; omega
    refine Ev.congr (fun k => by dsimp only; rw [if_neg (by simp), if_pos rfl, if_pos (by omega), if_pos (by omega)]) (Ev.bind e3 ?_)
    by_cases c5 : kinds ≥ 5
    · exact Ev.congr (fun k => by rw [if_pos rfl, if_pos c5]) (Ev.bind ev_alive (Ev.now _))
    · have h3 := hp.st.k3
      have ew : wrap64 (kinds + 1) = kinds + 1 := wr (by omega) (by omega)
      obtain ⟨r4, e4, q4⟩ := impl_place net (kinds + 1) st (by omega)
      obtain rfl : r4 = true := q4.2 ⟨hp.nt, ⟨fun i h0 h1 => by have := hp.st.rng i h0 h1; omega, by omega, by omega, hp.st.lo, hp.st.hi⟩, hp.len⟩
      refine Ev.congr (fun k => by rw [if_pos rfl, if_neg c5, ew]) (Ev.bind e4 ?_)
      exact Ev.congr (fun k => by rw [if_pos rfl]) (Ev.bind ev_alive (Ev.now _))
end Go.Proofs.Yteibjlghlbkcoaa.Pure
