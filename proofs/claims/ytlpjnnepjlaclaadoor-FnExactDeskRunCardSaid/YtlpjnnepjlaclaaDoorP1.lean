/- Texts of the proof, joined: Plain laws of numbers and lists. -/
import Derived.Test.YtlpjnnepjlaclaaDoorP0
set_option linter.unusedVariables false
set_option linter.unusedSimpArgs false
set_option linter.unusedSectionVars false
/-! Desks: sizes, copies, comparisons, marks. -/
namespace FN
open Go
theorem szPlaceS_loop (l : List Pl) (hl : l.length ≤ 1048576) (hs : ∀ p ∈ l, smP 9223372036854775807 p) : ∀ i, i ≤ l.length → ∀ x : Int, 0 ≤ x → x ≤ 1048576 →
    w_szPlaceS_l0 l x (i : Int) = some (-1) ∨ ∃ y : Int, w_szPlaceS_l0 l x (i : Int) = some y ∧ 0 ≤ y ∧ y ≤ x ∧ ∀ j, i ≤ j → j < l.length → smP 1048576 (l.getD j ([], 0, [])) := by
  refine advN ?_ fun i hi ih => ?_
  · intro x h0 h1
    right
    rw [w_szPlaceS_l0_eq, cnd_f (by omega)]
    exact ⟨x, rfl, h0, Int.le_refl x, fun j h1 h2 => by omega⟩
  · intro x h0 h1
    rw [w_szPlaceS_l0_eq, cnd_t (by omega), if_pos (inN hi), gP, w1 hi (by omega)]
    have hm := hs _ (getD_mem (d := ([], 0, [])) hi)
    generalize hp : l.getD i ([], 0, []) = p at hm ⊢
    obtain ⟨a, k, b⟩ := p
    obtain ⟨ha, hb⟩ := hm
    have ha : a.length ≤ 9223372036854775807 := ha
    have hb : b.length ≤ 9223372036854775807 := hb
    rcases szPlace_val a k b x ha hb h0 h1 with h | ⟨h, hle⟩
    · left; rw [h, Option.bind_some, cnd_t (show (-1 : Int) < 0 by omega)]
    · rw [h, Option.bind_some, cnd_f (show ¬ (x - a.length - b.length < 0) by omega)]
      rcases ih (x - a.length - b.length) (by omega) (by omega) with h2 | ⟨y, h2, h3, h4, h5⟩
      · exact .inl h2
      · refine .inr ⟨y, h2, h3, by omega, fun j hj hjl => ?_⟩
        by_cases e : j = i
        · subst e; rw [hp]; exact ⟨show a.length ≤ 1048576 by omega, show b.length ≤ 1048576 by omega⟩
        · exact h5 j (by omega) hjl
theorem szPlaceS_val (l : List Pl) (hl : l.length ≤ 9223372036854775807) (hs : ∀ p ∈ l, smP 9223372036854775807 p) (x : Int) (h0 : 0 ≤ x) (h1 : x ≤ 1048576) :
    w_szPlaceS_f (l, x) = some (-1) ∨ ∃ y : Int, w_szPlaceS_f (l, x) = some y ∧ 0 ≤ y ∧ y ≤ x ∧ (l.length : Int) ≤ x ∧ ∀ p ∈ l, smP 1048576 p := by
  rw [w_szPlaceS_f_eq, i64w (n := x - (l.length : Int)) (by omega) (by omega)]
  by_cases c : x - (l.length : Int) < 0
  · left; rw [cnd_t c]
  · rw [cnd_f c]
    rcases szPlaceS_loop l (by omega) hs 0 (by omega) (x - (l.length : Int)) (by omega) (by omega) with h | ⟨y, h2, h3, h4, h5⟩
    · exact .inl h
    · refine .inr ⟨y, h2, h3, by omega, by omega, fun p hp => ?_⟩
      obtain ⟨j, hj, rfl⟩ := List.getElem_of_mem hp
      have := h5 j (by omega) hj
      rwa [List.getD_eq_getElem?_getD, List.getElem?_eq_getElem hj] at this
theorem szDesk_val (a : List Int) (k : Int) (b : List Int) (l : List Pl) (ha : a.length ≤ 9223372036854775807) (hb : b.length ≤ 9223372036854775807) (hl : l.length ≤ 9223372036854775807) (hs : ∀ p ∈ l, smP 9223372036854775807 p) :
    (w_szDesk_f (a, k, b, l, 1048576) = some (-1)) ∨ ∃ y : Int, w_szDesk_f (a, k, b, l, 1048576) = some y ∧ 0 ≤ y ∧ y ≤ 1048576 ∧ a.length ≤ 1048576 ∧ b.length ≤ 1048576 ∧ l.length ≤ 1048576 ∧ ∀ p ∈ l, smP 1048576 p := by
  rw [w_szDesk_f_eq]
  rcases szPlace_val a k b 1048576 ha hb (by omega) (by omega) with h | ⟨h, hle⟩
  · left; rw [h, Option.bind_some, cnd_t (show (-1 : Int) < 0 by omega)]
  · rw [h, Option.bind_some, cnd_f (show ¬ ((1048576 : Int) - a.length - b.length < 0) by omega)]
    rcases szPlaceS_val l hl hs ((1048576 : Int) - a.length - b.length) (by omega) (by omega) with h2 | ⟨y, h2, h3, h4, h5, h6⟩
    · left; rw [h2, Option.bind_some, cnd_t (show (-1 : Int) < 0 by omega)]
    · right
      rw [h2, Option.bind_some, cnd_f (show ¬ (y < 0) by omega)]
      exact ⟨y, rfl, h3, by omega, by omega, by omega, by omega, h6⟩
theorem toPlaceS_loop (a : List Pl) (ha : a.length ≤ 1048576) (hs : ∀ p ∈ a, smP 1048576 p) : ∀ i, i ≤ a.length → ∀ b : List Pl, b.length = a.length → (∀ j, j < i → b[j]? = a[j]?) → w_toPlaceS_l0 a (i : Int) b = some a := by
  refine advN ?_ fun i hi ih => ?_
  · intro b hb he
    rw [w_toPlaceS_l0_eq, cnd_f (by omega)]
    congr 1
    apply List.ext_getElem?
    intro j
    rcases Nat.lt_or_ge j a.length with h | h
    · exact he j h
    · rw [List.getElem?_eq_none (by omega), List.getElem?_eq_none (by omega)]
  · intro b hb he
    have hm := hs _ (getD_mem (d := ([], 0, [])) hi)
    rw [w_toPlaceS_l0_eq, cnd_t (by omega), if_pos (inN hi), gP, toPlace_val _ _ _ hm.1 hm.2, Option.bind_some, if_pos ⟨by omega, by omega⟩, w1 hi (by omega), Int.toNat_natCast]
    exact ih _ (by simp [hb]) (set_copy a b i ([], 0, []) hi hb he)
theorem toPlaceS_val (a : List Pl) (ha : a.length ≤ 1048576) (hs : ∀ p ∈ a, smP 1048576 p) : w_toPlaceS_f a = some a := by
  rw [w_toPlaceS_f_eq, if_pos ⟨by omega, by omega, by omega⟩]
  exact toPlaceS_loop a ha hs 0 (by omega) _ (by simp) (fun j hj => by omega)
theorem toDesk_val (a : List Int) (k : Int) (b : List Int) (l : List Pl) (ha : a.length ≤ 1048576) (hb : b.length ≤ 1048576) (hl : l.length ≤ 1048576) (hs : ∀ p ∈ l, smP 1048576 p) : w_toDesk_f (a, k, b, l) = some (a, k, b, l) := by
  rw [w_toDesk_f_eq, toPlace_val a k b ha hb, Option.bind_some, toPlaceS_val l hl hs, Option.bind_some]
theorem eqPlaceS_loop (a b : List Pl) (ha : a.length ≤ 4611686018427387904) (hb : a.length = b.length) (hs : ∀ p ∈ a, smP 4611686018427387904 p) (hs' : ∀ p ∈ b, smP 4611686018427387904 p) : ∀ i, i ≤ a.length →
    Tells (w_eqPlaceS_l0 a b (i : Int)) (∀ j, i ≤ j → j < a.length → a.getD j ([], 0, []) = b.getD j ([], 0, [])) := by
  refine advN ?_ fun i hi ih => ?_
  · rw [w_eqPlaceS_l0_eq, cnd_f (by omega)]
    exact Tells.yes fun j h1 h2 => by omega
  · have h1 := hs _ (getD_mem (d := ([], 0, [])) hi)
    have h2 := hs' _ (getD_mem (l := b) (i := i) (d := ([], 0, [])) (by omega))
    rw [w_eqPlaceS_l0_eq, cnd_t (by omega), if_pos (inN hi), if_pos ⟨by omega, by omega⟩, gP, gP, w1 hi (by omega), eqPlace_val _ _ _ _ _ _ h1.1 h2.1 h1.2 h2.2, Option.bind_some]
    by_cases c : a.getD i ([], 0, []) = b.getD i ([], 0, [])
    · rw [decide_eq_true (by rw [c]; exact ⟨rfl, rfl, rfl⟩)]
      refine ih.iff ⟨fun h j h1 h2 => ?_, fun h j h1 h2 => h j (by omega) h2⟩
      by_cases e : j = i
      · rw [e]; exact c
      · exact h j (by omega) h2
    · rw [decide_eq_false (fun h => c (Prod.ext h.1 (Prod.ext h.2.1 h.2.2)))]
      exact Tells.no fun h => c (h i (Nat.le_refl i) hi)
theorem ext_getDP {α : Type} (d : α) (a b : List α) (h : a.length = b.length) (he : ∀ j, j < a.length → a.getD j d = b.getD j d) : a = b := by
  apply List.ext_getElem h
  intro i h1 h2
  have := he i h1
  simpa [List.getD_eq_getElem?_getD, List.getElem?_eq_getElem h1, List.getElem?_eq_getElem h2] using this
theorem eqPlaceS_val (a b : List Pl) (ha : a.length ≤ 4611686018427387904) (hs : ∀ p ∈ a, smP 4611686018427387904 p) (hs' : ∀ p ∈ b, smP 4611686018427387904 p) : w_eqPlaceS_f (a, b) = some (decide (a = b)) := by
  apply Tells.val
  rw [w_eqPlaceS_f_eq]
  by_cases h : a.length = b.length
  · rw [bne_f (by omega)]
    exact (eqPlaceS_loop a b ha h hs hs' 0 (by omega)).iff ⟨fun k => ext_getDP _ a b h fun j hj => k j (by omega) hj, fun k j _ _ => by rw [k]⟩
  · rw [bne_t (by omega)]; exact Tells.no fun k => h (by rw [k])
theorem eqDesk_val (a : List Int) (k : Int) (b : List Int) (l : List Pl) (a' : List Int) (k' : Int) (b' : List Int) (l' : List Pl) (h1 : a.length ≤ 4611686018427387904) (h2 : a'.length ≤ 4611686018427387904) (h3 : b.length ≤ 4611686018427387904) (h4 : b'.length ≤ 4611686018427387904)
    (hl : l.length ≤ 4611686018427387904) (hs : ∀ p ∈ l, smP 4611686018427387904 p) (hs' : ∀ p ∈ l', smP 4611686018427387904 p) : w_eqDesk_f (a, k, b, l, a', k', b', l') = some (decide (a = a' ∧ k = k' ∧ b = b' ∧ l = l')) := by
  apply Tells.val
  rw [w_eqDesk_f_eq, eqPlace_val _ _ _ _ _ _ h1 h2 h3 h4, Option.bind_some]
  by_cases c1 : a = a' ∧ k = k' ∧ b = b'
  · rw [decide_eq_true c1]
    obtain ⟨rfl, rfl, rfl⟩ := c1
    rw [eqPlaceS_val _ _ hl hs hs']
    show Tells (Option.bind (some _) _) _
    rw [Option.bind_some]
    by_cases c : l = l'
    · rw [decide_eq_true c]; exact Tells.yes ⟨rfl, rfl, rfl, c⟩
    · rw [decide_eq_false c]; exact Tells.no fun h => c h.2.2.2
  · rw [decide_eq_false c1]
    exact Tells.no fun h => c1 ⟨h.1, h.2.1, h.2.2.1⟩
theorem smP.le {n m : Nat} (h : n ≤ m) {p : Pl} (k : smP n p) : smP m p := ⟨Nat.le_trans k.1 h, Nat.le_trans k.2 h⟩
theorem toDeed_val (K A B : Int) : w_toDeed_f (K, A, B) = some (K, A, B) := by rw [w_toDeed_f_eq]
theorem szPl_le (n : Nat) : ∀ l : List Pl, (∀ p ∈ l, smP n p) → szPl l ≤ (l.length : Int) * (2 * (n : Int) + 1)
  | [], _ => by simp [szPl]
  | p :: l, h => by
    have h1 := h p (by simp)
    have h2 := szPl_le n l fun q hq => h q (by simp [hq])
    simp only [szPl, List.length_cons]
    have h3 := h1.1
    have h4 := h1.2
    have e : ((l.length + 1 : Nat) : Int) * (2 * (n : Int) + 1) = (l.length : Int) * (2 * (n : Int) + 1) + (2 * (n : Int) + 1) := by rw [Int.natCast_add, Int.add_mul]; simp
    omega
theorem markPl_get : ∀ (l : List Pl) (k : Int) (i : Nat), i < l.length → (markPl k l).getD i ([], 0, []) = (markL (k + szPl (l.take i)) (l.getD i ([], 0, [])).1, k + szPl (l.take i) + ((l.getD i ([], 0, [])).1.length : Int), markL (k + szPl (l.take i) + ((l.getD i ([], 0, [])).1.length : Int) + 1) (l.getD i ([], 0, [])).2.2)
  | p :: l, k, 0, _ => by simp [markPl, szPl]
  | p :: l, k, i + 1, h => by
    have := markPl_get l (k + (p.1.length : Int) + 1 + (p.2.2.length : Int)) i (by simpa using h)
    simp only [markPl, List.getD_cons_succ, this, List.take_succ_cons, szPl]
    rw [show k + (p.1.length : Int) + 1 + (p.2.2.length : Int) + szPl (l.take i) = k + ((p.1.length : Int) + 1 + (p.2.2.length : Int) + szPl (l.take i)) by omega]
theorem szPl_take : ∀ (l : List Pl) (i : Nat), i < l.length → szPl (l.take (i + 1)) = szPl (l.take i) + ((l.getD i ([], 0, [])).1.length : Int) + 1 + ((l.getD i ([], 0, [])).2.2.length : Int)
  | p :: l, 0, _ => by simp [szPl]
  | p :: l, i + 1, h => by
    have := szPl_take l i (by simpa using h)
    simp only [List.take_succ_cons, szPl, List.getD_cons_succ, this]
    omega
theorem szPl_mono (l : List Pl) (i : Nat) : szPl (l.take i) ≤ szPl l := by
  have : ∀ (l : List Pl) (i : Nat), szPl (l.take i) ≤ szPl l := by
    intro l
    induction l with
    | nil => intro i; simp [szPl]
    | cons p l ih =>
      intro i
      cases i with
      | zero => have := szPl_nn l; simp only [List.take_zero, szPl]; omega
      | succ i => have := ih i; simp only [List.take_succ_cons, szPl]; omega
  exact this l i
theorem heldPlaceS_val (l : List Pl) (k : Int) (hk : 0 ≤ k) (hk' : k + szPl l ≤ 4611686018427387904) (hl : l.length ≤ 4611686018427387904) : w_heldPlaceS_f (markPl k l, k) = some (k + szPl l) := by
  have main : ∀ i, i ≤ l.length → w_heldPlaceS_l0 (markPl k l) (k + szPl (l.take i)) (i : Int) = some (k + szPl l) := by
    refine advN ?_ fun i hi ih => ?_
    · rw [w_heldPlaceS_l0_eq, markPl_len, cnd_f (by omega), List.take_length]
    · have h0 := szPl_nn (l.take i)
      have h1 := szPl_mono l (i + 1)
      have h2 := szPl_take l i hi
      have hm := markPl_get l k i hi
      have key : ∀ s S x y : Int, 0 ≤ s → s + x + 1 + y ≤ S → 0 ≤ x → 0 ≤ y → k + S ≤ 4611686018427387904 → (0 ≤ k + s ∧ k + s + x ≤ 4611686018427387904 ∧ 0 ≤ k + s + x ∧ (-9223372036854775808 ≤ k + s + x + 1 ∧ k + s + x + 1 ≤ 9223372036854775807) ∧ 0 ≤ k + s + x + 1 ∧ k + s + x + 1 + y ≤ 4611686018427387904 ∧ 0 ≤ k + s + x + 1 + y) := by
        intro s S x y h1 h2 h3 h4 h5
        omega
      obtain ⟨b1, b2, b3, b4, b5, b6, b7⟩ := key (szPl (l.take i)) (szPl l) ((l.getD i ([], 0, [])).1.length : Int) ((l.getD i ([], 0, [])).2.2.length : Int) h0 (by rw [← h2]; exact h1) (Int.natCast_nonneg _) (Int.natCast_nonneg _) hk'
      rw [w_heldPlaceS_l0_eq, markPl_len, cnd_t (by omega), if_pos (inN hi), gP, hm]
      simp only
      rw [held_val (l.getD i ([], 0, [])).1 (k + szPl (l.take i)) b1 b2, Option.bind_some, cnd_f (Int.not_lt.2 b3), if_pos (inN hi), bne_f rfl, if_pos (inN hi), i64w b4.1 b4.2, held_val (l.getD i ([], 0, [])).2.2 (k + szPl (l.take i) + ((l.getD i ([], 0, [])).1.length : Int) + 1) b5 b6, Option.bind_some, cnd_f (Int.not_lt.2 b7), w1 hi (by omega)]
      rw [h2] at ih
      have key2 : ∀ s x y : Int, k + s + x + 1 + y = k + (s + x + 1 + y) := by
        intro s x y
        omega
      rw [key2]
      exact ih
  rw [w_heldPlaceS_f_eq]
  have := main 0 (by omega)
  simpa [szPl] using this
theorem heldDesk_val (a b : List Int) (x : Int) (l : List Pl) (h : (a.length : Int) + b.length ≤ 1000000000) (hl : szPl l ≤ 1000000000) (hl' : l.length ≤ 1000000000) :
    w_heldDesk_f (markL 1 a, x, markL (1 + (a.length : Int)) b, markPl (1 + (a.length : Int) + (b.length : Int)) l, 1) = some (1 + (a.length : Int) + (b.length : Int) + szPl l) := by
  have h0 := szPl_nn l
  have key : ∀ S A B : Int, 0 ≤ A → 0 ≤ B → 0 ≤ S → S ≤ 1000000000 → A + B ≤ 1000000000 → (0 ≤ 1 + A + B ∧ 1 + A + B + S ≤ 4611686018427387904 ∧ 0 ≤ 1 + A + B + S) := by
    intro S A B h1 h2 h3 h4 h5
    omega
  obtain ⟨b1, b2, b3⟩ := key (szPl l) (a.length : Int) (b.length : Int) (Int.natCast_nonneg _) (Int.natCast_nonneg _) h0 hl h
  rw [w_heldDesk_f_eq, heldPlace_val a b x h, Option.bind_some, cnd_f (Int.not_lt.2 b1), heldPlaceS_val l (1 + (a.length : Int) + (b.length : Int)) b1 b2 (by omega), Option.bind_some, cnd_f (Int.not_lt.2 b3)]
end FN
/-! The law FnExactDeskDo. -/
namespace FN
open Go
theorem small_sz {d : Dk} (h : DkOk d) : (d.1.length : Int) + d.2.2.1.length ≤ 1000 ∧ szPl d.2.2.2 ≤ 1000 ∧ d.2.2.2.length ≤ 8 ∧ ∀ p ∈ d.2.2.2, smP 6 p := by
  have hm := PlP.sm h.2.1
  have h8 := h.2.2
  have hs : ∀ p ∈ d.2.2.2, smP 6 p := fun p hp => PlP.sm (h.1 p hp)
  have := szPl_le 6 d.2.2.2 hs
  exact ⟨by omega, by omega, h8, hs⟩
/-- What the program and the reference answer. -/
theorem both_do (a : List Int) (k : Int) (b : List Int) (l : List Pl) (K A B : Int) (hb : b.length ≤ 4611686018427387904) (hl : l.length ≤ 4611686018427387904) (hs : ∀ p ∈ l, smP 4611686018427387904 p) :
    ∃ (d : Dk) (t : Bool), s_DeskDo_f (a, k, b, l, K, A, B) = some (d.1, d.2.1, d.2.2.1, d.2.2.2, t) ∧ i_DeskDo_f (a, k, b, l, K, A, B) = some (d.1, d.2.1, d.2.2.1, d.2.2.2, t) ∧ (d.1.length : Int) + d.2.2.1.length ≤ 1000 ∧ szPl d.2.2.2 ≤ 1000 ∧ d.2.2.2.length ≤ 8 ∧ ∀ p ∈ d.2.2.2, smP 6 p := by
  by_cases h : DkP a k b l
  · have hk : DkOk (a, k, b, l) := h
    have hD := doV_ok hk (K, A, B)
    exact ⟨(doV (a, k, b, l) (K, A, B)).1, (doV (a, k, b, l) (K, A, B)).2, do_val hk (K, A, B), ido_val hk (K, A, B), small_sz hD⟩
  · refine ⟨([], 0, [], []), false, ?_, ?_, by simp, by simp [szPl], by simp, by simp⟩
    · rw [s_DeskDo_f_eq, sdesk a k b l hb hl hs, Option.bind_some, decide_eq_false h]; rfl
    · rw [i_DeskDo_f_eq, idesk a k b l hb hl hs, Option.bind_some, decide_eq_false h]; rfl
theorem eqDesk_self (a : List Int) (k : Int) (b : List Int) (l : List Pl) (ha : a.length ≤ 4611686018427387904) (hb : b.length ≤ 4611686018427387904) (hl : l.length ≤ 4611686018427387904) (hs : ∀ p ∈ l, smP 4611686018427387904 p) : w_eqDesk_f (a, k, b, l, a, k, b, l) = some true := by
  rw [eqDesk_val a k b l a k b l ha ha hb hb hl hs hs, decide_eq_true ⟨rfl, rfl, rfl, rfl⟩]
theorem mark_ok (a b : Nat) (S : Int) (ha : a ≤ 1048576) (hb : b ≤ 1048576) (h0 : 0 ≤ S) (h1 : S ≤ 4000000000000) : ((0 : Int) ≤ 1 ∧ 1 + (a : Int) ≤ 4611686018427387904) ∧ ((0 : Int) ≤ 1 + (a : Int) ∧ 1 + (a : Int) + (b : Int) ≤ 4611686018427387904) ∧ ((0 : Int) ≤ 1 + (a : Int) + (b : Int) ∧ 1 + (a : Int) + (b : Int) + S ≤ 4611686018427387904) ∧ ¬ (1 + (a : Int) + (b : Int) + S < 0) := by
  omega
theorem FnExactDeskDo_true (x : Ts w_FnExactDeskDo_sig.pc) (hw : WfTs w_FnExactDeskDo_sig.pc x) : w_FnExactDeskDo_f x = some true := by
  obtain ⟨a, k, b, l, K, A, B⟩ := x
  obtain ⟨⟨ha, _⟩, _, ⟨hb, _⟩, ⟨hl, hs⟩, _, _, _⟩ := hw
  have ha : a.length ≤ 9223372036854775807 := ha
  have hb : b.length ≤ 9223372036854775807 := hb
  have hl : l.length ≤ 9223372036854775807 := hl
  have hs : ∀ p ∈ l, smP 9223372036854775807 p := fun p hp => ⟨(hs p hp).1.1, (hs p hp).2.2.1⟩
  rw [w_FnExactDeskDo_f_eq]
  rcases szDesk_val a k b l ha hb hl hs with h | ⟨y, h, h0, h1, h2, h3, h4, h5⟩
  · rw [h, Option.bind_some, cnd_t (show (-1 : Int) < 0 by omega)]
  · have hs' : ∀ p ∈ l, smP 4611686018427387904 p := fun p hp => (h5 p hp).le (by omega)
    have hz := szPl_le 1048576 l h5
    have hz0 := szPl_nn l
    have hz1 : (l.length : Int) * (2 * ((1048576 : Nat) : Int) + 1) ≤ 1048576 * (2 * ((1048576 : Nat) : Int) + 1) := Int.mul_le_mul_of_nonneg_right (by omega) (by omega)
    obtain ⟨d, t, e1, e2, d1, d2, d3, d4⟩ := both_do a k b l K A B (by omega) (by omega) hs'
    have d5 := szPl_nn d.2.2.2
    have d4' : ∀ p ∈ d.2.2.2, smP 4611686018427387904 p := fun p hp => (d4 p hp).le (by omega)
    have td := toDesk_val a k b l h2 h3 h4 h5
    have eg := eqDesk_self d.1 d.2.1 d.2.2.1 d.2.2.2 (by omega) (by omega) (by omega) d4'
    have ea := eqDesk_self a k b l (by omega) (by omega) (by omega) hs'
    have hh := heldDesk_val d.1 d.2.2.1 d.2.1 d.2.2.2 (by omega) (by omega) (by omega)
    rw [h, Option.bind_some, cnd_f (show ¬ (y < 0) by omega), td]
    simp only [Option.bind_some]
    rw [toDeed_val]
    simp only [Option.bind_some]
    rw [e1]
    simp only [Option.bind_some]
    rw [e2]
    simp only [Option.bind_some]
    rw [eg]
    simp only [Option.bind_some, Bool.not_true, cond_false, beq_self_eq_true]
    rw [ea]
    simp only [Option.bind_some, Bool.not_true, cond_false]
    have hz9 : szPl l ≤ 4000000000000 := Int.le_trans hz (Int.le_trans hz1 (by decide))
    obtain ⟨m1, m2, m3, m4⟩ := mark_ok a.length b.length (szPl l) h2 h3 hz0 hz9
    obtain ⟨n1, n2, n3, n4⟩ := mark_ok d.1.length d.2.2.1.length (szPl d.2.2.2) (by omega) (by omega) d5 (Int.le_trans d2 (by decide))
    rw [if_pos m1, if_pos m2, if_pos m3, cnd_f m4, if_pos n1, if_pos n2, if_pos n3, hh]
    simp only [Option.bind_some]
    rw [cnd_f n4, bne_f rfl]
    try rw [cnd_f n4, bne_f rfl]
end FN
namespace FN
open Go
theorem run_same (a : List Int) (k : Int) (b : List Int) (l : List Pl) (ds : List Dd3) (hb : b.length ≤ 4611686018427387904) (hl : l.length ≤ 4611686018427387904) (hs : ∀ p ∈ l, smP 4611686018427387904 p) : i_DeskRun_f (a, k, b, l, ds) = s_DeskRun_f (a, k, b, l, ds) := by
  rw [i_DeskRun_f_eq, s_DeskRun_f_eq, idesk a k b l hb hl hs, sdesk a k b l hb hl hs, Option.bind_some, Option.bind_some]
  by_cases h : DkP a k b l
  · rw [decide_eq_true h, Bool.not_true, cond_false, cond_false]
    by_cases c : (40 : Int) < (ds.length : Int)
    · rw [cnd_t c, cnd_t c]
    · rw [cnd_f c, cnd_f c, doAll_same h ds (by omega)]
  · rw [decide_eq_false h, Bool.not_false, cond_true, cond_true]
end FN
/-! The law FnExactDeskRun. -/
namespace FN
open Go
theorem set_copyX {α : Type} (a b : List α) (i : Nat) (d : α) (hi : i < a.length) (hb : b.length = a.length) (he : ∀ j, j < i → b[j]? = a[j]?) : ∀ j, j < i + 1 → (b.set i (a.getD i d))[j]? = a[j]? := by
  intro j hj
  by_cases e : j = i
  · subst e
    rw [List.getElem?_set_self (by omega), List.getD_eq_getElem?_getD, List.getElem?_eq_getElem hi]
    rfl
  · rw [List.getElem?_set_ne (Ne.symm e)]
    exact he j (by omega)
theorem toDeedS_loop (a : List Dd3) (ha : a.length ≤ 1048576) : ∀ i, i ≤ a.length → ∀ b : List Dd3, b.length = a.length → (∀ j, j < i → b[j]? = a[j]?) → w_toDeedS_l0 a (i : Int) b = some a := by
  refine advN ?_ fun i hi ih => ?_
  · intro b hb he
    rw [w_toDeedS_l0_eq, cnd_f (by omega)]
    congr 1
    apply List.ext_getElem?
    intro j
    rcases Nat.lt_or_ge j a.length with h | h
    · exact he j h
    · rw [List.getElem?_eq_none (by omega), List.getElem?_eq_none (by omega)]
  · intro b hb he
    rw [w_toDeedS_l0_eq, cnd_t (by omega), if_pos (inN hi), w_toDeed_f_eq, Option.bind_some, if_pos ⟨by omega, by omega⟩, w1 hi (by omega), gD3, Int.toNat_natCast]
    exact ih _ (by simp [hb]) (set_copyX a b i (0, 0, 0) hi hb he)
theorem toDeedS_val (a : List Dd3) (ha : a.length ≤ 1048576) : w_toDeedS_f a = some a := by
  rw [w_toDeedS_f_eq, if_pos ⟨by omega, by omega, by omega⟩]
  exact toDeedS_loop a ha 0 (by omega) _ (by simp) (fun j hj => by omega)
theorem eqDeedS_loop (a : List Dd3) (ha : a.length ≤ 1048576) : ∀ i, i ≤ a.length → w_eqDeedS_l0 a a (i : Int) = some true := by
  refine advN ?_ fun i hi ih => ?_
  · rw [w_eqDeedS_l0_eq, cnd_f (by omega)]
  · rw [w_eqDeedS_l0_eq, cnd_t (by omega), if_pos (inN hi), if_pos (inN hi), w_eqDeed_f_eq, bne_f rfl, bne_f rfl, bne_f rfl, w1 hi (by omega)]
    exact ih
theorem eqDeedS_refl (a : List Dd3) (ha : a.length ≤ 1048576) : w_eqDeedS_f (a, a) = some true := by
  rw [w_eqDeedS_f_eq, bne_f rfl]
  exact eqDeedS_loop a ha 0 (by omega)
theorem both_run (a : List Int) (k : Int) (b : List Int) (l : List Pl) (ds : List Dd3) (hb : b.length ≤ 4611686018427387904) (hl : l.length ≤ 4611686018427387904) (hs : ∀ p ∈ l, smP 4611686018427387904 p) :
    ∃ (d : Dk) (n : Int), s_DeskRun_f (a, k, b, l, ds) = some (d.1, d.2.1, d.2.2.1, d.2.2.2, n) ∧ i_DeskRun_f (a, k, b, l, ds) = some (d.1, d.2.1, d.2.2.1, d.2.2.2, n) ∧ (d.1.length : Int) + d.2.2.1.length ≤ 1000 ∧ szPl d.2.2.2 ≤ 1000 ∧ d.2.2.2.length ≤ 8 ∧ ∀ p ∈ d.2.2.2, smP 6 p := by
  rw [← run_same a k b l ds hb hl hs]
  have hid := idesk a k b l hb hl hs
  have none_ : ∃ (d : Dk) (n : Int), some (([] : List Int), (0 : Int), ([] : List Int), ([] : List Pl), (0 : Int)) = some (d.1, d.2.1, d.2.2.1, d.2.2.2, n) ∧ some (([] : List Int), (0 : Int), ([] : List Int), ([] : List Pl), (0 : Int)) = some (d.1, d.2.1, d.2.2.1, d.2.2.2, n) ∧ (d.1.length : Int) + d.2.2.1.length ≤ 1000 ∧ szPl d.2.2.2 ≤ 1000 ∧ d.2.2.2.length ≤ 8 ∧ ∀ p ∈ d.2.2.2, smP 6 p :=
    ⟨([], 0, [], []), 0, rfl, rfl, by simp, by simp [szPl], by simp, by simp⟩
  rw [i_DeskRun_f_eq, hid, Option.bind_some]
  by_cases h : DkP a k b l
  · rw [decide_eq_true h, Bool.not_true, cond_false]
    by_cases h40 : (40 : Int) < (ds.length : Int)
    · rw [cnd_t h40]; exact none_
    · have hk : DkOk (a, k, b, l) := h
      have hr := irun_val hk ds (by omega)
      simp only at hr
      rw [cnd_f h40, hr, Option.bind_some]
      exact ⟨runV (a, k, b, l) ds, cntV (a, k, b, l) ds, rfl, rfl, small_sz (runV_ok hk ds)⟩
  · rw [decide_eq_false h, Bool.not_false, cond_true]
    exact none_
theorem FnExactDeskRun_true (x : Ts w_FnExactDeskRun_sig.pc) (hw : WfTs w_FnExactDeskRun_sig.pc x) : w_FnExactDeskRun_f x = some true := by
  obtain ⟨a, k, b, l, ds⟩ := x
  obtain ⟨⟨ha, _⟩, _, ⟨hb, _⟩, ⟨hl, hs⟩, hd, _⟩ := hw
  have ha : a.length ≤ 9223372036854775807 := ha
  have hb : b.length ≤ 9223372036854775807 := hb
  have hl : l.length ≤ 9223372036854775807 := hl
  have hd : ds.length ≤ 9223372036854775807 := hd
  have hs : ∀ p ∈ l, smP 9223372036854775807 p := fun p hp => ⟨(hs p hp).1.1, (hs p hp).2.2.1⟩
  rw [w_FnExactDeskRun_f_eq]
  rcases szDesk_val a k b l ha hb hl hs with h | ⟨y, h, h0, h1, h2, h3, h4, h5⟩
  · rw [h, Option.bind_some, cnd_t (show (-1 : Int) < 0 by omega)]
  · rw [h, Option.bind_some, cnd_f (show ¬ (y < 0) by omega), w_szDeedS_f_eq, i64w (by omega) (by omega)]
    by_cases hc : y - (ds.length : Int) < 0
    · rw [cnd_t hc, Option.bind_some, cnd_t (show (-1 : Int) < 0 by omega)]
    · have hds : ds.length ≤ 1048576 := by omega
      rw [cnd_f hc, Option.bind_some, cnd_f hc]
      have hs' : ∀ p ∈ l, smP 4611686018427387904 p := fun p hp => (h5 p hp).le (by omega)
      have hz := szPl_le 1048576 l h5
      have hz0 := szPl_nn l
      have hz1 : (l.length : Int) * (2 * ((1048576 : Nat) : Int) + 1) ≤ 1048576 * (2 * ((1048576 : Nat) : Int) + 1) := Int.mul_le_mul_of_nonneg_right (by omega) (by omega)
      obtain ⟨d, t, e1, e2, d1, d2, d3, d4⟩ := both_run a k b l ds (by omega) (by omega) hs'
      have d5 := szPl_nn d.2.2.2
      have d4' : ∀ p ∈ d.2.2.2, smP 4611686018427387904 p := fun p hp => (d4 p hp).le (by omega)
      have td := toDesk_val a k b l h2 h3 h4 h5
      have eg := eqDesk_self d.1 d.2.1 d.2.2.1 d.2.2.2 (by omega) (by omega) (by omega) d4'
      have ea := eqDesk_self a k b l (by omega) (by omega) (by omega) hs'
      have hh := heldDesk_val d.1 d.2.2.1 d.2.1 d.2.2.2 (by omega) (by omega) (by omega)
      rw [td]
      simp only [Option.bind_some]
      rw [toDeedS_val ds hds]
      simp only [Option.bind_some]
      rw [e1]
      simp only [Option.bind_some]
      rw [e2]
      simp only [Option.bind_some]
      rw [eg]
      simp only [Option.bind_some, Bool.not_true, cond_false, bne_self_eq_false]
      rw [ea]
      simp only [Option.bind_some, Bool.not_true, cond_false]
      rw [eqDeedS_refl ds hds]
      simp only [Option.bind_some, Bool.not_true, cond_false]
      have hz9 : szPl l ≤ 4000000000000 := Int.le_trans hz (Int.le_trans hz1 (by decide))
      obtain ⟨m1, m2, m3, m4⟩ := mark_ok a.length b.length (szPl l) h2 h3 hz0 hz9
      obtain ⟨n1, n2, n3, n4⟩ := mark_ok d.1.length d.2.2.1.length (szPl d.2.2.2) (by omega) (by omega) d5 (Int.le_trans d2 (by decide))
      have m5 : (0 : Int) ≤ 1 + (a.length : Int) + (b.length : Int) + szPl l ∧ 1 + (a.length : Int) + (b.length : Int) + szPl l + 3 * (ds.length : Int) ≤ 4611686018427387904 := by
        have : ∀ S A B D : Int, 0 ≤ A → 0 ≤ B → 0 ≤ D → 0 ≤ S → A ≤ 1048576 → B ≤ 1048576 → D ≤ 1048576 → S ≤ 4000000000000 → 0 ≤ 1 + A + B + S ∧ 1 + A + B + S + 3 * D ≤ 4611686018427387904 := by
          intro S A B D _ _ _ _ _ _ _ _
          omega
        exact this (szPl l) a.length b.length ds.length (Int.natCast_nonneg _) (Int.natCast_nonneg _) (Int.natCast_nonneg _) hz0 (by omega) (by omega) (by omega) hz9
      have m6 : ¬ (1 + (a.length : Int) + (b.length : Int) + szPl l + 3 * (ds.length : Int) < 0) := Int.not_lt.2 (Int.add_nonneg m5.1 (Int.mul_nonneg (by decide) (Int.natCast_nonneg _)))
      rw [if_pos m1, if_pos m2, if_pos m3, if_pos m5, cnd_f m6, if_pos n1, if_pos n2, if_pos n3, hh]
      simp only [Option.bind_some]
      rw [cnd_f n4, bne_f rfl]
      try rw [cnd_f n4, bne_f rfl]
end FN
