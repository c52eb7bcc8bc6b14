/- Texts of the proof, joined: Plain laws of numbers and lists. -/
import Derived.Test.YtbkndbgonbadaaaGreatDoorP0
set_option linter.unusedVariables false
set_option linter.unusedSimpArgs false
set_option linter.unusedSectionVars false
/-! Heights: what the rises alone tell. -/
namespace FN
inductive Rc (A : Nat → Nat → Prop) : Nat → Nat → Prop
  | refl (i : Nat) : Rc A i i
  | step {i j k : Nat} : Rc A i j → A j k → Rc A i k
theorem Rc.trans {A : Nat → Nat → Prop} {i j k : Nat} (h : Rc A i j) (h2 : Rc A j k) : Rc A i k := by
  induction h2 with
  | refl => exact h
  | step _ ha ih => exact .step ih ha
theorem Rc.symm {A : Nat → Nat → Prop} (hs : ∀ i j, A i j → A j i) {i j : Nat} (h : Rc A i j) : Rc A j i := by
  induction h with
  | refl => exact .refl _
  | step _ ha ih => exact (Rc.step (.refl _) (hs _ _ ha)).trans ih
/-- Heights. -/
def Pot (A : Nat → Nat → Prop) (R : Nat → Nat → Int) (p : Nat → Int) : Prop := ∀ i j, A i j → p j = p i + R i j
def LeastN (A : Nat → Nat → Prop) (j : Nat) : Prop := ∀ k, Rc A j k → j ≤ k
theorem least_ex (A : Nat → Nat → Prop) (j : Nat) : ∃ l, Rc A j l ∧ LeastN A l := by
  induction j using Nat.strongRecOn with
  | _ j ih =>
    by_cases h : LeastN A j
    · exact ⟨j, .refl j, h⟩
    · have : ∃ k, Rc A j k ∧ k < j := Classical.byContradiction fun hn => h fun k hk => by
        by_cases hc : k < j
        · exact absurd ⟨k, hk, hc⟩ hn
        · omega
      obtain ⟨k, h1, h2⟩ := this
      obtain ⟨l, h3, h4⟩ := ih k h2
      exact ⟨l, h1.trans h3, h4⟩
theorem Pot.diff {A : Nat → Nat → Prop} {R : Nat → Nat → Int} {p q : Nat → Int} (h : Pot A R p) (k : Pot A R q) {i j : Nat} (r : Rc A i j) : p j - p i = q j - q i := by
  induction r with
  | refl => omega
  | step _ ha ih =>
    have := h _ _ ha
    have := k _ _ ha
    omega
theorem Pot.uniq {A : Nat → Nat → Prop} {R : Nat → Nat → Int} {p q : Nat → Int} (h : Pot A R p) (k : Pot A R q) (hz : ∀ j, LeastN A j → p j = 0) (kz : ∀ j, LeastN A j → q j = 0) (j : Nat) : p j = q j := by
  obtain ⟨l, h1, h2⟩ := least_ex A j
  have := h.diff k h1
  have := hz l h2
  have := kz l h2
  omega
/-- What a search for heights answers. -/
structure Heights (A : Nat → Nat → Prop) (R : Nat → Nat → Int) (n : Nat) (r : List Int × Bool) : Prop where
  yes : r.2 = true → r.1.length = n ∧ Pot A R (fun i => r.1.getD i 0) ∧ ∀ j, LeastN A j → r.1.getD j 0 = 0
  no : r.2 = false → r.1 = [] ∧ ∀ q, ¬ Pot A R q
theorem Heights.uniq {A : Nat → Nat → Prop} {R : Nat → Nat → Int} {n : Nat} {r s : List Int × Bool} (h : Heights A R n r) (k : Heights A R n s) : r = s := by
  obtain ⟨l, b⟩ := r
  obtain ⟨m, c⟩ := s
  cases b with
  | true =>
    obtain ⟨h1, h2, h3⟩ := h.yes rfl
    cases c with
    | true =>
      obtain ⟨k1, k2, k3⟩ := k.yes rfl
      have : l = m := by
        apply List.ext_getElem (h1.trans k1.symm)
        intro i hi hi'
        have := h2.uniq k2 h3 k3 i
        rw [List.getD_eq_getElem?_getD, List.getD_eq_getElem?_getD, List.getElem?_eq_getElem hi, List.getElem?_eq_getElem hi'] at this
        exact this
      rw [this]
    | false => exact absurd h2 ((k.no rfl).2 _)
  | false =>
    obtain ⟨h1, h2⟩ := h.no rfl
    cases c with
    | true => exact absurd (k.yes rfl).2.1 (h2 _)
    | false =>
      have := (k.no rfl).1
      rw [show l = m from h1.trans this.symm]
def Zer (A : Nat → Nat → Prop) (p : Nat → Int) : Prop := ∀ j, LeastN A j → p j = 0
theorem closed_rc {A : Nat → Nat → Prop} {T : Nat → Prop} (hc : ∀ i j, T i → A i j → T j) {i j : Nat} (h : Rc A i j) (hi : T i) : T j := by
  induction h with
  | refl => exact hi
  | step _ ha ih => exact hc _ _ ih ha
theorem norm_ex {A : Nat → Nat → Prop} {R : Nat → Nat → Int} (hs : ∀ i j, A i j → A j i) {q : Nat → Int} (h : Pot A R q) : ∃ p, Pot A R p ∧ Zer A p := by
  refine ⟨fun j => q j - q (Classical.choose (least_ex A j)), fun i j hij => ?_, fun j hj => ?_⟩
  · obtain ⟨i1, i2⟩ := Classical.choose_spec (least_ex A i)
    obtain ⟨j1, j2⟩ := Classical.choose_spec (least_ex A j)
    have e : Classical.choose (least_ex A i) = Classical.choose (least_ex A j) := by
      have c1 := i2 _ (((Rc.symm hs i1).trans (.step (.refl i) hij)).trans j1)
      have c2 := j2 _ (((Rc.symm hs j1).trans (.step (.refl j) (hs _ _ hij))).trans i1)
      omega
    have := h i j hij
    show q j - q _ = q i - q _ + R i j
    rw [e]
    omega
  · obtain ⟨j1, j2⟩ := Classical.choose_spec (least_ex A j)
    have e : Classical.choose (least_ex A j) = j := by
      have c1 := hj _ j1
      have c2 := j2 _ (Rc.symm hs j1)
      omega
    show q j - q _ = 0
    rw [e]
    omega
/-- Between two parts: those that are told are right. -/
structure Opn (A : Nat → Nat → Prop) (R : Nat → Nat → Int) (N f : Nat) (T : Nat → Prop) (out : Nat → Int) : Prop where
  lt : ∀ i, T i → i < N
  cl : ∀ i j, T i → A i j → T j
  low : ∀ k, k < f → T k
  unt : ∀ j, ¬ T j → out j = 0
  val : ∀ p, Pot A R p → Zer A p → ∀ j, T j → out j = p j
  zer : ∀ j, T j → LeastN A j → out j = 0
/-- Within the part of f. -/
structure Cmp (A : Nat → Nat → Prop) (R : Nat → Nat → Int) (N f : Nat) (T0 T : Nat → Prop) (out : Nat → Int) : Prop where
  lt : ∀ i, T i → i < N
  sub : ∀ i, T0 i → T i
  cl0 : ∀ i j, T0 i → A i j → T0 j
  low : ∀ k, k < f → T0 k
  nf : ¬ T0 f
  tf : T f
  rc : ∀ j, T j → ¬ T0 j → Rc A f j
  unt : ∀ j, ¬ T j → out j = 0
  val : ∀ p, Pot A R p → Zer A p → ∀ j, T j → out j = p j
  zer : ∀ j, T j → LeastN A j → out j = 0
section
variable {A : Nat → Nat → Prop} {R : Nat → Nat → Int} {N f : Nat} {T0 T T' : Nat → Prop} {out out' : Nat → Int}
theorem Opn.first (hs : ∀ i j, A i j → A j i) (h : Opn A R N f T out) (hf : ¬ T f) (hN : f < N) (hT : ∀ i, T' i ↔ T i ∨ i = f) : Cmp A R N f T T' out := by
  have hl : LeastN A f := fun k hk => by
    apply Classical.byContradiction
    intro hn
    exact hf (closed_rc h.cl (Rc.symm hs hk) (h.low k (by omega)))
  refine ⟨fun i hi => ?_, fun i hi => (hT i).2 (.inl hi), h.cl, h.low, hf, (hT f).2 (.inr rfl), fun j hj hj0 => ?_, fun j hj => h.unt j fun hh => hj ((hT j).2 (.inl hh)), fun p hp hz j hj => ?_, fun j hj hlj => ?_⟩
  · rcases (hT i).1 hi with hi | hi
    · exact h.lt i hi
    · omega
  · rcases (hT j).1 hj with hj | hj
    · exact absurd hj hj0
    · rw [hj]; exact .refl f
  · rcases (hT j).1 hj with hj | hj
    · exact h.val p hp hz j hj
    · rw [hj, h.unt f hf, hz f hl]
  · rcases (hT j).1 hj with hj | hj
    · exact h.zer j hj hlj
    · rw [hj]; exact h.unt f hf
theorem Cmp.add (hs : ∀ i j, A i j → A j i) (h : Cmp A R N f T0 T out) {i j : Nat} (hi : T i) (hi0 : ¬ T0 i) (hij : A i j) (hj : ¬ T j) (hjN : j < N) (hT : ∀ k, T' k ↔ T k ∨ k = j) (ho : ∀ k, out' k = if k = j then out i + R i j else out k) : Cmp A R N f T0 T' out' := by
  have hne : ∀ k, T k → k ≠ j := fun k hk e => hj (e ▸ hk)
  refine ⟨fun k hk => ?_, fun k hk => (hT k).2 (.inl (h.sub k hk)), h.cl0, h.low, h.nf, (hT f).2 (.inl h.tf), fun k hk hk0 => ?_, fun k hk => ?_, fun p hp hz k hk => ?_, fun k hk hlk => ?_⟩
  · rcases (hT k).1 hk with hk | hk
    · exact h.lt k hk
    · omega
  · rcases (hT k).1 hk with hk | hk
    · exact h.rc k hk hk0
    · rw [hk]; exact .step (h.rc i hi hi0) hij
  · have hkj : k ≠ j := fun e => hk ((hT k).2 (.inr e))
    rw [ho, if_neg hkj]
    exact h.unt k fun hh => hk ((hT k).2 (.inl hh))
  · rcases (hT k).1 hk with hk | hk
    · rw [ho, if_neg (hne k hk)]; exact h.val p hp hz k hk
    · rw [ho, if_pos hk, hk, h.val p hp hz i hi, hp i j hij]
  · rcases (hT k).1 hk with hk | hk
    · rw [ho, if_neg (hne k hk)]; exact h.zer k hk hlk
    · subst hk
      have h1 := hlk f (Rc.symm hs (.step (h.rc i hi hi0) hij))
      have : ¬ k < f := fun hlt => hj (h.sub k (h.low k hlt))
      have : k = f := by omega
      subst this
      exact absurd h.tf hj
theorem Cmp.done (h : Cmp A R N f T0 T out) (hc : ∀ i j, T i → A i j → T j) : Opn A R N (f + 1) T out :=
  ⟨h.lt, hc, fun k hk => by
    by_cases e : k = f
    · rw [e]; exact h.tf
    · exact h.sub k (h.low k (by omega)), h.unt, h.val, h.zer⟩
theorem Opn.next (h : Opn A R N f T out) (hf : T f) : Opn A R N (f + 1) T out :=
  ⟨h.lt, h.cl, fun k hk => by
    by_cases e : k = f
    · rw [e]; exact hf
    · exact h.low k (by omega), h.unt, h.val, h.zer⟩
end
end FN

/-! Heights: the program's and the reference's alike. -/
namespace FN
open Go
def riseV (x y : Int) : Int := if Int.tmod (y - x + 3) 3 = 1 then 1 else if Int.tmod (y - x + 3) 3 = 2 then -1 else 0
theorem riseV_rng (x y : Int) : -1 ≤ riseV x y ∧ riseV x y ≤ 1 := by
  unfold riseV
  split
  · omega
  · split <;> omega
def Adj (a : List Int) (i j : Nat) : Prop := i < a.length ∧ adj a i j
def Rs (b : List Int) (i j : Nat) : Int := riseV (b.getD i 0) (b.getD j 0)
def Td (tl : List Bool) (i : Nat) : Prop := tl.getD i false = true
def Un (tl : List Bool) : Nat := tl.count false
theorem getB_set (z : List Bool) (i k : Nat) (v : Bool) : (z.set i v).getD k false = if k = i ∧ i < z.length then v else z.getD k false := by
  rw [List.getD_eq_getElem?_getD, List.getD_eq_getElem?_getD, List.getElem?_set]
  by_cases h : i = k
  · subst h
    by_cases h2 : i < z.length
    · simp [h2]
    · rw [if_pos rfl, if_neg h2, if_neg (by omega), List.getElem?_eq_none (by omega)]
  · rw [if_neg h, if_neg (by omega)]
theorem Td_set {tl : List Bool} {j : Nat} (hj : j < tl.length) (k : Nat) : Td (tl.set j true) k ↔ Td tl k ∨ k = j := by
  unfold Td
  rw [getB_set]
  by_cases e : k = j
  · rw [if_pos ⟨e, hj⟩]; simp [e]
  · rw [if_neg (fun hh => e hh.1)]; simp [e]
theorem Un_set {tl : List Bool} {j : Nat} (hj : j < tl.length) (h : ¬ Td tl j) : Un (tl.set j true) + 1 = Un tl := by
  unfold Un
  have hg : tl[j] = false := by
    unfold Td at h
    rw [List.getD_eq_getElem?_getD, List.getElem?_eq_getElem hj] at h
    simpa using h
  have hpos : 0 < tl.count false := List.count_pos_iff.2 (by rw [← hg]; exact List.getElem_mem hj)
  rw [List.count_set hj, hg]
  simp
  omega
theorem Un_le (tl : List Bool) : Un tl ≤ tl.length := List.count_le_length
/-- What is asked of an answer. -/
def HG (a b : List Int) (g : Option (List Int × Bool)) : Prop := ∃ r, g = some r ∧ Heights (Adj a) (Rs b) a.length r ∧ ∀ v ∈ r.1, -6 ≤ v ∧ v ≤ 6
section
variable {a b : List Int} (h : PlP a 3 b)
include h
theorem Adj_sym {i j : Nat} (hh : Adj a i j) : Adj a j i := ⟨adj_lt h.1 hh.1 hh.2, adj_sym h.1 hh.1 hh.2⟩
theorem i_rise_val {i j : Nat} (hi : i < b.length) (hj : j < b.length) : i_rise_f (b, (i : Int), (j : Int)) = some (Rs b i j) := by
  have h1 := h.2.1.1 i hi
  have h2 := h.2.1.1 j hj
  rw [i_rise_f_eq, if_pos (inN hj), if_pos (inN hi), gN, gN, i64w (n := b.getD j 0 - b.getD i 0) (by omega) (by omega), i64w (by omega) (by omega)]
  unfold Rs riseV
  by_cases c1 : Int.tmod (b.getD j 0 - b.getD i 0 + 3) 3 = 1
  · rw [beq_t c1, if_pos c1]
  · rw [beq_f c1, if_neg c1]
    by_cases c2 : Int.tmod (b.getD j 0 - b.getD i 0 + 3) 3 = 2
    · rw [beq_t c2, if_pos c2]
    · rw [beq_f c2, if_neg c2]
theorem s_rise_val {i j : Nat} (hi : i < b.length) (hj : j < b.length) : s_l6Rise_f (b.getD i 0, b.getD j 0) = some (Rs b i j) := by
  have h1 := h.2.1.1 i hi
  have h2 := h.2.1.1 j hj
  rw [s_l6Rise_f_eq]
  unfold Rs
  generalize b.getD i 0 = x at h1 ⊢
  generalize b.getD j 0 = y at h2 ⊢
  have hx : x = 0 ∨ x = 1 ∨ x = 2 := by omega
  have hy : y = 0 ∨ y = 1 ∨ y = 2 := by omega
  rcases hx with rfl | rfl | rfl <;> rcases hy with rfl | rfl | rfl <;> rfl
omit h in
/-- Within a part, at the p-th of its list. -/
structure HI (a b : List Int) (f p : Nat) (T0 : Nat → Prop) (out : List Int) (tl : List Bool) (L : List Int) : Prop where
  ol : out.length = a.length
  tn : tl.length = a.length
  cmp : Cmp (Adj a) (Rs b) a.length f T0 (Td tl) (fun k => out.getD k 0)
  ent : ∀ q, q < L.length → ∃ n : Nat, L.getD q 0 = (n : Int) ∧ n < a.length ∧ Td tl n ∧ ¬ T0 n
  all : ∀ j, Td tl j → ¬ T0 j → ∃ q, q < L.length ∧ L.getD q 0 = (j : Int)
  old : ∀ i j, T0 i → Adj a i j → out.getD j 0 = out.getD i 0 + Rs b i j
  edg : ∀ q, q < p → ∀ i : Nat, q < L.length → L.getD q 0 = (i : Int) → ∀ j, Adj a i j → Td tl j ∧ out.getD j 0 = out.getD i 0 + Rs b i j
  cnt : L.length + Un tl ≤ a.length
  bnd : ∀ j, (Un tl : Int) - (a.length : Int) ≤ out.getD j 0 ∧ out.getD j 0 ≤ (a.length : Int) - (Un tl : Int)
theorem i_high_l2 {f p i : Nat} {T0 : Nat → Prop} (hnext : ∀ out tl L, HI a b f (p + 1) T0 out tl L → HG a b (i_HeightRow_l1 a b ((p + 1 : Nat) : Int) (a.length : Int) (f : Int) out tl L)) : ∀ j, j ≤ a.length → ∀ out tl L, HI a b f p T0 out tl L → p < L.length → L.getD p 0 = (i : Int) → i < a.length → Td tl i → ¬ T0 i →
    (∀ k, k < j → Adj a i k → Td tl k ∧ out.getD k 0 = out.getD i 0 + Rs b i k) → HG a b (i_HeightRow_l2 a b (p : Int) (i : Int) (a.length : Int) (f : Int) (a.length : Int) (j : Int) out tl L) := by
  have hm := PlP.sm h
  have he := h.2.2
  have hs := fun i j (hh : Adj a i j) => Adj_sym h hh
  refine advN ?_ fun j hj ih => ?_
  · intro out tl L H hp hpi hi hti hi0 hpar
    have hc := H.cnt
    rw [i_HeightRow_l2_eq, cnd_f (by omega), w1 hp (by omega)]
    refine hnext out tl L ⟨H.ol, H.tn, H.cmp, H.ent, H.all, H.old, fun q hq n hqL hqn k hk => ?_, H.cnt, H.bnd⟩
    by_cases e : q = p
    · subst e
      have : n = i := by have := hqn.symm.trans hpi; omega
      subst this
      exact hpar k (adj_lt h.1 hk.1 hk.2) hk
    · exact H.edg q (by omega) n hqL hqn k hk
  · intro out tl L H hp hpi hi hti hi0 hpar
    have hol := H.ol
    have htn := H.tn
    have hcn := H.cnt
    have hbi := H.bnd i
    have hbj := H.bnd j
    have hrr := riseV_rng (b.getD i 0) (b.getD j 0)
    have hRs : Rs b i j = riseV (b.getD i 0) (b.getD j 0) := rfl
    rw [i_HeightRow_l2_eq, cnd_t (by omega), if_pos (inN hi), if_neg (by omega), gN, gN, gN, bit_and _ (by omega), w1 hj (by omega)]
    by_cases c : bt (a.getD i 0) j = 0
    · rw [beq_t c]
      refine ih out tl L H hp hpi hi hti hi0 fun k hk hk' => ?_
      by_cases e : k = j
      · subst e
        have := hk'.2
        unfold adj at this
        omega
      · exact hpar k (by omega) hk'
    · have hadj : Adj a i j := ⟨hi, by have := bt01 (a.getD i 0) j; unfold adj; omega⟩
      rw [beq_f c, if_pos (by rw [hol]; exact inN hi), i_rise_val h (by omega) (by omega), Option.bind_some, if_pos (by rw [htn]; exact inN hj), show List.getD tl ((j : Int)).toNat false = tl.getD j false by rw [Int.toNat_natCast], i64w (n := out.getD i 0 + Rs b i j) (by omega) (by omega)]
      by_cases ht : Td tl j
      · have ht' : tl.getD j false = true := ht
        rw [ht', cond_true, if_pos (by rw [hol]; exact inN hj)]
        by_cases ce : out.getD j 0 = out.getD i 0 + Rs b i j
        · rw [bne_f ce, if_pos (by rw [htn]; exact inN hj), Bool.not_true, cond_false]
          refine ih out tl L H hp hpi hi hti hi0 fun k hk hk' => ?_
          by_cases e : k = j
          · subst e; exact ⟨ht, ce⟩
          · exact hpar k (by omega) hk'
        · rw [bne_t ce]
          refine ⟨([], false), rfl, ⟨fun hh => (by cases hh), fun _ => ⟨rfl, fun q hq => ?_⟩⟩, fun v hv => by cases hv⟩
          obtain ⟨p', p1, p2⟩ := norm_ex hs hq
          have v1 := H.cmp.val p' p1 p2 i hti
          have v2 := H.cmp.val p' p1 p2 j ht
          have v3 := p1 i j hadj
          exact ce (by omega)
      · have ht' : tl.getD j false = false := by
          cases hq : tl.getD j false with
          | false => rfl
          | true => exact absurd hq ht
        have hun := Un_set (tl := tl) (j := j) (by omega) ht
        rw [ht', cond_false, if_pos (by rw [htn]; exact inN hj), Bool.not_false, cond_true, if_pos (by rw [htn]; exact inN hj), if_pos (by rw [hol]; exact inN hj), if_pos (by simp; omega), Int.toNat_natCast]
        have hij : i ≠ j := fun e => ht (e ▸ hti)
        have hgo : ∀ k, (out.set j (out.getD i 0 + Rs b i j)).getD k 0 = if k = j then out.getD i 0 + Rs b i j else out.getD k 0 := fun k => by
          rw [get_set]
          by_cases e : k = j
          · rw [if_pos ⟨e, by omega⟩, if_pos e]
          · rw [if_neg (fun hh => e hh.1), if_neg e]
        have hgi : (out.set j (out.getD i 0 + Rs b i j)).getD i 0 = out.getD i 0 := by rw [hgo, if_neg hij]
        have hkT : ∀ k, Td tl k → (out.set j (out.getD i 0 + Rs b i j)).getD k 0 = out.getD k 0 := fun k hk => by
          rw [hgo, if_neg (fun e : k = j => ht (e ▸ hk))]
        have hTs := Td_set (tl := tl) (j := j) (by omega)
        have hLa : ∀ q, q < L.length → (L ++ [(j : Int)]).getD q 0 = L.getD q 0 := fun q hq => by
          rw [List.getD_eq_getElem?_getD, List.getD_eq_getElem?_getD, List.getElem?_append_left hq]
        have hLl : (L ++ [(j : Int)]).getD L.length 0 = (j : Int) := by
          rw [List.getD_eq_getElem?_getD, List.getElem?_append_right (Nat.le_refl _)]; simp
        refine ih _ (tl.set j true) (L ++ [(j : Int)]) ⟨by simp [hol], by simp [htn], H.cmp.add hs hti hi0 hadj ht hj hTs hgo, fun q hq => ?_, fun k hk hk0 => ?_, fun k m hk hkm => ?_, fun q hq n hqL hqn k hk => ?_, ?_, fun k => ?_⟩ (by simp; omega) ((hLa p hp).trans hpi) hi ((hTs i).2 (.inl hti)) hi0 fun k hk hk' => ?_
        · by_cases e : q < L.length
          · obtain ⟨n, n1, n2, n3, n4⟩ := H.ent q e
            exact ⟨n, (hLa q e).trans n1, n2, (hTs n).2 (.inl n3), n4⟩
          · have : q = L.length := by simp at hq; omega
            subst this
            exact ⟨j, hLl, hj, (hTs j).2 (.inr rfl), fun hh => ht (H.cmp.sub j hh)⟩
        · rcases (hTs k).1 hk with hk | hk
          · obtain ⟨q, q1, q2⟩ := H.all k hk hk0
            exact ⟨q, by simp; omega, (hLa q q1).trans q2⟩
          · subst hk
            exact ⟨L.length, by simp, hLl⟩
        · have hm' := H.cmp.cl0 k m hk hkm
          rw [hkT k (H.cmp.sub k hk), hkT m (H.cmp.sub m hm')]
          exact H.old k m hk hkm
        · have hqL' : q < L.length := by omega
          rw [hLa q hqL'] at hqn
          obtain ⟨e1, e2⟩ := H.edg q hq n hqL' hqn k hk
          obtain ⟨n', n1, n2, n3, n4⟩ := H.ent q hqL'
          have : n' = n := by have := n1.symm.trans hqn; omega
          subst this
          exact ⟨(hTs k).2 (.inl e1), by rw [hkT k e1, hkT n' n3]; exact e2⟩
        · simp
          omega
        · rw [hgo]
          have := H.bnd k
          split <;> omega
        · by_cases e : k = j
          · subst e
            exact ⟨(hTs k).2 (.inr rfl), by rw [hgo, if_pos rfl, hgi]⟩
          · obtain ⟨e1, e2⟩ := hpar k (by omega) hk'
            exact ⟨(hTs k).2 (.inl e1), by rw [hkT k e1, hgi]; exact e2⟩
theorem i_high_l1 {f : Nat} {T0 : Nat → Prop} (hf : f < a.length) (hnext : ∀ out tl, out.length = a.length → tl.length = a.length → Opn (Adj a) (Rs b) a.length (f + 1) (Td tl) (fun k => out.getD k 0) → (∀ i j, Td tl i → Adj a i j → out.getD j 0 = out.getD i 0 + Rs b i j) → (∀ j, (Un tl : Int) - (a.length : Int) ≤ out.getD j 0 ∧ out.getD j 0 ≤ (a.length : Int) - (Un tl : Int)) → HG a b (i_HeightRow_l0 a b (a.length : Int) ((f + 1 : Nat) : Int) out tl)) :
    ∀ d p, a.length - p ≤ d → ∀ out tl L, HI a b f p T0 out tl L → HG a b (i_HeightRow_l1 a b (p : Int) (a.length : Int) (f : Int) out tl L) := by
  have hm := PlP.sm h
  intro d
  induction d with
  | zero =>
    intro p hp out tl L H
    have hc := H.cnt
    have : ∀ i j, Td tl i → Adj a i j → Td tl j ∧ out.getD j 0 = out.getD i 0 + Rs b i j := fun i j hi hij => by
      by_cases c : T0 i
      · exact ⟨H.cmp.sub j (H.cmp.cl0 i j c hij), H.old i j c hij⟩
      · obtain ⟨q, q1, q2⟩ := H.all i hi c
        exact H.edg q (by omega) i q1 q2 j hij
    rw [i_HeightRow_l1_eq, cnd_f (by omega), w1 hf (by omega)]
    exact hnext out tl H.ol H.tn (H.cmp.done fun i j hi hij => (this i j hi hij).1) (fun i j hi hij => (this i j hi hij).2) H.bnd
  | succ d ih =>
    intro p hp out tl L H
    have hc := H.cnt
    by_cases c : p < L.length
    · obtain ⟨i, i1, i2, i3, i4⟩ := H.ent p c
      rw [i_HeightRow_l1_eq, cnd_t (by omega), if_pos (inN c), gN, i1]
      exact i_high_l2 h (fun out tl L H' => ih (p + 1) (by omega) out tl L H') 0 (by omega) out tl L H c i1 i2 i3 i4 fun k hk => by omega
    · have : ∀ i j, Td tl i → Adj a i j → Td tl j ∧ out.getD j 0 = out.getD i 0 + Rs b i j := fun i j hi hij => by
        by_cases c : T0 i
        · exact ⟨H.cmp.sub j (H.cmp.cl0 i j c hij), H.old i j c hij⟩
        · obtain ⟨q, q1, q2⟩ := H.all i hi c
          exact H.edg q (by omega) i q1 q2 j hij
      rw [i_HeightRow_l1_eq, cnd_f (by omega), w1 hf (by omega)]
      exact hnext out tl H.ol H.tn (H.cmp.done fun i j hi hij => (this i j hi hij).1) (fun i j hi hij => (this i j hi hij).2) H.bnd
theorem i_high_l0 : ∀ f, f ≤ a.length → ∀ out tl, out.length = a.length → tl.length = a.length → Opn (Adj a) (Rs b) a.length f (Td tl) (fun k => out.getD k 0) → (∀ i j, Td tl i → Adj a i j → out.getD j 0 = out.getD i 0 + Rs b i j) → (∀ j, (Un tl : Int) - (a.length : Int) ≤ out.getD j 0 ∧ out.getD j 0 ≤ (a.length : Int) - (Un tl : Int)) → HG a b (i_HeightRow_l0 a b (a.length : Int) (f : Int) out tl) := by
  have hm := PlP.sm h
  have hs := fun i j (hh : Adj a i j) => Adj_sym h hh
  refine advN ?_ fun f hf ih => ?_
  · intro out tl hol htn hO hE hB
    rw [i_HeightRow_l0_eq, cnd_f (by omega)]
    refine ⟨(out, true), rfl, ⟨fun _ => ⟨hol, fun i j hij => hE i j (hO.low i hij.1) hij, fun j hj => ?_⟩, fun hh => by cases hh⟩, fun v hv => ?_⟩
    · by_cases c : j < a.length
      · exact hO.zer j (hO.low j c) hj
      · exact hO.unt j fun hh => c (hO.lt j hh)
    · have key : ∀ v ∈ out, -6 ≤ v ∧ v ≤ 6 := fun v hv => by
        obtain ⟨k, hk, rfl⟩ := List.getElem_of_mem hv
        have := hB k
        rw [List.getD_eq_getElem?_getD, List.getElem?_eq_getElem hk] at this
        simp only [Option.getD_some] at this
        omega
      exact key v hv
  · intro out tl hol htn hO hE hB
    rw [i_HeightRow_l0_eq, cnd_t (by omega), if_pos (by rw [htn]; exact inN hf), show List.getD tl ((f : Int)).toNat false = tl.getD f false by rw [Int.toNat_natCast], w1 hf (by omega)]
    by_cases c : Td tl f
    · rw [show tl.getD f false = true from c, cond_true]
      exact ih out tl hol htn (hO.next c) hE hB
    · have c' : tl.getD f false = false := by
        cases hq : tl.getD f false with
        | false => rfl
        | true => exact absurd hq c
      have hun := Un_set (tl := tl) (j := f) (by omega) c
      have hul := Un_le tl
      have hTs := Td_set (tl := tl) (j := f) (by omega)
      rw [c', cond_false, if_pos (by rw [htn]; exact inN hf), Int.toNat_natCast]
      refine i_high_l1 h hf (fun out tl h1 h2 h3 h4 h5 => ih out tl h1 h2 h3 h4 h5) a.length 0 (by omega) out (tl.set f true) [(f : Int)] ⟨hol, by simp [htn], hO.first hs c hf hTs, fun q hq => ?_, fun j hj hj0 => ?_, hE, fun q hq => by omega, ?_, fun j => ?_⟩
      · have : q = 0 := by simp at hq; omega
        subst this
        exact ⟨f, rfl, hf, (hTs f).2 (.inr rfl), c⟩
      · rcases (hTs j).1 hj with hj | hj
        · exact absurd hj hj0
        · subst hj; exact ⟨0, by simp, rfl⟩
      · simp; omega
      · have := hB j
        omega
omit h in
theorem getB_rep (n k : Nat) : (List.replicate n false).getD k false = false := by
  rw [List.getD_eq_getElem?_getD, List.getElem?_replicate]
  split <;> rfl
theorem i_high : HG a b (i_HeightRow_f (a, b)) := by
  have hm := PlP.sm h
  have hT : ∀ i, ¬ Td (List.replicate a.length false) i := fun i hi => by
    unfold Td at hi
    rw [getB_rep] at hi
    cases hi
  rw [i_HeightRow_f_eq, iasked a 3 b (by omega), Option.bind_some, decide_eq_true h, Bool.not_true, cond_false, if_pos ⟨by omega, by omega, by omega⟩, if_pos ⟨by omega, by omega, by omega⟩, Int.toNat_natCast]
  refine i_high_l0 h 0 (by omega) _ _ (by simp) (by simp) ⟨fun i hi => absurd hi (hT i), fun i j hi => absurd hi (hT i), fun k hk => by omega, fun j _ => ?_, fun p _ _ j hj => absurd hj (hT j), fun j hj => absurd hj (hT j)⟩ (fun i j hi => absurd hi (hT i)) fun j => ?_
  · show (List.replicate a.length (0 : Int)).getD j 0 = 0
    rw [getD_rep]; split <;> rfl
  · have : Un (List.replicate a.length false) = a.length := by simp [Un]
    rw [this, getD_rep]
    split <;> omega
end
end FN

/-! Heights by the reference. -/
namespace FN
open Go
def HS (a b : List Int) (g : Option (List Int × Bool)) : Prop := ∃ r, g = some r ∧ Heights (Adj a) (Rs b) a.length r
def Sn (S : Nat) (i : Nat) : Prop := S.testBit i = true
theorem Sn_or (S j k : Nat) : Sn (S ||| 2 ^ j) k ↔ Sn S k ∨ k = j := by
  unfold Sn
  rw [bit_or, Bool.or_eq_true, decide_eq_true_eq]
  constructor
  · rintro (hh | hh)
    · exact .inl hh
    · exact .inr hh.symm
  · rintro (hh | hh)
    · exact .inl hh
    · exact .inr hh.symm
theorem or_lt {S j : Nat} (h : ¬ Sn S j) : S < S ||| 2 ^ j := by
  have h1 : S ≤ S ||| 2 ^ j := Nat.left_le_or
  have h2 : S ≠ S ||| 2 ^ j := fun e => h (by rw [e]; exact (Sn_or S j j).2 (.inr rfl))
  omega
theorem or_64 {S j : Nat} (h : S < 64) (hj : j < 6) : S ||| 2 ^ j < 64 := by
  have : 2 ^ j < 2 ^ 6 := Nat.pow_lt_pow_right (by omega) hj
  exact or64 h (by omega)
theorem or_bits {S j : Nat} (h : S < 64) (hj : j < 6) : Go.bits .or IntKind.i64 (S : Int) (IntKind.i64.wrap (1 * 2 ^ min ((j : Int)).toNat IntKind.i64.bits)) = ((S ||| 2 ^ j : Nat) : Int) := by
  have hp : (2 : Nat) ^ j < 2 ^ 6 := Nat.pow_lt_pow_right (by omega) hj
  rw [sh1 (by omega), show (2 : Int) ^ j = ((2 ^ j : Nat) : Int) by push_cast; rfl]
  exact (bits_nat (by omega) (by omega)).2.1
section
variable {a b : List Int} (h : PlP a 3 b)
include h
omit h in
structure SI (a b : List Int) (f : Nat) (T0 : Nat → Prop) (S : Nat) (out : List Int) : Prop where
  ol : out.length = a.length
  cmp : Cmp (Adj a) (Rs b) a.length f T0 (Sn S) (fun k => out.getD k 0)
  s64 : S < 64
  bnd : ∀ j, -(S : Int) ≤ out.getD j 0 ∧ out.getD j 0 ≤ (S : Int)
omit h in
structure SQ (a b : List Int) (f : Nat) (T0 : Nat → Prop) (S0 k : Nat) (S : Nat) (again : Bool) (out : List Int) : Prop where
  si : SI a b f T0 S out
  le : S0 ≤ S
  ag : again = true → S0 < S
  na : again = false → ∀ k', k' < k → Sn S k' → ∀ j, Adj a k' j → Sn S j
theorem s_high_l5 {f S0 k : Nat} {T0 : Nat → Prop} (hk : k < a.length) (hT0 : ∀ i, T0 i → Sn S0 i) (hnext : ∀ S again out, SQ a b f T0 S0 (k + 1) S again out → HS a b (s_l7Heights_l3 a b (S : Int) (f : Int) again ((k + 1 : Nat) : Int) out)) : ∀ j, j ≤ a.length → ∀ S again out, SQ a b f T0 S0 k S again out → (again = false → Sn S k → ∀ j', j' < j → Adj a k j' → Sn S j') → HS a b (s_l7Heights_l5 a b (S : Int) (f : Int) again (k : Int) (j : Int) out) := by
  have hm := PlP.sm h
  have he := h.2.2
  have hs := fun i j (hh : Adj a i j) => Adj_sym h hh
  refine advN ?_ fun j hj ih => ?_
  · intro S again out Q hpar
    rw [s_l7Heights_l5_eq, cnd_f (by omega), w1 hk (by omega)]
    refine hnext S again out ⟨Q.si, Q.le, Q.ag, fun hag k' hk' hsk j hkj => ?_⟩
    by_cases e : k' = k
    · subst e; exact hpar hag hsk j (adj_lt h.1 hkj.1 hkj.2) hkj
    · exact Q.na hag k' (by omega) hsk j hkj
  · intro S again out Q hpar
    have H := Q.si
    have hol := H.ol
    have hS := H.s64
    have hrk := h.1.rng k hk
    have hbk := H.bnd k
    have hrr := riseV_rng (b.getD k 0) (b.getD j 0)
    have hRs : Rs b k j = riseV (b.getD k 0) (b.getD j 0) := rfl
    rw [s_l7Heights_l5_eq, cnd_t (by omega), if_neg (by omega), bit_mod (by omega) (by omega), bt_beq, w1 hj (by omega), w1 hk (by omega), gN, gN, gN, gN, bit_mod hrk.1 (by omega), bit_mod (by omega) (by omega)]
    by_cases c1 : S.testBit k = true
    · rw [if_pos c1, if_pos (inN hk), if_neg (by omega)]
      by_cases c2 : bt (a.getD k 0) j = 1
      · have hadj : Adj a k j := ⟨hk, c2⟩
        rw [beq_t c2, if_neg (by omega), bt_nat]
        by_cases c3 : S.testBit j = true
        · rw [if_pos c3, beq_f (by omega)]
          refine ih S again out Q fun hag hsk j' hj' hkj => ?_
          by_cases e : j' = j
          · subst e; exact c3
          · exact hpar hag hsk j' (by omega) hkj
        · have c3' : ¬ Sn S j := c3
          have hlt := or_lt c3'
          have hko : ¬ T0 k := fun hh => c3' (H.cmp.sub j (H.cmp.cl0 k j hh hadj))
          rw [if_neg c3, beq_t rfl, if_pos (by rw [hol]; exact inN hk), if_pos (inN (by omega)), if_pos (inN (by omega)), s_rise_val h (by omega) (by omega), Option.bind_some, if_pos (by rw [hol]; exact inN hj), if_neg (by omega), or_bits hS (by omega), i64w (by omega) (by omega), Int.toNat_natCast]
          have hgo : ∀ m, (out.set j (out.getD k 0 + Rs b k j)).getD m 0 = if m = j then out.getD k 0 + Rs b k j else out.getD m 0 := fun m => by
            rw [get_set]
            by_cases e : m = j
            · rw [if_pos ⟨e, by omega⟩, if_pos e]
            · rw [if_neg (fun hh => e hh.1), if_neg e]
          refine ih (S ||| 2 ^ j) true _ ⟨⟨by simp [hol], H.cmp.add hs c1 hko hadj c3' hj (Sn_or S j) hgo, or_64 hS (by omega), fun m => ?_⟩, by have := Q.le; omega, fun _ => by have := Q.le; omega, fun hh => by cases hh⟩ fun hh => by cases hh
          rw [hgo]
          have := H.bnd m
          split <;> omega
      · rw [beq_f c2]
        refine ih S again out Q fun hag hsk j' hj' hkj => ?_
        by_cases e : j' = j
        · subst e; exact absurd hkj.2 c2
        · exact hpar hag hsk j' (by omega) hkj
    · rw [if_neg c1]
      refine hnext S again out ⟨Q.si, Q.le, Q.ag, fun hag k' hk' hsk j hkj => ?_⟩
      by_cases e : k' = k
      · subst e; exact absurd hsk c1
      · exact Q.na hag k' (by omega) hsk j hkj
theorem s_high_l3 {f S0 : Nat} {T0 : Nat → Prop} (hT0 : ∀ i, T0 i → Sn S0 i) (hnext : ∀ S again out, SQ a b f T0 S0 a.length S again out → HS a b (s_l7Heights_l1 a b (S : Int) (f : Int) again out)) : ∀ k, k ≤ a.length → ∀ S again out, SQ a b f T0 S0 k S again out → HS a b (s_l7Heights_l3 a b (S : Int) (f : Int) again (k : Int) out) := by
  have hm := PlP.sm h
  refine advN ?_ fun k hk ih => ?_
  · intro S again out Q
    rw [s_l7Heights_l3_eq, cnd_f (by omega)]
    exact hnext S again out Q
  · intro S again out Q
    rw [s_l7Heights_l3_eq, cnd_t (by omega)]
    exact s_high_l5 h hk hT0 ih 0 (by omega) S again out Q fun _ _ j' hj' => by omega
theorem s_high_l1 {f : Nat} {T0 : Nat → Prop} (hf : f < a.length) (hnext : ∀ S out, out.length = a.length → S < 64 → Opn (Adj a) (Rs b) a.length (f + 1) (Sn S) (fun k => out.getD k 0) → (∀ j, -(S : Int) ≤ out.getD j 0 ∧ out.getD j 0 ≤ (S : Int)) → HS a b (s_l7Heights_l0 a b (S : Int) ((f + 1 : Nat) : Int) out)) :
    ∀ d S0, 63 - S0 ≤ d → ∀ out, SI a b f T0 S0 out → HS a b (s_l7Heights_l1 a b (S0 : Int) (f : Int) true out) := by
  have hm := PlP.sm h
  intro d
  induction d with
  | zero =>
    intro S0 hd out H
    rw [s_l7Heights_l1_eq, cond_true]
    refine s_high_l3 h H.cmp.sub (fun S again out Q => ?_) 0 (by omega) S0 false out ⟨H, Nat.le_refl _, (fun hh => by cases hh), fun _ k' hk' => by omega⟩
    have hS := Q.si.s64
    cases again with
    | true => have := Q.ag rfl; omega
    | false =>
      rw [s_l7Heights_l1_eq, cond_false, w1 hf (by omega)]
      exact hnext S out Q.si.ol hS (Q.si.cmp.done fun i j hi hij => Q.na rfl i (Q.si.cmp.lt i hi) hi j hij) Q.si.bnd
  | succ d ih =>
    intro S0 hd out H
    rw [s_l7Heights_l1_eq, cond_true]
    refine s_high_l3 h H.cmp.sub (fun S again out Q => ?_) 0 (by omega) S0 false out ⟨H, Nat.le_refl _, (fun hh => by cases hh), fun _ k' hk' => by omega⟩
    have hS := Q.si.s64
    cases again with
    | true => exact ih S (by have := Q.ag rfl; omega) out Q.si
    | false =>
      rw [s_l7Heights_l1_eq, cond_false, w1 hf (by omega)]
      exact hnext S out Q.si.ol hS (Q.si.cmp.done fun i j hi hij => Q.na rfl i (Q.si.cmp.lt i hi) hi j hij) Q.si.bnd
theorem s_high_end {S : Nat} {out : List Int} (hol : out.length = a.length) (hS : S < 64) (hO : Opn (Adj a) (Rs b) a.length a.length (Sn S) (fun k => out.getD k 0)) (hB : ∀ j, -(S : Int) ≤ out.getD j 0 ∧ out.getD j 0 ≤ (S : Int)) : HS a b (s_l7Heights_l4 a b 0 out) := by
  have hm := PlP.sm h
  have he := h.2.2
  have hs := fun i j (hh : Adj a i j) => Adj_sym h hh
  have outer : ∀ k, k ≤ a.length → (∀ i j, i < k → Adj a i j → out.getD j 0 = out.getD i 0 + Rs b i j) → HS a b (s_l7Heights_l4 a b (k : Int) out) := by
    refine advN ?_ fun k hk ih => ?_
    · intro hE
      rw [s_l7Heights_l4_eq, cnd_f (by omega)]
      refine ⟨(out, true), rfl, ⟨fun _ => ⟨hol, fun i j hij => hE i j hij.1 hij, fun j hj => ?_⟩, fun hh => by cases hh⟩⟩
      by_cases c : j < a.length
      · exact hO.zer j (hO.low j c) hj
      · exact hO.unt j fun hh => c (hO.lt j hh)
    · intro hE
      have inner : ∀ j, j ≤ a.length → (∀ j', j' < j → Adj a k j' → out.getD j' 0 = out.getD k 0 + Rs b k j') → HS a b (s_l7Heights_l6 a b (k : Int) (j : Int) out) := by
        refine advN ?_ fun j hj ihj => ?_
        · intro hP
          rw [s_l7Heights_l6_eq, cnd_f (by omega), w1 hk (by omega)]
          refine ih fun i j' hi hij => ?_
          by_cases e : i = k
          · subst e; exact hP j' (adj_lt h.1 hij.1 hij.2) hij
          · exact hE i j' (by omega) hij
        · intro hP
          have hrk := h.1.rng k hk
          have hbk := hB k
          have hbj := hB j
          rw [s_l7Heights_l6_eq, cnd_t (by omega), if_pos (inN hk), if_neg (by omega), gN, gN, gN, gN, gN, bit_mod hrk.1 (by omega), w1 hj (by omega)]
          by_cases c2 : bt (a.getD k 0) j = 1
          · have hadj : Adj a k j := ⟨hk, c2⟩
            rw [beq_t c2, if_pos (by rw [hol]; exact inN hj), if_pos (by rw [hol]; exact inN hk), if_pos (inN (by omega)), if_pos (inN (by omega)), s_rise_val h (by omega) (by omega), Option.bind_some, i64w (by omega) (by omega)]
            by_cases c3 : out.getD j 0 - out.getD k 0 = Rs b k j
            · rw [bne_f c3]
              refine ihj fun j' hj' hkj => ?_
              by_cases e : j' = j
              · subst e; omega
              · exact hP j' (by omega) hkj
            · rw [bne_t c3]
              refine ⟨([], false), rfl, ⟨(fun hh => by cases hh), fun _ => ⟨rfl, fun q hq => ?_⟩⟩⟩
              obtain ⟨p', p1, p2⟩ := norm_ex hs hq
              have v1 := hO.val p' p1 p2 k (hO.low k hk)
              have v2 := hO.val p' p1 p2 j (hO.low j hj)
              have v3 := p1 k j hadj
              exact c3 (by omega)
          · rw [beq_f c2]
            refine ihj fun j' hj' hkj => ?_
            by_cases e : j' = j
            · subst e; exact absurd hkj.2 c2
            · exact hP j' (by omega) hkj
      rw [s_l7Heights_l4_eq, cnd_t (by omega)]
      exact inner 0 (by omega) fun j' hj' => by omega
  exact outer 0 (by omega) fun i j hi => by omega
theorem s_high_l0 : ∀ f, f ≤ a.length → ∀ S out, out.length = a.length → S < 64 → Opn (Adj a) (Rs b) a.length f (Sn S) (fun k => out.getD k 0) → (∀ j, -(S : Int) ≤ out.getD j 0 ∧ out.getD j 0 ≤ (S : Int)) → HS a b (s_l7Heights_l0 a b (S : Int) (f : Int) out) := by
  have hm := PlP.sm h
  have hs := fun i j (hh : Adj a i j) => Adj_sym h hh
  refine advN ?_ fun f hf ih => ?_
  · intro S out hol hS hO hB
    rw [s_l7Heights_l0_eq, cnd_f (by omega), s_l7Heights_j2_eq]
    exact s_high_end h hol hS hO hB
  · intro S out hol hS hO hB
    rw [s_l7Heights_l0_eq, cnd_t (by omega), if_neg (by omega), bit_mod (by omega) (by omega), bt_beq, w1 hf (by omega)]
    by_cases c : S.testBit f = true
    · rw [if_pos c]
      exact ih S out hol hS (hO.next c) hB
    · have c' : ¬ Sn S f := c
      have hlt := or_lt c'
      rw [if_neg c, if_neg (by omega), or_bits hS (by omega)]
      exact s_high_l1 h hf (fun S out h1 h2 h3 h4 => ih S out h1 h2 h3 h4) 63 (S ||| 2 ^ f) (by omega) out ⟨hol, hO.first hs c' hf (Sn_or S f), or_64 hS (by omega), fun j => by have := hB j; omega⟩
theorem s_high : HS a b (s_l7Heights_f (a, b)) := by
  have hm := PlP.sm h
  have hT : ∀ i, ¬ Sn 0 i := fun i hi => by
    unfold Sn at hi
    rw [Nat.zero_testBit] at hi
    cases hi
  rw [s_l7Heights_f_eq, if_pos ⟨by omega, by omega, by omega⟩, Int.toNat_natCast]
  refine s_high_l0 h 0 (by omega) 0 _ (by simp) (by omega) ⟨fun i hi => absurd hi (hT i), fun i j hi => absurd hi (hT i), fun k hk => by omega, fun j _ => ?_, fun p _ _ j hj => absurd hj (hT j), fun j hj => absurd hj (hT j)⟩ fun j => ?_
  · show (List.replicate a.length (0 : Int)).getD j 0 = 0
    rw [getD_rep]; split <;> rfl
  · rw [getD_rep]
    split <;> omega
/-- Both. -/
theorem high_both : ∃ (r : List Int) (ok : Bool), i_HeightRow_f (a, b) = some (r, ok) ∧ s_HeightRow_f (a, b) = some (r, ok) ∧ i_FlatOk_f (a, b) = some ok ∧ s_FlatOk_f (a, b) = some ok ∧ r.length ≤ 6 ∧ ∀ v ∈ r, -6 ≤ v ∧ v ≤ 6 := by
  have hm := PlP.sm h
  obtain ⟨⟨r, ok⟩, e1, h1, hb⟩ := i_high h
  obtain ⟨r', e2, h2⟩ := s_high h
  have := h1.uniq h2
  subst this
  refine ⟨r, ok, e1, ?_, ?_, ?_, ?_, hb⟩
  · rw [s_HeightRow_f_eq, sl3 a 3 b (by omega), Option.bind_some, decide_eq_true h, Bool.not_true, cond_false, e2]; rfl
  · rw [i_FlatOk_f_eq, e1]; rfl
  · rw [s_FlatOk_f_eq, sl3 a 3 b (by omega), Option.bind_some, decide_eq_true h, Bool.not_true, cond_false, e2]; rfl
  · cases ok with
    | true => have := (h1.yes rfl).1; simp only at this; omega
    | false => have := (h1.no rfl).1; simp only at this; rw [this]; simp
end
end FN

/-! The text of a place is read as the place. -/
namespace FN
open Go
theorem szB (s : ByteArray) : s.size = s.data.toList.length := by rw [Array.length_toList]; rfl
def dgB (v : Int) : UInt8 := UInt8.ofNat (48 + v.toNat)
theorem dgB_l {v : Int} (h0 : 0 ≤ v) (h1 : v < 10) : (itoaS v).data.toList = [dgB v] ∧ dig (dgB v) = v ∧ (dgB v).toNat = 48 + v.toNat := by
  obtain ⟨m, rfl⟩ : ∃ m : Nat, v = m := ⟨v.toNat, by omega⟩
  exact itoa_l (by omega)
theorem dgs_data {st : List Int} (hs : ∀ j, j < st.length → 0 ≤ st.getD j 0 ∧ st.getD j 0 < 10) : ∀ i, i ≤ st.length → (dgs st i).data.toList = (st.take i).map dgB
  | 0, _ => rfl
  | i + 1, h => by
    have h1 := dgs_data hs i (by omega)
    have h2 := hs i (by omega)
    rw [dgs, ba_app, h1, (dgB_l h2.1 h2.2).1, List.take_succ_eq_append_getElem (show i < st.length by omega), List.map_append]
    have : st.getD i 0 = st[i] := by rw [List.getD_eq_getElem?_getD, List.getElem?_eq_getElem (by omega)]; rfl
    rw [this]; rfl
theorem mem_join {x : UInt8} : ∀ (prs : List ByteArray), x ∈ (joinS prs str14).data.toList → x = 44 ∨ ∃ p ∈ prs, x ∈ p.data.toList := by
  intro prs hx
  cases prs with
  | nil => cases hx
  | cons p l =>
    have e : (joinS (p :: l) str14).data.toList = Lib.join (p.data.toList :: l.map fun b => b.data.toList) [44] := rfl
    rw [e, Lib.join_cons, List.mem_append] at hx
    rcases hx with hx | hx
    · exact .inr ⟨p, by simp, hx⟩
    · simp only [Lib.joinTail, List.mem_flatten, List.mem_map] at hx
      obtain ⟨a, ⟨b, ⟨q, hq, rfl⟩, rfl⟩, h2⟩ := hx
      rw [List.mem_append] at h2
      rcases h2 with h2 | h2
      · exact .inl (by simpa using h2)
      · exact .inr ⟨q, by simp [hq], h2⟩
section
variable {net st : List Int} {kd : Int} (h : PlP net kd st)
include h
/-- The text: its middle part, and what is read of it. -/
theorem ptx_told : ∃ Y : List UInt8, (ptx net kd st).data.toList = [dgB net.length] ++ 32 :: (Y ++ 32 :: ([dgB kd] ++ 32 :: st.map dgB)) ∧ (32 : UInt8) ∉ Y ∧
    (if Y = [46] then some (List.replicate net.length 0) else pairsF (net.length : Int) (cutL 44 Y) (List.replicate net.length 0)) = some net ∧ Y.length ≤ 900 := by
  have hnl : net.length ≤ 6 := h.1.hi
  have hs : st.length ≤ 4611686018427387904 := by have := h.2.1.2.2.2.2; omega
  have hst : ∀ j, j < st.length → 0 ≤ st.getD j 0 ∧ st.getD j 0 < 10 := fun j hj => ⟨(h.2.1.1 j hj).1, by have := (h.2.1.1 j hj).2; have := h.2.1.2.2.1; omega⟩
  obtain ⟨prs, y, z, r, hG⟩ := all_val h 0 (by omega) [] ByteArray.empty _ (inv_zero hnl)
  have hz := inv_last h r
  subst hz
  have hf : s_PlaceText_f (z, kd, st) = s_PlaceText_j2 y (dgs st st.length) z kd st := by
    rw [s_PlaceText_f_eq, spl z kd st hs, Option.bind_some, decide_eq_true h]
    exact hG
  have hl := r.pr.len
  have hsz := r.pr.sz
  have hk := h.2.1.2.1
  have hk' := h.2.1.2.2.1
  have told : ∀ Y : ByteArray, Y.size ≤ 900 → s_PlaceText_j2 y (dgs st st.length) z kd st = s_PlaceText_j4 Y (dgs st st.length) z kd st → (ptx z kd st).data.toList = [dgB z.length] ++ 32 :: (Y.data.toList ++ 32 :: ([dgB kd] ++ 32 :: st.map dgB)) := by
    intro Y hY e
    have e1 : s_PlaceText_f (z, kd, st) = _ := (hf.trans e).trans (fin_same h Y hY _ rfl)
    rw [(ptx_val z kd st hs).2] at e1
    have e1 := Option.some.inj e1
    have d1 := (dgB_l (v := (z.length : Int)) (by omega) (by omega)).1
    have d2 := (dgB_l (v := kd) (by omega) (by omega)).1
    have d3 := dgs_data hst st.length (Nat.le_refl _)
    have d4 : str1.data.toList = [32] := rfl
    rw [e1, ba_app, ba_app, ba_app, ba_app, ba_app, ba_app, d1, d2, d3, d4, List.take_length]
    simp only [List.append_assoc, List.singleton_append, List.cons_append, List.nil_append]
  by_cases hp : prs = []
  · subst hp
    have hy : y = ByteArray.empty := r.pr.eq.symm.trans (joinS_nil _)
    subst hy
    refine ⟨[46], told str15 (by rw [z15]; omega) ?_, by decide, ?_, by simp⟩
    · rw [s_PlaceText_j2_eq, show (ByteArray.toList ByteArray.empty == ByteArray.toList ByteArray.empty) = true from by simp, cond_true]
    · rw [if_pos rfl]
      exact r.fold
  · have hpos : 0 < prs.length := List.length_pos_iff.2 hp
    have h44 : ∀ x : UInt8, x = 32 ∨ x = 44 → ∀ p ∈ prs, x ∉ p.data.toList := by
      intro x hx p hp hm
      obtain ⟨a, b, ha, hb, hl⟩ := r.fm p hp
      rw [hl] at hm
      have e1 := (itoa_l (a := a) (by omega)).2.2
      have e2 := (itoa_l (a := b) (by omega)).2.2
      have hx' : x.toNat ≤ 44 := by rcases hx with rfl | rfl <;> decide
      simp only [List.mem_cons, List.not_mem_nil, or_false] at hm
      rcases hm with rfl | rfl <;> omega
    refine ⟨y.data.toList, told y (by omega) ?_, ?_, ?_, by rw [show y.data.toList.length = y.size from by rw [Array.length_toList]; rfl]; omega⟩
    · rw [s_PlaceText_j2_eq, empty_toList (r.pr.pos hp), cond_false]
    · intro hm
      rw [← r.pr.eq] at hm
      rcases mem_join prs hm with h1 | ⟨p, hp, h1⟩
      · cases h1
      · exact h44 32 (.inl rfl) p hp h1
    · have hc : cutL 44 y.data.toList = prs.map (·.data.toList) := by
        rw [← r.pr.eq]
        exact cut_join prs hp (h44 44 (.inr rfl))
      rw [hc]
      have hne : y.data.toList ≠ [46] := by
        intro e
        rw [e] at hc
        have e2 : cutL 44 [46] = [[46]] := by decide
        rw [e2] at hc
        obtain ⟨p, l, rfl⟩ := List.exists_cons_of_ne_nil hp
        simp only [List.map_cons, List.cons.injEq] at hc
        obtain ⟨a, b, _, _, hl⟩ := r.fm p (by simp)
        rw [hl] at hc
        exact absurd hc.1 (by simp)
      rw [if_neg hne]
      exact r.fold
end
end FN

/-! The answers: the program's and the reference's alike. -/
namespace FN
open Go
theorem cut_sp : ∀ R : List UInt8, ((32 : UInt8) ∉ R ∧ Lib.index R [32] = -1) ∨ ∃ a S, R = a ++ 32 :: S ∧ (32 : UInt8) ∉ a ∧ Lib.index R [32] = (a.length : Int)
  | [] => .inl ⟨by simp, by simp [Lib.index]⟩
  | x :: R => by
    by_cases h : x = 32
    · subst h
      have hix : Lib.index (32 :: R) [32] = 0 := by rw [Lib.index]; simp [List.isPrefixOf]
      exact .inr ⟨[], R, rfl, by simp, hix⟩
    · have hp : ([32] : List UInt8).isPrefixOf (x :: R) = false := by simp [List.isPrefixOf, Ne.symm h]
      have hix : Lib.index (x :: R) [32] = if Lib.index R [32] == -1 then -1 else Lib.index R [32] + 1 := by rw [Lib.index, hp]; simp
      rcases cut_sp R with ⟨h1, h2⟩ | ⟨a, S, h1, h2, h3⟩
      · have hr : Lib.index (x :: R) [32] = -1 := by rw [hix, h2]; rfl
        exact .inl ⟨by simp [Ne.symm h, h1], hr⟩
      · have hr : Lib.index (x :: R) [32] = ((x :: a).length : Int) := by
          rw [hix, h3, if_neg (by rw [beq_iff_eq]; omega)]
          simp
        exact .inr ⟨x :: a, S, by rw [h1]; rfl, by simp [Ne.symm h, h2], hr⟩
theorem cut_none {L : List UInt8} (h : Lib.index L [32] = -1) : cut3 (ofL L) str1 = (ofL L, ofL [], false) := by
  unfold cut3
  have : Lib.cut (ofL L).data.toList str1.data.toList = (L, [], false) := by
    rw [ofL_data, show str1.data.toList = [32] from rfl]
    unfold Lib.cut
    rw [h]; rfl
  rw [this]; rfl
theorem cut_some {a S : List UInt8} (h : Lib.index (a ++ 32 :: S) [32] = (a.length : Int)) : cut3 (ofL (a ++ 32 :: S)) str1 = (ofL a, ofL S, true) := by
  unfold cut3
  have : Lib.cut (ofL (a ++ 32 :: S)).data.toList str1.data.toList = (a, S, true) := by
    rw [ofL_data, show str1.data.toList = [32] from rfl]
    unfold Lib.cut
    rw [h]
    simp
  rw [this]; rfl
theorem numOf_yes {S : List UInt8} (h : CanD S) (h6 : S.length ≤ 6) : numOfV (ofL S) = (valD 0 S, true) := by
  obtain ⟨h0, h1⟩ := can_len h
  have ha : Lib.atoiAll (ofL S).data.toList = .ok (valD 0 S) := by rw [ofL_data]; exact atoi_can h h6
  have hi : itoaG (valD 0 S) = ofL S := by
    obtain ⟨u, hu⟩ : ∃ u : Nat, valD 0 S = (u : Int) := ⟨(valD 0 S).toNat, by omega⟩
    have hc := can_dec h
    rw [hu] at hc ⊢
    rw [itoaG_eq, Lib.itoa_nonneg]
    rw [Int.toNat_natCast] at hc
    rw [hc]
  unfold numOfV
  rw [ha]
  simp only
  rw [if_pos hi, if_pos h0, decide_eq_true (h1.2 h6)]
theorem numOf_no {S : List UInt8} (h : ¬ (CanD S ∧ S.length ≤ 6)) : (numOfV (ofL S)).2 = false := by
  unfold numOfV
  cases ha : Lib.atoiAll (ofL S).data.toList with
  | ok v =>
    simp only
    by_cases hi : itoaG v = ofL S
    · rw [if_pos hi]
      by_cases h0 : 0 ≤ v
      · rw [if_pos h0]
        apply decide_eq_false
        intro h9
        obtain ⟨u, rfl⟩ : ∃ u : Nat, v = (u : Int) := ⟨v.toNat, by omega⟩
        rw [itoaG_eq, Lib.itoa_nonneg] at hi
        have hS := ofL_inj hi
        have hc := dec_can u
        rw [hS] at hc
        have hv := (dec_dig u).2.1
        rw [hS] at hv
        exact h ⟨hc, (can_len hc).2.1 (by omega)⟩
      · rw [if_neg h0]
    · rw [if_neg hi]
  | «syntax» => rfl
  | range => rfl
theorem can_no32 {S : List UInt8} (h : CanD S) : (32 : UInt8) ∉ S := fun hm => by
  have := h.2.1 32 hm
  exact absurd this (by decide)
/-- Both come to one text, which is not empty. -/
def Both (g g' : Option ByteArray) : Prop := ∃ t : ByteArray, g = some t ∧ g' = some t ∧ 0 < t.size
theorem Both.cond {c : Bool} {x y x' y' : Option ByteArray} (h1 : c = true → Both x x') (h2 : c = false → Both y y') : Both (cond c x y) (cond c x' y') := by
  cases c with
  | true => exact h1 rfl
  | false => exact h2 rfl
theorem Both.mk {t : ByteArray} (h : 0 < t.size) : Both (some t) (some t) := ⟨t, rfl, rfl, h⟩
theorem joinS_pos : ∀ {l : List Int}, l ≠ [] → 0 < (joinS (l.map itoaG) str14).size := by
  intro l
  refine rev_ind (P := fun l => l ≠ [] → 0 < (joinS (l.map itoaG) str14).size) (fun h => absurd rfl h) (fun l x _ _ => ?_) l
  have := itoaG_pos x
  rw [List.map_append, List.map_singleton]
  by_cases c : l = []
  · subst c
    rw [List.map_nil, List.nil_append, joinS_one]
    exact this
  · rw [joinS_snoc (by simpa using c), ByteArray.size_append]
    omega
theorem rowV_pos (l : List Int) : 0 < (rowV l).size := by
  unfold rowV
  split
  · decide
  · rename_i h; exact joinS_pos h
theorem rows_both {l : List Int} (hl : l.length ≤ 1000) (hv : ∀ v ∈ l, -1000000000 ≤ v ∧ v ≤ 1000000000) : i_rowText_f l = some (rowV l) ∧ s_l15Row_f l = some (rowV l) := ⟨i_row hl hv, s_row hl hv⟩
theorem get_mem {l : List Int} {lo hi : Int} (h : ∀ j, j < l.length → lo ≤ l.getD j 0 ∧ l.getD j 0 ≤ hi) : ∀ v ∈ l, lo ≤ v ∧ v ≤ hi := fun v hv => by
  obtain ⟨k, hk, rfl⟩ := List.getElem_of_mem hv
  have := h k hk
  rw [List.getD_eq_getElem?_getD, List.getElem?_eq_getElem hk] at this
  exact this
section
variable {a : List Int} {k : Int} {b : List Int} (h : PlP a k b)
include h
theorem ans_j0 (L : List UInt8) (hL : L.length ≤ 1099511627) : Both (i_answer_j0 (ofL L) (k == 3) a k b) (s_l15Answer_j0 (ofL L) a k b) := by
  have hm := PlP.sm h
  have hwhat : 0 < str44.size := by decide
  have hnone : 0 < str40.size := by decide
  have hcutS : s_l1Cut_f (ofL L, 32) = some ((cutL 32 L).map ofL) := cut_val L 32 (by omega)
  have hcutI : x_strings_Cut_f (ofL L, str1) = some (cut3 (ofL L) str1) := by
    unfold x_strings_Cut_f
    rw [if_pos (by rw [ofL_size]; omega)]
  have hnum : ∀ S : List UInt8, S.length ≤ L.length → i_numberOf_f (ofL S) = some (numOfV (ofL S)) := fun S hS => by
    unfold i_numberOf_f
    rw [if_pos (by rw [ofL_size]; omega)]
  rw [i_answer_j0_eq, s_l15Answer_j0_eq, hcutS, hcutI, Option.bind_some, Option.bind_some, List.length_map]
  rcases cut_sp L with ⟨h1, h2⟩ | ⟨w, S, h1, h2, h3⟩
  · rw [cut_none h2, cutL_one h1]
    simp only
    rw [hnum [] (by simp), Option.bind_some, numOf_no (S := []) (fun hh => hh.1.1 rfl), Bool.not_false, cond_true, bne_t (by simp)]
    exact .mk hwhat
  · subst h1
    have hlen : S.length ≤ (w ++ 32 :: S).length := by simp; omega
    rw [cut_some h3, cutL_sep h2]
    simp only
    rw [hnum S hlen, Option.bind_some]
    by_cases hc : CanD S ∧ S.length ≤ 6
    · have hv := can_len hc.1
      have hv9 := hv.2.2 hc.2
      have hcs : cutL 32 S = [S] := cutL_one (can_no32 hc.1)
      have g0 : List.getD ([ofL w, ofL S] : List ByteArray) (0 : Int).toNat ByteArray.empty = ofL w := rfl
      have g1 : List.getD ([ofL w, ofL S] : List ByteArray) (1 : Int).toNat ByteArray.empty = ofL S := rfl
      have in0 : (0 : Int) ≤ 0 ∧ (0 : Int) < (([w, S] : List (List UInt8)).length : Int) := by simp
      have in1 : (0 : Int) ≤ 1 ∧ (1 : Int) < (([w, S] : List (List UInt8)).length : Int) := by simp
      have h2l : ((([w, S] : List (List UInt8)).length : Nat) : Int) = 2 := rfl
      rw [numOf_yes hc.1 hc.2, hcs, bne_f h2l]
      simp only [List.map_cons, List.map_nil]
      rw [if_pos in1, if_pos in1, g0, g1, digits_val, if_pos hc, Option.bind_some, Option.bind_some, if_pos in0, cnd_f (show ¬ valD 0 S < 0 by omega), Bool.not_true, cond_false]
      generalize valD 0 S = n at hv hv9 ⊢
      have hn0 := hv.1
      refine .cond (fun _ => ?_) fun _ => .cond (fun _ => ?_) fun _ => .cond (fun _ => ?_) fun _ => .mk hwhat
      · obtain ⟨r, e1, e2, e3, e4⟩ := fired_val h hn0
        obtain ⟨f1, f2⟩ := rows_both (l := r) (by omega) fun v hv => by have := get_mem e4 v hv; omega
        rw [e1, e2, Option.bind_some, Option.bind_some, f1, f2]
        exact .mk (rowV_pos r)
      · by_cases c3 : k = 3
        · subst c3
          obtain ⟨r, e1, e2, e3, e4⟩ := turned_val h hn0
          obtain ⟨f1, f2⟩ := rows_both (l := r) (by omega) fun v hv => by have := get_mem e4 v hv; omega
          rw [show ((3 : Int) == 3) = true from rfl, show ((3 : Int) != 3) = false from rfl, Bool.not_true, cond_false, cond_false, e1, e2, Option.bind_some, Option.bind_some, f1, f2]
          exact .mk (rowV_pos r)
        · rw [beq_false_of_ne c3, bne_iff_ne.2 c3, Bool.not_false, cond_true, cond_true]
          exact .mk hnone
      · refine .cond (fun _ => .mk hnone) fun hlt => ?_
        have hlt' : n < (a.length : Int) := by
          have := of_decide_eq_false hlt
          omega
        obtain ⟨u, rfl⟩ : ∃ u : Nat, n = u := ⟨n.toNat, by omega⟩
        have hpw : 2 ^ u < 2 ^ a.length := Nat.pow_lt_pow_right (by omega) (by omega)
        obtain ⟨r, e1, _, e2, e3, e4, _⟩ := far_val h.1 (M := 2 ^ u) hpw
        have hcast : ((2 ^ u : Nat) : Int) = (2 : Int) ^ u := by push_cast; rfl
        rw [hcast] at e1 e2
        obtain ⟨f1, f2⟩ := rows_both (l := r) (by omega) fun v hv => by
          have := get_mem (lo := -1) (hi := 63) (fun j hj => e4 j (by omega)) v hv
          omega
        rw [if_neg (show ¬ (u : Int) < 0 by omega), if_neg (show ¬ (u : Int) < 0 by omega), sh1 (by omega), e1, e2, Option.bind_some, Option.bind_some, f1, f2]
        exact .mk (rowV_pos r)
    · rw [numOf_no hc, Bool.not_false, cond_true]
      by_cases c : ((ofL w :: (cutL 32 S).map ofL).length : Int) = 2
      · have hcs : cutL 32 S = [S] := by
          by_cases h32 : (32 : UInt8) ∈ S
          · exfalso
            obtain ⟨a1, S1, q1, q2, _⟩ := (cut_sp S).resolve_left fun hh => hh.1 h32
            rw [q1, cutL_sep q2] at c
            have := cutL_ne 32 S1
            have h0 : (cutL 32 S1).length ≠ 0 := fun e => this (List.eq_nil_of_length_eq_zero e)
            simp at c
            omega
          · exact cutL_one h32
        have g1 : List.getD ([ofL w, ofL S] : List ByteArray) (1 : Int).toNat ByteArray.empty = ofL S := rfl
        have in1 : (0 : Int) ≤ 1 ∧ (1 : Int) < (([w, S] : List (List UInt8)).length : Int) := by simp
        have h2l : ((([w, S] : List (List UInt8)).length : Nat) : Int) = 2 := rfl
        rw [hcs, bne_f h2l]
        simp only [List.map_cons, List.map_nil]
        rw [if_pos in1, g1, digits_val, if_neg hc, Option.bind_some, cnd_t (show (-1 : Int) < 0 by omega)]
        exact .mk hwhat
      · have c' : ((w :: cutL 32 S).length : Int) ≠ 2 := fun e => c (by simpa using e)
        rw [bne_t c']
        exact .mk hwhat
/-- All answers. -/
theorem ans_both (s : ByteArray) (hs : s.size ≤ 1099511627) : Both (i_answer_f (a, k, b, s)) (s_l15Answer_f (a, k, b, s)) := by
  have hm := PlP.sm h
  have hkk := h.2.1.2
  have hnone : 0 < str40.size := by decide
  rw [i_answer_f_eq, s_l15Answer_f_eq]
  have hne : ∀ x y : Bool, (x == y) = (x == y) := fun _ _ => rfl
  refine .cond (fun _ => ?_) fun _ => .cond (fun _ => ?_) fun _ => .cond (fun _ => ?_) fun _ => .cond (fun _ => ?_) fun _ => .cond (fun _ => ?_) fun _ => .cond (fun _ => ?_) fun _ => .cond (fun _ => ?_) fun _ => ?_
  · obtain ⟨e1, e2⟩ := ptx_val a k b (by omega)
    rw [e1, e2]
    refine .mk ?_
    obtain ⟨Y, hY, _⟩ := ptx_told h
    rw [szB, hY]
    simp
  · obtain ⟨r, r1, r2, e1, e2⟩ := ends_both h
    rw [e1, e2, Option.bind_some, Option.bind_some]
    refine .cond (fun _ => .mk (by decide)) fun hc => ?_
    have hr : ¬ r < 0 := of_decide_eq_false hc
    rw [itoaG_val (n := r) (by omega) (by omega), num_all (n := r) (by omega) (by omega), ← itoaG_eq]
    exact .mk (itoaG_pos r)
  · obtain ⟨i, n, h1, h2, e1, e2⟩ := loop_both h
    have z14 : str14.size = 1 := rfl
    have s1 := itoaG_size (n := (i : Int)) (by omega) (by omega)
    have s2 := itoaG_size (n := (n : Int) - (i : Int)) (by omega) (by omega)
    obtain ⟨f1, _⟩ := rows_both (l := [(i : Int), (n : Int) - (i : Int)]) (by simp) fun v hv => by
      rcases List.mem_cons.1 hv with e | hv
      · omega
      · rw [List.mem_singleton] at hv; omega
    have hrow : rowV [(i : Int), (n : Int) - (i : Int)] = itoaG (i : Int) ++ str14 ++ itoaG ((n : Int) - (i : Int)) := by
      unfold rowV
      rw [if_neg (by simp)]
      have := joinS_snoc (xs := [itoaG (i : Int)]) (by simp) (itoaG ((n : Int) - (i : Int))) str14
      rw [joinS_one] at this
      exact this
    rw [e1, e2, Option.bind_some, Option.bind_some]
    simp only
    rw [f1, num_all (n := (i : Int)) (by omega) (by omega), Option.bind_some, Option.bind_some, ← itoaG_eq, if_pos (show (itoaG (i : Int)).size + str14.size ≤ 9223372036854775807 by omega), num_all (n := (n : Int) - (i : Int)) (by omega) (by omega), Option.bind_some, ← itoaG_eq, if_pos (show (itoaG (i : Int) ++ str14).size + (itoaG ((n : Int) - (i : Int))).size ≤ 9223372036854775807 by rw [ByteArray.size_append]; omega), hrow]
    refine .mk ?_
    have := itoaG_pos (i : Int)
    rw [ByteArray.size_append, ByteArray.size_append]
    omega
  · obtain ⟨r, e1, e2, e3, e4⟩ := counts_val h.2.1
    obtain ⟨f1, f2⟩ := rows_both (l := r) (by omega) fun v hv => by have := e4 v hv; omega
    rw [e1, e2, Option.bind_some, Option.bind_some, f1, f2]
    exact .mk (rowV_pos r)
  · obtain ⟨r, e1, e2, e3, e4⟩ := parts_val h.1
    obtain ⟨f1, f2⟩ := rows_both (l := r) (by omega) fun v hv => by have := e4 v hv; omega
    rw [e1, e2, Option.bind_some, Option.bind_some, f1, f2]
    exact .mk (rowV_pos r)
  · by_cases c3 : k = 3
    · subst c3
      obtain ⟨r, ok, _, _, e1, e2, _⟩ := high_both h
      rw [show ((3 : Int) == 3) = true from rfl, show ((3 : Int) != 3) = false from rfl, Bool.not_true, cond_false, cond_false, e1, e2, Option.bind_some]
      exact .cond (fun _ => .mk (by decide)) fun _ => .mk (by decide)
    · rw [beq_false_of_ne c3, bne_iff_ne.2 c3, Bool.not_false, cond_true, cond_true]
      exact .mk hnone
  · by_cases c3 : k = 3
    · subst c3
      obtain ⟨r, ok, e1, e2, _, _, e3, e4⟩ := high_both h
      obtain ⟨f1, f2⟩ := rows_both (l := r) (by omega) fun v hv => by have := e4 v hv; omega
      rw [show ((3 : Int) == 3) = true from rfl, show ((3 : Int) != 3) = false from rfl, Bool.not_true, cond_false, cond_false, e1, e2, Option.bind_some, Option.bind_some]
      simp only
      rw [f1, f2]
      exact .mk (rowV_pos r)
    · rw [beq_false_of_ne c3, bne_iff_ne.2 c3, Bool.not_false, cond_true, cond_true]
      exact .mk hnone
  · have := ans_j0 h s.data.toList (by rw [Array.length_toList]; exact hs)
    rw [of_data] at this
    exact this
end
end FN

/-! Desks of the program: told, and copied. -/
namespace FN
open Go
theorem idesk (a : List Int) (k : Int) (b : List Int) (l : List Pl) (hb : b.length ≤ 4611686018427387904) (hl : l.length ≤ 4611686018427387904) (hs : ∀ p ∈ l, smP 4611686018427387904 p) : i_DeskOk_f (a, k, b, l) = some (decide (DkP a k b l)) := by
  apply Tells.val
  rw [i_DeskOk_f_eq]
  have hj : Tells (i_DeskOk_j1 a k b l) (PlP a k b ∧ l.length ≤ 8) := by
    rw [i_DeskOk_j1_eq, ipl _ _ _ hb, Option.bind_some]
    by_cases c : PlP a k b
    · rw [decide_eq_true c]; exact Tells.dec.iff ⟨fun h => ⟨c, by omega⟩, fun h => by omega⟩
    · rw [decide_eq_false c]; exact Tells.no fun h => c h.1
  have main : ∀ i, i ≤ l.length → Tells (i_DeskOk_l0 l (l.length : Int) (i : Int) a k b l) ((∀ j, i ≤ j → j < l.length → PlPp (l.getD j ([], 0, []))) ∧ (PlP a k b ∧ l.length ≤ 8)) := by
    refine advN ?_ fun i hi ih => ?_
    · refine (Tells.eq ?_ hj).iff ⟨fun h => ⟨fun j h1 h2 => by omega, h⟩, fun h => h.2⟩
      rw [i_DeskOk_l0_eq, cnd_f (by omega)]
    · have hm := hs _ (getD_mem (d := ([], 0, [])) hi)
      rw [i_DeskOk_l0_eq, cnd_t (by omega), if_pos (inN hi), gP, ipl _ _ _ hm.2, Option.bind_some, w1 hi (by omega)]
      by_cases c : PlPp (l.getD i ([], 0, []))
      · rw [decide_eq_true (show PlP (l.getD i ([], 0, [])).1 (l.getD i ([], 0, [])).2.1 (l.getD i ([], 0, [])).2.2 from c)]
        refine ih.iff ⟨fun h => ⟨fun j h1 h2 => ?_, h.2⟩, fun h => ⟨fun j h1 h2 => h.1 j (by omega) h2, h.2⟩⟩
        by_cases e : j = i
        · rw [e]; exact c
        · exact h.1 j (by omega) h2
      · rw [decide_eq_false (show ¬ PlP (l.getD i ([], 0, [])).1 (l.getD i ([], 0, [])).2.1 (l.getD i ([], 0, [])).2.2 from c)]
        exact Tells.no fun h => c (h.1 i (Nat.le_refl i) hi)
  refine (main 0 (by omega)).iff ⟨fun h => ⟨fun p hp => ?_, h.2⟩, fun h => ⟨fun j _ hj => h.1 _ (getD_mem hj), h.2⟩⟩
  obtain ⟨j, hj, rfl⟩ := List.getElem_of_mem hp
  have := h.1 j (by omega) hj
  rwa [List.getD_eq_getElem?_getD, List.getElem?_eq_getElem hj] at this
theorem clone_val (a : List Int) (h : a.length ≠ 0) (ha : a.length ≤ 1000000) : x_slices_Clone_int_int_f a = some a := by
  rw [x_slices_Clone_int_int_f_eq, if_pos ⟨rfl, h⟩, if_pos (by simp; omega)]
  rfl
theorem copyPlace_val (a : List Int) (k : Int) (b : List Int) (h : a.length ≠ 0) (h' : b.length ≠ 0) (ha : a.length ≤ 1000000) (hb : b.length ≤ 1000000) : i_copyPlace_f (a, k, b) = some (a, k, b) := by
  rw [i_copyPlace_f_eq, clone_val a h ha, Option.bind_some, clone_val b h' hb, Option.bind_some]
theorem copyPl {p : Pl} (h : PlPp p) : i_copyPlace_f (p.1, p.2.1, p.2.2) = some (p.1, p.2.1, p.2.2) := by
  have hm := PlP.sm h
  have h1 := h.1.lo
  have h2 := h.2.2
  exact copyPlace_val _ _ _ (by omega) (by omega) (by omega) (by omega)
theorem icopy_loop1 (a : List Int) (k : Int) (b : List Int) (l : List Pl) (y3 : Int) (hl : l.length ≤ 100) (hs : ∀ p ∈ l, PlPp p) : ∀ i, i ≤ l.length → i_copyDesk_l1 l (l.length : Int) (i : Int) y3 k a b (l.take i) = some (a, k, b, l) := by
  refine advN ?_ fun i hi ih => ?_
  · rw [i_copyDesk_l1_eq, cnd_f (by omega), List.take_length]
  · have hm := hs _ (getD_mem (d := ([], 0, [])) hi)
    rw [i_copyDesk_l1_eq, cnd_t (by omega), if_pos (inN hi), gP, copyPl hm, Option.bind_some, if_pos (by simp; omega), w1 hi (by omega)]
    have e : l.take (i + 1) = l.take i ++ [((l.getD i ([], 0, [])).1, (l.getD i ([], 0, [])).2.1, (l.getD i ([], 0, [])).2.2)] := by
      rw [List.take_succ_eq_append_getElem hi, List.getD_eq_getElem?_getD, List.getElem?_eq_getElem hi]; rfl
    rw [← e]
    exact ih
theorem icopy_val {a : List Int} {k : Int} {b : List Int} {l : List Pl} (h : DkP a k b l) : i_copyDesk_f (a, k, b, l) = some (a, k, b, l) := by
  have hl := h.2.2
  rw [i_copyDesk_f_eq, copyPl (p := (a, k, b)) h.2.1, Option.bind_some]
  simp only
  rw [i_copyDesk_l0_eq]
  by_cases c : 0 < l.length
  · have hm := h.1 _ (getD_mem (d := ([], 0, [])) c)
    have hg : List.getD l (0 : Int).toNat ([], 0, []) = l.getD 0 ([], 0, []) := rfl
    rw [cnd_t (by omega), if_pos ⟨by omega, by omega⟩, hg, copyPl hm, Option.bind_some, if_pos (by simp)]
    have e : l.take 1 = [] ++ [((l.getD 0 ([], 0, [])).1, (l.getD 0 ([], 0, [])).2.1, (l.getD 0 ([], 0, [])).2.2)] := by
      rw [List.take_succ_eq_append_getElem c, List.getD_eq_getElem?_getD, List.getElem?_eq_getElem c]; rfl
    rw [← e]
    exact icopy_loop1 a k b l 0 (by omega) h.1 1 (by omega)
  · have : l = [] := List.eq_nil_of_length_eq_zero (by omega)
    subst this
    rw [cnd_f (by simp)]
end FN

/-! What a deed makes of a place, as a value. -/
namespace FN
open Go
/-- The wire of two nodes, turned over. -/
noncomputable def flipV (a : List Int) (A B : Int) : List Int :=
  let z := List.set a A.toNat (Go.bits .xor IntKind.i64 (List.getD a A.toNat 0) (IntKind.i64.wrap (1 * 2 ^ min B.toNat IntKind.i64.bits)))
  List.set z B.toNat (Go.bits .xor IntKind.i64 (List.getD z B.toNat 0) (IntKind.i64.wrap (1 * 2 ^ min A.toNat IntKind.i64.bits)))
section
variable {a : List Int} {k : Int} {b : List Int} (h : PlP a k b)
include h
theorem made_eq (K A B : Int) : s_l15Made_f (a, k, b, K, A, B) =
    (let t2 : Option Pl := if K = 2 ∧ A = 0 ∧ B = 0 then some (a, k, stepV a k b) else if K = 3 ∧ B = 0 then some (a, A, b) else some ([], 0, [])
     let lt : Option Pl := if K = 1 ∧ B = 0 ∧ (0 ≤ A ∧ A < (a.length : Int)) ∧ b.getD A.toNat 0 = 0 then some (a, k, List.set b A.toNat 1) else t2
     if K = 0 ∧ (0 ≤ A ∧ A < (a.length : Int)) ∧ (0 ≤ B ∧ B < (a.length : Int)) ∧ A ≠ B then some (flipV a A B, k, b) else lt) := by
  have hm := PlP.sm h
  have he := h.2.2
  have hlo := h.1.lo
  have hW : IntKind.i64.wrap ((List.length a : Int) - 1) = (a.length : Int) - 1 := i64w (by omega) (by omega)
  rw [s_l15Made_f_eq, l15Place_val _ _ _ (by omega) (by omega), Option.bind_some, l1In_val, Option.bind_some, l1In_val, Option.bind_some, s_step h, Option.bind_some, hW]
  simp only [beq_self_eq_true, Bool.and_true, Bool.true_and, Option.bind_some]
  have e2 : (cond ((K == 2) && ((A == 0) && (B == 0))) (some (a, k, stepV a k b)) (cond ((K == 3) && (B == 0)) (some (a, A, b)) (some (([] : List Int), (0 : Int), ([] : List Int))))) =
      (if K = 2 ∧ A = 0 ∧ B = 0 then some (a, k, stepV a k b) else if K = 3 ∧ B = 0 then some (a, A, b) else some ([], 0, [])) := by
    by_cases c : K = 2 ∧ A = 0 ∧ B = 0
    · rw [if_pos c]; obtain ⟨rfl, rfl, rfl⟩ := c; rfl
    · rw [if_neg c]
      have : ((K == 2) && ((A == 0) && (B == 0))) = false := by
        apply Bool.eq_false_iff.2; intro hh; apply c; simpa using hh
      rw [this, cond_false]
      by_cases c' : K = 3 ∧ B = 0
      · rw [if_pos c']; obtain ⟨rfl, rfl⟩ := c'; rfl
      · rw [if_neg c']
        have : ((K == 3) && (B == 0)) = false := by
          apply Bool.eq_false_iff.2; intro hh; apply c'; simpa using hh
        rw [this, cond_false]
  rw [e2]
  generalize (if K = 2 ∧ A = 0 ∧ B = 0 then some (a, k, stepV a k b) else if K = 3 ∧ B = 0 then some (a, A, b) else some ([], 0, [])) = T2
  have e1 : (cond ((K == 1) && (B == 0)) (cond (decide (0 ≤ A ∧ A ≤ (a.length : Int) - 1)) (if (0 : Int) ≤ A ∧ A < (b.length : Int) then (cond (List.getD b A.toNat 0 == 0) (if (0 : Int) ≤ A ∧ A < (b.length : Int) then (some (a, k, List.set b A.toNat 1)) else none) T2) else none) T2) T2) =
      (if K = 1 ∧ B = 0 ∧ (0 ≤ A ∧ A < (a.length : Int)) ∧ b.getD A.toNat 0 = 0 then some (a, k, List.set b A.toNat 1) else T2) := by
    by_cases c : K = 1 ∧ B = 0
    · obtain ⟨rfl, rfl⟩ := c
      by_cases c1 : 0 ≤ A ∧ A < (a.length : Int)
      · rw [show ((1 : Int) == 1 && (0 : Int) == 0) = true from rfl, cond_true, cnd_t (by omega), if_pos (by omega), if_pos (by omega)]
        by_cases c2 : b.getD A.toNat 0 = 0
        · rw [beq_t c2, if_pos ⟨rfl, rfl, c1, c2⟩]
        · rw [beq_f c2, if_neg (fun hh => c2 hh.2.2.2)]
      · rw [show ((1 : Int) == 1 && (0 : Int) == 0) = true from rfl, cond_true, cnd_f (by omega), if_neg (fun hh => c1 hh.2.2.1)]
    · have : ((K == 1) && (B == 0)) = false := by
        apply Bool.eq_false_iff.2; intro hh; apply c; simpa using hh
      rw [this, cond_false, if_neg (fun hh => c ⟨hh.1, hh.2.1⟩)]
  rw [e1]
  generalize (if K = 1 ∧ B = 0 ∧ (0 ≤ A ∧ A < (a.length : Int)) ∧ b.getD A.toNat 0 = 0 then some (a, k, List.set b A.toNat 1) else T2) = LT
  by_cases c : K = 0
  · subst c
    rw [show ((0 : Int) == 0) = true from rfl, cond_true]
    by_cases hA : 0 ≤ A ∧ A < (a.length : Int)
    · rw [cnd_t (by omega)]
      by_cases hB : 0 ≤ B ∧ B < (a.length : Int)
      · rw [cnd_t (by omega)]
        by_cases hn : A ≠ B
        · rw [bne_t hn, if_pos hA, if_neg (by omega), if_pos hA, List.length_set, if_pos hB, if_neg (by omega), if_pos hB]
          simp only
          rw [if_pos ⟨trivial, hA, hB, hn⟩]
          rfl
        · rw [bne_f (by omega)]
          simp only
          rw [if_neg (fun hh => hn hh.2.2.2)]
      · rw [cnd_f (by omega)]
        simp only
        rw [if_neg (fun hh => hB hh.2.2.1)]
    · rw [cnd_f (by omega)]
      simp only
      rw [if_neg (fun hh => hA hh.2.1)]
  · rw [beq_f c, if_neg (fun hh => c hh.1)]
end
end FN

/-! Deeds: the program's and the reference's alike. -/
namespace FN
open Go
section
variable {a : List Int} {k : Int} {b : List Int} {l : List Pl} (h : DkP a k b l)
include h
/-- Behind what is made. -/
theorem do_made {K A B : Int} (hK : ¬ (K = 4 ∧ A = 0 ∧ B = 0 ∧ 0 < l.length)) {z : List Int} {κ : Int} {st : List Int} (hst : st.length ≤ 100)
    (hm : s_l15Made_f (a, k, b, K, A, B) = some (z, κ, st)) : s_DeskDo_f (a, k, b, l, K, A, B) = i_DeskDo_j4 a k b l 0 k κ a b l z st l := by
  have hp := PlP.sm h.2.1
  have hl := h.2.2
  have hsm : ∀ p ∈ l, smP 4611686018427387904 p := fun p hp => by have := PlP.sm (h.1 p hp); exact ⟨by omega, by omega⟩
  have hW : IntKind.i64.wrap ((List.length l : Int) - 1) = (l.length : Int) - 1 := i64w (by omega) (by omega)
  obtain ⟨t1, t1', t1''⟩ := placeText_same z κ st (by omega)
  obtain ⟨t2, t2', t2''⟩ := placeText_same a k b (by omega)
  rw [i_DeskDo_j4_eq, ipl z κ st (by omega), Option.bind_some, t1'', Option.bind_some, t2'', Option.bind_some]
  rw [s_DeskDo_f_eq, sdesk a k b l (by omega) (by omega) hsm, decide_eq_true h, Option.bind_some, Bool.not_true, cond_false, l15Copy_val h, Option.bind_some, hm, Option.bind_some]
  simp only [hW]
  rw [spl z κ st (by omega), Option.bind_some, t1', Option.bind_some, t2', Option.bind_some]
  have hlen : (l ++ ([(a, k, b)] : List (List Int × Int × List Int))).length = l.length + 1 := by simp
  have hmem : ∀ p ∈ l ++ ([(a, k, b)] : List (List Int × Int × List Int)), PlPp p := fun p hp => by
    rcases List.mem_append.1 hp with hp | hp
    · exact h.1 p hp
    · have : p = (a, k, b) := by simpa using hp
      rw [this]; exact h.2.1
  have main : (cond (!decide (PlP z κ st)) (some (a, k, b, l, false)) (cond (ByteArray.toList t1 == ByteArray.toList t2) (some (a, k, b, l, false)) (if (List.length l + List.length ([(a, k, b)] : List (List Int × Int × List Int))) * 56 ≤ 140737488355328 then (cond ((decide (8 < (List.length (l ++ ([(a, k, b)] : List (List Int × Int × List Int))) : Int)))) (if (0 : Int) ≤ 1 ∧ 1 ≤ (List.length (l ++ ([(a, k, b)] : List (List Int × Int × List Int))) : Int) then (s_DeskDo_j0 0 k (List.drop (1 : Int).toNat (List.take ((List.length (l ++ ([(a, k, b)] : List (List Int × Int × List Int))))) (l ++ ([(a, k, b)] : List (List Int × Int × List Int))))) κ z st) else none) (s_DeskDo_j1 0 k κ (l ++ ([(a, k, b)] : List (List Int × Int × List Int))) z st)) else none))) =
      (cond (!decide (PlP z κ st)) (some (a, k, b, l, false)) (cond (ByteArray.toList t1 == ByteArray.toList t2) (some (a, k, b, l, false)) (Option.bind (i_copyPlace_f (a, k, b)) fun r4 => (if (List.length l + List.length ([(r4.1, r4.2.1, r4.2.2)] : List (List Int × Int × List Int))) * 56 ≤ 140737488355328 then (cond ((decide (8 < (List.length (l ++ ([(r4.1, r4.2.1, r4.2.2)] : List (List Int × Int × List Int))) : Int)))) (if (0 : Int) ≤ 1 ∧ 1 ≤ (List.length (l ++ ([(r4.1, r4.2.1, r4.2.2)] : List (List Int × Int × List Int))) : Int) then (Option.bind (i_copyDesk_f (z, κ, st, (List.drop (1 : Int).toNat (List.take ((List.length (l ++ ([(r4.1, r4.2.1, r4.2.2)] : List (List Int × Int × List Int))))) (l ++ ([(r4.1, r4.2.1, r4.2.2)] : List (List Int × Int × List Int))))))) fun r5 => (some (r5.1, r5.2.1, r5.2.2.1, r5.2.2.2, true))) else none) (Option.bind (i_copyDesk_f (z, κ, st, (l ++ ([(r4.1, r4.2.1, r4.2.2)] : List (List Int × Int × List Int))))) fun r6 => (some (r6.1, r6.2.1, r6.2.2.1, r6.2.2.2, true)))) else none)))) := by
    by_cases hq : PlP z κ st
    · rw [decide_eq_true hq, Bool.not_true, cond_false, cond_false]
      cases (ByteArray.toList t1 == ByteArray.toList t2) with
      | true => rw [cond_true, cond_true]
      | false =>
        rw [cond_false, cond_false, copyPl (p := (a, k, b)) h.2.1, Option.bind_some]
        have h56 : (List.length l + List.length ([(a, k, b)] : List (List Int × Int × List Int))) * 56 ≤ 140737488355328 := by simp; omega
        have hin : (0 : Int) ≤ 1 ∧ 1 ≤ ((l.length + 1 : Nat) : Int) := ⟨by omega, by omega⟩
        simp only [if_pos h56, hlen, if_pos hin]
        by_cases c8 : (8 : Int) < ((l.length + 1 : Nat) : Int)
        · have hd : DkP z κ st (List.drop (1 : Int).toNat (List.take (l.length + 1) (l ++ ([(a, k, b)] : List (List Int × Int × List Int))))) := ⟨fun p hp' => hmem p (List.mem_of_mem_take (List.mem_of_mem_drop hp')), hq, by rw [List.length_drop, List.length_take, hlen, show (1 : Int).toNat = 1 from rfl]; omega⟩
          rw [cnd_t c8, cnd_t c8, s_DeskDo_j0_eq, icopy_val hd, Option.bind_some]
        · have hd : DkP z κ st (l ++ ([(a, k, b)] : List (List Int × Int × List Int))) := ⟨hmem, hq, by rw [hlen]; omega⟩
          rw [cnd_f c8, cnd_f c8, s_DeskDo_j1_eq, icopy_val hd, Option.bind_some]
    · rw [decide_eq_false hq, Bool.not_false, cond_true, cond_true]
  by_cases c4 : K = 4 ∧ A = 0 ∧ B = 0
  · obtain ⟨rfl, rfl, rfl⟩ := c4
    have : ¬ (0 : Int) < (l.length : Int) := fun hh => hK ⟨rfl, rfl, rfl, by omega⟩
    rw [show ((4 : Int) == 4 && ((0 : Int) == 0 && ((0 : Int) == 0 && true))) = true from rfl, cond_true, cnd_f this]
    exact main
  · have : (K == 4 && (A == 0 && (B == 0 && true))) = false := by
      apply Bool.eq_false_iff.2; intro hh; apply c4; simpa using hh
    rw [this, cond_false]
    exact main
end
end FN

namespace FN
open Go
section
variable {a : List Int} {k : Int} {b : List Int} {l : List Pl} (h : DkP a k b l)
include h
omit h in
theorem j5_no {z : List Int} {κ : Int} {st : List Int} (hst : st.length ≤ 100) (hn : ¬ PlP z κ st) : i_DeskDo_j4 a k b l 0 k κ a b l z st l = some (a, k, b, l, false) := by
  rw [i_DeskDo_j4_eq, ipl z κ st (by omega), Option.bind_some, decide_eq_false hn, Bool.not_false, cond_true]
omit h in
theorem no_zero : ¬ PlP [] 0 [] := fun h => by have := h.1.lo; simp at this
/-- What cannot be done. -/
theorem do_no {K A B : Int} (hK : ¬ (K = 4 ∧ A = 0 ∧ B = 0 ∧ 0 < l.length)) (hm : s_l15Made_f (a, k, b, K, A, B) = some ([], 0, [])) : s_DeskDo_f (a, k, b, l, K, A, B) = some (a, k, b, l, false) := by
  rw [do_made h hK (by simp) hm]
  exact j5_no (by simp) no_zero
/-- The program's, behind its tests of names. -/
theorem i_do_head (K A B : Int) : i_DeskDo_f (a, k, b, l, K, A, B) =
    if (K ≠ 0 ∧ B ≠ 0) ∨ ((K = 2 ∨ K = 4) ∧ A ≠ 0) then some (a, k, b, l, false) else i_DeskDo_j1 a k b l K A B 0 k k a b l a b l := by
  have hl := h.2.2
  have hb := PlP.sm h.2.1
  have hsm : ∀ p ∈ l, smP 4611686018427387904 p := fun p hp => by have := PlP.sm (h.1 p hp); exact ⟨by omega, by omega⟩
  rw [i_DeskDo_f_eq, idesk a k b l (by omega) (by omega) hsm, decide_eq_true h, Option.bind_some, Bool.not_true, cond_false, icopy_val h, Option.bind_some, Option.bind_some]
  simp only
  rw [i_DeskDo_j0_eq]
  by_cases k0 : K = 0
  · have n2 : K ≠ 2 := by omega
    have n4 : K ≠ 4 := by omega
    rw [bne_f k0, beq_f n2, beq_f n4, if_neg (by omega)]
  · rw [bne_t k0]
    by_cases b0 : B = 0
    · rw [bne_f b0]
      by_cases k2 : K = 2
      · rw [beq_t k2]
        by_cases a0 : A = 0
        · rw [bne_f a0, if_neg (by omega)]
        · rw [bne_t a0, if_pos (by omega)]
      · rw [beq_f k2]
        by_cases k4 : K = 4
        · rw [beq_t k4]
          by_cases a0 : A = 0
          · rw [bne_f a0, if_neg (by omega)]
          · rw [bne_t a0, if_pos (by omega)]
        · rw [beq_f k4, if_neg (by omega)]
    · rw [bne_t b0, if_pos (by omega)]
end
end FN

namespace FN
open Go
section
variable {a : List Int} {k : Int} {b : List Int} {l : List Pl} (h : DkP a k b l)
include h
omit h in
theorem clip_val (x : List Pl) (hx : x.length ≤ 1000) : x_impl_Place_f x = some x := by
  rw [x_impl_Place_f_eq, if_pos ⟨by omega, by omega, by omega⟩]
  by_cases c : (x.length : Int) = 0
  · rw [if_pos c, List.eq_nil_of_length_eq_zero (by omega : x.length = 0)]
  · rw [if_neg c]
    have : ((x.length : Int)).toNat = x.length := by omega
    rw [this, List.take_length]
theorem do_same (K A B : Int) : i_DeskDo_f (a, k, b, l, K, A, B) = s_DeskDo_f (a, k, b, l, K, A, B) := by
  have hp := PlP.sm h.2.1
  have hl := h.2.2
  have he := h.2.1.2.2
  have hlo := h.2.1.1.lo
  have hsm : ∀ p ∈ l, smP 4611686018427387904 p := fun p hp => by have := PlP.sm (h.1 p hp); exact ⟨by omega, by omega⟩
  have hW : IntKind.i64.wrap ((List.length l : Int) - 1) = (l.length : Int) - 1 := i64w (by omega) (by omega)
  have hme := made_eq h.2.1 K A B
  rw [i_do_head h]
  by_cases hh : (K ≠ 0 ∧ B ≠ 0) ∨ ((K = 2 ∨ K = 4) ∧ A ≠ 0)
  · rw [if_pos hh, do_no h (by omega)]
    rw [hme]
    simp only
    rw [if_neg (by omega), if_neg (by omega), if_neg (by omega), if_neg (by omega)]
  · rw [if_neg hh, i_DeskDo_j1_eq]
    by_cases k0 : K = 0
    · have n4 : ¬ (K = 4 ∧ A = 0 ∧ B = 0 ∧ 0 < l.length) := by omega
      have bad : ¬ ((0 ≤ A ∧ A < (a.length : Int)) ∧ (0 ≤ B ∧ B < (a.length : Int)) ∧ A ≠ B) → s_DeskDo_f (a, k, b, l, K, A, B) = some (a, k, b, l, false) := by
        intro hb
        rw [do_no h n4]
        rw [hme]
        simp only
        rw [if_neg (fun q => hb q.2), if_neg (by omega), if_neg (by omega), if_neg (by omega)]
      rw [beq_t k0]
      by_cases c1 : A < 0
      · rw [cnd_t c1, bad (by omega)]
      rw [cnd_f c1]
      by_cases c2 : (a.length : Int) ≤ A
      · rw [cnd_t c2, bad (by omega)]
      rw [cnd_f c2]
      by_cases c3 : B < 0
      · rw [cnd_t c3, bad (by omega)]
      rw [cnd_f c3]
      by_cases c4 : (a.length : Int) ≤ B
      · rw [cnd_t c4, bad (by omega)]
      rw [cnd_f c4]
      by_cases c5 : A = B
      · rw [beq_t c5, bad (by omega)]
      have hA : 0 ≤ A ∧ A < (a.length : Int) := ⟨by omega, by omega⟩
      have hB : 0 ≤ B ∧ B < (a.length : Int) := ⟨by omega, by omega⟩
      rw [beq_f c5, i_DeskDo_j2_eq, if_pos hA, if_neg (by omega), if_pos hA, i_DeskDo_j6_eq, List.length_set, if_pos hB, if_neg (by omega), if_pos hB]
      refine (do_made h n4 (z := flipV a A B) (κ := k) (st := b) (by omega) ?_).symm
      rw [hme]
      simp only
      rw [if_pos ⟨k0, hA, hB, c5⟩]
    rw [beq_f k0]
    have hB0 : B = 0 := by omega
    have m0 : ¬ (K = 0 ∧ (0 ≤ A ∧ A < (a.length : Int)) ∧ (0 ≤ B ∧ B < (a.length : Int)) ∧ A ≠ B) := fun q => k0 q.1
    by_cases k1 : K = 1
    · have n4 : ¬ (K = 4 ∧ A = 0 ∧ B = 0 ∧ 0 < l.length) := by omega
      have bad : ¬ ((0 ≤ A ∧ A < (a.length : Int)) ∧ b.getD A.toNat 0 = 0) → s_DeskDo_f (a, k, b, l, K, A, B) = some (a, k, b, l, false) := by
        intro hb
        rw [do_no h n4]
        rw [hme]
        simp only
        rw [if_neg m0, if_neg (fun q => hb q.2.2), if_neg (by omega), if_neg (by omega)]
      rw [beq_t k1]
      by_cases c1 : A < 0
      · rw [cnd_t c1, bad (by omega)]
      rw [cnd_f c1]
      by_cases c2 : (a.length : Int) ≤ A
      · rw [cnd_t c2, bad (by omega)]
      have hA : 0 ≤ A ∧ A < (b.length : Int) := ⟨by omega, by omega⟩
      rw [cnd_f c2, if_pos hA]
      by_cases c3 : List.getD b A.toNat 0 = 0
      · rw [bne_f c3, i_DeskDo_j3_eq, if_pos hA]
        refine (do_made h n4 (z := a) (κ := k) (st := List.set b A.toNat 1) (by rw [List.length_set]; omega) ?_).symm
        rw [hme]
        simp only
        rw [if_neg m0, if_pos ⟨k1, hB0, by omega, c3⟩]
      · rw [bne_t c3, bad (fun q => c3 q.2)]
    rw [beq_f k1]
    have m1 : ¬ (K = 1 ∧ B = 0 ∧ (0 ≤ A ∧ A < (a.length : Int)) ∧ b.getD A.toNat 0 = 0) := fun q => k1 q.1
    by_cases k2 : K = 2
    · have hA0 : A = 0 := by omega
      rw [beq_t k2, i_step h.2.1, Option.bind_some]
      refine (do_made h (by omega) (z := a) (κ := k) (st := stepV a k b) (by rw [stepV_len]; omega) ?_).symm
      rw [hme]
      simp only
      rw [if_neg m0, if_neg m1, if_pos ⟨k2, hA0, hB0⟩]
    rw [beq_f k2]
    by_cases k3 : K = 3
    · rw [beq_t k3]
      refine (do_made h (by omega) (z := a) (κ := A) (st := b) (by omega) ?_).symm
      rw [hme]
      simp only
      rw [if_neg m0, if_neg m1, if_neg (by omega), if_pos ⟨k3, hB0⟩]
    rw [beq_f k3]
    have hz : s_l15Made_f (a, k, b, K, A, B) = some ([], 0, []) := by
      rw [hme]
      simp only
      rw [if_neg m0, if_neg m1, if_neg (by omega), if_neg (by omega)]
    by_cases k4 : K = 4
    · have hA0 : A = 0 := by omega
      rw [beq_t k4, hW, i_DeskDo_j5_eq]
      by_cases c : 0 < l.length
      · have h1 : (0 : Int) ≤ (l.length : Int) - 1 ∧ (l.length : Int) - 1 < (l.length : Int) := ⟨by omega, by omega⟩
        have h2 : (0 : Int) ≤ (l.length : Int) - 1 ∧ (l.length : Int) - 1 ≤ (l.length : Int) := ⟨by omega, by omega⟩
        rw [cnd_f (by omega), i_DeskDo_j7_eq, if_pos h1, if_pos h2, clip_val _ (by rw [List.length_drop, List.length_take]; omega), Option.bind_some]
        obtain ⟨z, κ, st, hz', _⟩ := made_tot h.2.1 K A B
        rw [s_DeskDo_f_eq, sdesk a k b l (by omega) (by omega) hsm, decide_eq_true h, Option.bind_some, Bool.not_true, cond_false, l15Copy_val h, Option.bind_some]
        have e4 : (K == 4 && (A == 0 && (B == 0 && true))) = true := by rw [k4, hA0, hB0]; rfl
        simp only [hW]
        rw [e4, cond_true, cnd_t (by omega), if_pos h1, if_pos h2]
      · rw [cnd_t (by omega), do_no h (by omega) hz]
    · rw [beq_f k4, do_no h (by omega) hz]
end
end FN

/-! The reader of a code. -/
namespace FN
open Go
theorem pick_ok {l : List Int} (hl : Bytes l) (hn : l.length ≤ 2000) {p n : Int} (hp : 0 ≤ p) (hp' : p ≤ 1000000000) (h1 : 1 ≤ n) (hn' : n ≤ 1000000000) : ∃ v : Int, r_pick_f (l, p, n) = some (v, p + 1) ∧ 0 ≤ v ∧ v < n := by
  rw [r_pick_f_eq]
  have e1 : IntKind.i64.wrap (p + 1) = p + 1 := i64w (by omega) (by omega)
  have e2 : IntKind.i64.wrap (p + 1 - 1) = p := by rw [i64w (n := p + 1 - 1) (by omega) (by omega)]; omega
  simp only [e1, e2, and_self, if_true]
  rw [cnd_f (by omega)]
  by_cases hz : l.length = 0
  · rw [beq_t (by omega)]
    exact ⟨0, rfl, by omega, by omega⟩
  rw [beq_f (by omega)]
  by_cases hlt : p < (l.length : Int)
  · rw [cnd_t hlt, if_pos ⟨hp, hlt⟩, if_neg (by omega)]
    have hb := hl.get p.toNat
    rw [i64w (n := l.getD p.toNat 0) (by omega) (by omega)]
    exact ⟨_, rfl, Int.tmod_nonneg _ hb.1, Int.tmod_lt_of_pos _ (by omega)⟩
  · rw [cnd_f hlt, if_neg (by omega)]
    have a0 : 0 ≤ Int.tmod p (l.length : Int) := Int.tmod_nonneg _ hp
    have a1 : Int.tmod p (l.length : Int) < (l.length : Int) := Int.tmod_lt_of_pos _ (by omega)
    rw [if_pos ⟨a0, a1⟩, if_neg (by omega)]
    have e3 : IntKind.i64.wrap (IntKind.i64.wrap (p * 7) + 3) = p * 7 + 3 := by rw [i64w (n := p * 7) (by omega) (by omega), i64w (n := p * 7 + 3) (by omega) (by omega)]
    rw [e3]
    have b0 : 0 ≤ Int.tmod (p * 7 + 3) (l.length : Int) := Int.tmod_nonneg _ (by omega)
    have b1 : Int.tmod (p * 7 + 3) (l.length : Int) < (l.length : Int) := Int.tmod_lt_of_pos _ (by omega)
    rw [if_pos ⟨b0, b1⟩, if_neg (by omega), if_neg (by omega)]
    have c1 := hl.get (Int.tmod p (l.length : Int)).toNat
    have c2 := hl.get (Int.tmod (p * 7 + 3) (l.length : Int)).toNat
    generalize l.getD (Int.tmod p (l.length : Int)).toNat 0 = u at c1 ⊢
    generalize l.getD (Int.tmod (p * 7 + 3) (l.length : Int)).toNat 0 = v at c2 ⊢
    have d0 : 0 ≤ Int.tdiv p (l.length : Int) := Int.tdiv_nonneg hp (by omega)
    have d1 : Int.tdiv p (l.length : Int) ≤ p := Int.tdiv_le_self _ hp
    generalize Int.tdiv p (l.length : Int) = d at d0 d1 ⊢
    rw [i64w (n := u) (by omega) (by omega), i64w (n := v) (by omega) (by omega), i64w (n := d) (by omega) (by omega), i64w (n := u * 131) (by omega) (by omega), i64w (n := v * 1117) (by omega) (by omega), i64w (n := p * 29) (by omega) (by omega), i64w (n := d * 53) (by omega) (by omega), i64w (n := u * 131 + v * 1117) (by omega) (by omega), i64w (n := u * 131 + v * 1117 + p * 29) (by omega) (by omega), i64w (n := u * 131 + v * 1117 + p * 29 + d * 53) (by omega) (by omega)]
    have f0 : 0 ≤ u * 131 + v * 1117 + p * 29 + d * 53 := by omega
    have f1 : u * 131 + v * 1117 + p * 29 + d * 53 < 1000000000000 := by omega
    generalize u * 131 + v * 1117 + p * 29 + d * 53 = x at f0 f1 ⊢
    have g0 : 0 ≤ Int.tdiv x 64 := Int.tdiv_nonneg f0 (by omega)
    have g1 : Int.tdiv x 64 ≤ x := Int.tdiv_le_self _ f0
    rw [i64w (n := Int.tdiv x 64) (by omega) (by omega)]
    exact ⟨_, rfl, Int.tmod_nonneg _ (xor_nn f0 (by omega) g0 (by omega)), Int.tmod_lt_of_pos _ (by omega)⟩
theorem open_ok {l : List Int} (hl : Bytes l) : ∃ b : List Int, s_l20Open_f l = some (b, 0) ∧ Bytes b ∧ b.length ≤ 2000 := by
  rw [s_l20Open_f_eq]
  by_cases h : 2000 < (l.length : Int)
  · rw [cnd_t h, if_pos (by omega)]
    exact ⟨_, rfl, fun x hx => hl x (List.mem_of_mem_take (List.mem_of_mem_drop hx)), by simp; omega⟩
  · rw [cnd_f h]
    exact ⟨_, rfl, hl, by omega⟩
end FN

/-! What is drawn: nets, states, places. -/
namespace FN
open Go
theorem lenle {a b : Nat} (ha : a ≤ 100) (hb : b ≤ 100) : (a + b) * 8 ≤ 140737488355328 := by omega
theorem path_j {n : Int} (k : Nat) (hk : (k : Int) < n) (hn : n ≤ 6) (ih : ∀ y : List Int, y.length = k + 1 → ∃ l : List Int, s_PathNet_l0 n ((k + 1 : Nat) : Int) y = some l ∧ (l.length : Int) = n) (v : Int) (y : List Int) (hy : y.length = k) :
    ∃ l : List Int, s_PathNet_j1 n (k : Int) v y = some l ∧ (l.length : Int) = n := by
  rw [s_PathNet_j1_eq, w1 (n := k + 1) (by omega) (by omega)]
  by_cases h : ((k + 1 : Nat) : Int) < n
  · rw [cnd_t h, if_neg (by omega), if_pos (lenle (by omega) (by simp))]
    exact ih _ (by simp [hy])
  · rw [cnd_f h, if_pos (lenle (by omega) (by simp))]
    exact ih _ (by simp [hy])
theorem path_loop {n : Nat} (h1 : 1 ≤ n) (hn : n ≤ 6) : ∀ i, i ≤ n → ∀ y : List Int, y.length = i → ∃ l : List Int, s_PathNet_l0 (n : Int) (i : Int) y = some l ∧ (l.length : Int) = n := by
  refine advN ?_ fun i hi ih => ?_
  · intro y hy
    rw [s_PathNet_l0_eq, cnd_f (by omega)]
    exact ⟨y, rfl, by omega⟩
  · intro y hy
    rw [s_PathNet_l0_eq, cnd_t (by omega), l1In_val, Option.bind_some, cnd_t (show (1 : Int) ≤ n ∧ (n : Int) ≤ 6 by omega)]
    by_cases c : (0 : Int) < i
    · rw [cnd_t c, wsub (by omega) (by omega), if_neg (by omega)]
      exact path_j i (by omega) (by omega) ih _ y hy
    · rw [cnd_f c]
      exact path_j i (by omega) (by omega) ih _ y hy
theorem path_ok {n : Nat} (h1 : 1 ≤ n) (hn : n ≤ 6) : ∃ l : List Int, s_PathNet_f (n : Int) = some l ∧ l.length = n := by
  obtain ⟨l, h, hl⟩ := path_loop h1 hn 0 (by omega) [] rfl
  exact ⟨l, by rw [s_PathNet_f_eq]; exact h, by omega⟩
theorem ring_loop {n : Nat} (h1 : 3 ≤ n) (hn : n ≤ 6) : ∀ i, i ≤ n → ∀ y : List Int, y.length = i → ∃ l : List Int, s_RingNet_l0 (n : Int) (i : Int) y = some l ∧ (l.length : Int) = n := by
  refine advN ?_ fun i hi ih => ?_
  · intro y hy
    rw [s_RingNet_l0_eq, cnd_f (by omega)]
    exact ⟨y, rfl, by omega⟩
  · intro y hy
    rw [s_RingNet_l0_eq, cnd_t (by omega), l1In_val, Option.bind_some, cnd_t (show (3 : Int) ≤ n ∧ (n : Int) ≤ 6 by omega), if_neg (by omega), w1 (n := i + 1) (by omega) (by omega)]
    have e : IntKind.i64.wrap ((i : Int) + (n : Int)) = ((i + n : Nat) : Int) := by rw [i64w (by omega) (by omega)]; omega
    have e1 : IntKind.i64.wrap (IntKind.i64.wrap ((i : Int) + (n : Int)) - 1) = ((i + n - 1 : Nat) : Int) := by rw [e, i64w (by omega) (by omega)]; omega
    rw [e1]
    have t1 : ¬ (Int.tmod ((i + 1 : Nat) : Int) n < 0) := by have := Int.tmod_nonneg (n : Int) (show (0 : Int) ≤ ((i + 1 : Nat) : Int) by omega); omega
    have t2 : ¬ (Int.tmod ((i + n - 1 : Nat) : Int) n < 0) := by have := Int.tmod_nonneg (n : Int) (show (0 : Int) ≤ ((i + n - 1 : Nat) : Int) by omega); omega
    rw [if_neg t1, if_neg (by omega), if_neg t2, if_pos (lenle (by omega) (by simp))]
    exact ih _ (by simp [hy])
theorem ring_ok {n : Nat} (h1 : 3 ≤ n) (hn : n ≤ 6) : ∃ l : List Int, s_RingNet_f (n : Int) = some l ∧ l.length = n := by
  obtain ⟨l, h, hl⟩ := ring_loop h1 hn 0 (by omega) [] rfl
  exact ⟨l, by rw [s_RingNet_f_eq]; exact h, by omega⟩
theorem odd0 (l : List Int) (p : Int) : r_odd_f (l, p, 0) = some (false, p) := by
  rw [r_odd_f_eq, cnd_f (by omega)]
  simp
section
variable {l : List Int} (hl : Bytes l) (hn : l.length ≤ 2000)
include hl hn
theorem odd_ok {p n : Int} (hp : 0 ≤ p) (hp' : p ≤ 1000000000) (hn' : n ≤ 1000000000) : ∃ (b : Bool) (q : Int), r_odd_f (l, p, n) = some (b, q) ∧ p ≤ q ∧ q ≤ p + 1 := by
  rw [r_odd_f_eq]
  by_cases h : 0 < n
  · obtain ⟨v, h1, h2, h3⟩ := pick_ok hl hn hp hp' (show 1 ≤ n by omega) hn'
    rw [cnd_t h, h1, Option.bind_some, if_pos ⟨rfl, rfl⟩]
    exact ⟨_, p + 1, rfl, by omega, by omega⟩
  · rw [cnd_f h, if_pos ⟨rfl, rfl⟩]
    exact ⟨_, p, rfl, by omega, by omega⟩
theorem l20Net_loop {n : Nat} (h1 : 1 ≤ n) (h6 : n ≤ 6) : ∀ k : Nat, k ≤ 6 → ∀ (p : Int) (y : List Int), 0 ≤ p → p + 2 * (k : Int) ≤ 900000000 → y.length = n →
    ∃ (z : List Int) (q : Int), s_l20Net_l1 l 0 (n : Int) (k : Int) l p y = some (z, q) ∧ z.length = n ∧ p ≤ q ∧ q ≤ p + 2 * k := by
  intro k
  induction k with
  | zero =>
    intro _ p y hp hp' hy
    rw [s_l20Net_l1_eq, cnd_f (by omega), s_l20Net_j2_eq, odd0, Option.bind_some]
    exact ⟨y, p, by simp, hy, by omega, by omega⟩
  | succ k ih =>
    intro hk p y hp hp' hy
    rw [s_l20Net_l1_eq, cnd_t (by omega)]
    obtain ⟨a, e1, a0, a1⟩ := pick_ok hl hn hp (by omega) (show (1 : Int) ≤ n by omega) (by omega)
    obtain ⟨b, e2, b0, b1⟩ := pick_ok hl hn (show 0 ≤ p + 1 by omega) (by omega) (show (1 : Int) ≤ n by omega) (by omega)
    have hk1 : IntKind.i64.wrap (((k + 1 : Nat) : Int) - 1) = (k : Int) := by rw [wsub (by omega) (by omega)]; omega
    rw [e1, Option.bind_some, e2, Option.bind_some, hk1]
    simp only
    have ra : (0 : Int) ≤ a ∧ a < (y.length : Int) := ⟨a0, by omega⟩
    have rb : ∀ w : List Int, w.length = n → (0 : Int) ≤ b ∧ b < (w.length : Int) := fun w hw => ⟨b0, by omega⟩
    cases hc : (a != b) with
    | true =>
      rw [cond_true, if_pos ra, if_neg (show ¬ (b : Int) < 0 by omega), if_pos ra, if_pos (rb _ (by simp [hy])), if_neg (show ¬ (a : Int) < 0 by omega), if_pos (rb _ (by simp [hy]))]
      obtain ⟨z, q, g1, g2, g3, g4⟩ := ih (by omega) (p + 1 + 1) _ (by omega) (by omega) (show (List.set (List.set y (a : Int).toNat (Go.bits .or IntKind.i64 (List.getD y (a : Int).toNat 0) (IntKind.i64.wrap (1 * 2 ^ min (b : Int).toNat IntKind.i64.bits)))) (b : Int).toNat (Go.bits .or IntKind.i64 (List.getD (List.set y (a : Int).toNat (Go.bits .or IntKind.i64 (List.getD y (a : Int).toNat 0) (IntKind.i64.wrap (1 * 2 ^ min (b : Int).toNat IntKind.i64.bits)))) (b : Int).toNat 0) (IntKind.i64.wrap (1 * 2 ^ min (a : Int).toNat IntKind.i64.bits)))).length = n by simp [hy])
      exact ⟨z, q, g1, g2, by omega, by omega⟩
    | false =>
      rw [cond_false]
      obtain ⟨z, q, g1, g2, g3, g4⟩ := ih (by omega) (p + 1 + 1) y (by omega) (by omega) hy
      exact ⟨z, q, g1, g2, by omega, by omega⟩
theorem l20Net_j {n : Nat} (h1 : 1 ≤ n) (h6 : n ≤ 6) (p : Int) (y : List Int) (hp : 0 ≤ p) (hp' : p ≤ 800000000) (hy : y.length = n) :
    ∃ (z : List Int) (q : Int), s_l20Net_j0 l 0 (n : Int) l p y = some (z, q) ∧ z.length = n ∧ p ≤ q ∧ q ≤ p + 20 := by
  obtain ⟨v, e, v0, v1⟩ := pick_ok hl hn hp (by omega) (show (1 : Int) ≤ 6 by omega) (by omega)
  obtain ⟨m, rfl⟩ : ∃ m : Nat, v = m := ⟨v.toNat, by omega⟩
  rw [s_l20Net_j0_eq, e, Option.bind_some]
  obtain ⟨z, q, g1, g2, g3, g4⟩ := l20Net_loop hl hn h1 h6 m (by omega) (p + 1) y (by omega) (by omega) hy
  exact ⟨z, q, g1, g2, by omega, by omega⟩
theorem l20Net_ok {p : Int} (hp : 0 ≤ p) (hp' : p ≤ 700000000) : ∃ (z : List Int) (q : Int), s_l20Net_f (l, p, 0) = some (z, q) ∧ 1 ≤ z.length ∧ z.length ≤ 6 ∧ p ≤ q ∧ q ≤ p + 30 := by
  obtain ⟨v, e, v0, v1⟩ := pick_ok hl hn hp (by omega) (show (1 : Int) ≤ 6 by omega) (by omega)
  obtain ⟨m, rfl⟩ : ∃ m : Nat, v = m := ⟨v.toNat, by omega⟩
  have hm : IntKind.i64.wrap (1 + (m : Int)) = ((m + 1 : Nat) : Int) := by rw [i64w (by omega) (by omega)]; omega
  rw [s_l20Net_f_eq, e, Option.bind_some]
  simp only [hm]
  obtain ⟨pn, e1, e2⟩ := path_ok (n := m + 1) (by omega) (by omega)
  obtain ⟨u, e3, u0, u1⟩ := pick_ok hl hn (show 0 ≤ p + 1 by omega) (by omega) (show (1 : Int) ≤ 4 by omega) (by omega)
  rw [e1, Option.bind_some, e3, Option.bind_some]
  simp only
  have fin : ∀ y : List Int, y.length = m + 1 → ∃ (z : List Int) (q : Int), s_l20Net_j0 l 0 ((m + 1 : Nat) : Int) l (p + 1 + 1) y = some (z, q) ∧ 1 ≤ z.length ∧ z.length ≤ 6 ∧ p ≤ q ∧ q ≤ p + 30 := fun y hy => by
    obtain ⟨z, q, g1, g2, g3, g4⟩ := l20Net_j hl hn (n := m + 1) (by omega) (by omega) (p + 1 + 1) y (by omega) (by omega) hy
    exact ⟨z, q, g1, by omega, by omega, by omega, by omega⟩
  cases c0 : (u == 0) with
  | true =>
    rw [cond_true]
    by_cases h3 : (3 : Int) ≤ ((m + 1 : Nat) : Int)
    · obtain ⟨rn, e4, e5⟩ := ring_ok (n := m + 1) (by omega) (by omega)
      rw [cnd_t h3, e4, Option.bind_some]
      exact fin rn e5
    · rw [cnd_f h3]
      exact fin pn e2
  | false =>
    rw [cond_false]
    cases c1 : (u == 1) with
    | true =>
      rw [cond_true, if_pos (by omega)]
      exact fin _ (by simp)
    | false =>
      rw [cond_false]
      exact fin pn e2
theorem l20State_loop {n : Nat} (h6 : n ≤ 6) {k t : Int} (hk : 1 ≤ k) (hk' : k ≤ 100) : ∀ i, i ≤ n → ∀ (p : Int) (y : List Int), 0 ≤ p → p ≤ 700000000 + 2 * (i : Int) → y.length = i →
    ∃ (z : List Int) (q : Int), s_l20State_l0 l (n : Int) k 0 t (i : Int) l p y = some (z, q) ∧ z.length = n ∧ p ≤ q ∧ q ≤ p + 2 * ((n : Int) - i) := by
  refine advN ?_ fun i hi ih => ?_
  · intro p y hp hp' hy
    rw [s_l20State_l0_eq, cnd_f (by omega), s_l20State_j1_eq, odd0, Option.bind_some]
    exact ⟨y, p, by simp, hy, by omega, by omega⟩
  · intro p y hp hp' hy
    have hw : IntKind.i64.wrap ((i : Int) + 1) = ((i + 1 : Nat) : Int) := w1 hi (by omega)
    rw [s_l20State_l0_eq, cnd_t (by omega)]
    simp only [hw]
    by_cases c : 0 < t
    · obtain ⟨v, e, v0, v1⟩ := pick_ok hl hn hp (by omega) (show (1 : Int) ≤ 3 by omega) (by omega)
      rw [cnd_t c, e, Option.bind_some]
      simp only
      by_cases d : v < t
      · rw [cnd_t d, if_pos (lenle (by omega) (by simp))]
        obtain ⟨z, q, g1, g2, g3, g4⟩ := ih (p + 1) (y ++ [0]) (by omega) (by omega) (by simp [hy])
        exact ⟨z, q, g1, g2, by omega, by omega⟩
      · obtain ⟨u, e2, u0, u1⟩ := pick_ok hl hn (show 0 ≤ p + 1 by omega) (by omega) hk (by omega)
        rw [cnd_f d, e2, Option.bind_some, if_pos (lenle (by omega) (by simp))]
        obtain ⟨z, q, g1, g2, g3, g4⟩ := ih (p + 1 + 1) (y ++ [u]) (by omega) (by omega) (by simp [hy])
        exact ⟨z, q, g1, g2, by omega, by omega⟩
    · obtain ⟨u, e2, u0, u1⟩ := pick_ok hl hn hp (by omega) hk (by omega)
      rw [cnd_f c, e2, Option.bind_some, if_pos (lenle (by omega) (by simp))]
      obtain ⟨z, q, g1, g2, g3, g4⟩ := ih (p + 1) (y ++ [u]) (by omega) (by omega) (by simp [hy])
      exact ⟨z, q, g1, g2, by omega, by omega⟩
theorem l20State_ok {n : Nat} (h6 : n ≤ 6) {k : Int} (hk : 1 ≤ k) (hk' : k ≤ 100) {p : Int} (hp : 0 ≤ p) (hp' : p ≤ 600000000) : ∃ (z : List Int) (q : Int), s_l20State_f (l, p, (n : Int), k, 0) = some (z, q) ∧ z.length = n ∧ p ≤ q ∧ q ≤ p + 20 := by
  obtain ⟨v, e, v0, v1⟩ := pick_ok hl hn hp (by omega) (show (1 : Int) ≤ 3 by omega) (by omega)
  rw [s_l20State_f_eq, e, Option.bind_some]
  obtain ⟨z, q, g1, g2, g3, g4⟩ := l20State_loop hl hn h6 (t := v) hk hk' 0 (by omega) (p + 1) [] (by omega) (by omega) rfl
  exact ⟨z, q, g1, g2, by omega, by omega⟩
theorem l20Place_ok {n : Int} (hn' : n ≤ 1000000000) {p : Int} (hp : 0 ≤ p) (hp' : p ≤ 500000000) : ∃ (a : List Int) (k : Int) (b : List Int) (q : Int), s_l20Place_f (l, p, n) = some (a, k, b, q) ∧ a.length ≤ 6 ∧ b.length ≤ 7 ∧ p ≤ q ∧ q ≤ p + 100 := by
  obtain ⟨z, q, e1, z1, z6, q1, q2⟩ := l20Net_ok hl hn hp (by omega)
  obtain ⟨u, e2, u0, u1⟩ := pick_ok hl hn (show 0 ≤ q by omega) (by omega) (show (1 : Int) ≤ 3 by omega) (by omega)
  obtain ⟨v, e3, v0, v1⟩ := pick_ok hl hn (show 0 ≤ q + 1 by omega) (by omega) (show (1 : Int) ≤ 2 by omega) (by omega)
  have huv : 0 ≤ u * v ∧ u * v ≤ 2 := by
    rcases (show v = 0 ∨ v = 1 by omega) with rfl | rfl
    · simp
    · simp; omega
  have hw : IntKind.i64.wrap (3 + IntKind.i64.wrap (u * v)) = 3 + u * v := by rw [i64w (n := u * v) (by omega) (by omega), i64w (by omega) (by omega)]
  rw [s_l20Place_f_eq, e1, Option.bind_some, e2, Option.bind_some, e3, Option.bind_some]
  simp only [hw]
  obtain ⟨s, q', e4, s1, q3, q4⟩ := l20State_ok hl hn z6 (k := 3 + u * v) (by omega) (by omega) (show 0 ≤ q + 1 + 1 by omega) (by omega)
  obtain ⟨o, q5, e5, q6, q7⟩ := odd_ok hl hn (show 0 ≤ q' by omega) (by omega) hn'
  rw [e4, Option.bind_some, e5, Option.bind_some]
  simp only
  cases o with
  | false =>
    rw [cond_false, if_pos (by simp)]
    exact ⟨z, _, s, q5, rfl, z6, by omega, by omega, by omega⟩
  | true =>
    obtain ⟨w, e6, w0, w2⟩ := pick_ok hl hn (show 0 ≤ q5 by omega) (by omega) (show (1 : Int) ≤ 3 by omega) (by omega)
    rw [cond_true, e6, Option.bind_some]
    simp only
    cases c0 : (w == 0) with
    | true =>
      rw [cond_true, if_pos (lenle (by omega) (by simp)), if_pos (by simp)]
      exact ⟨z, _, s ++ [0], q5 + 1, rfl, z6, by simp; omega, by omega, by omega⟩
    | false =>
      rw [cond_false]
      cases c1 : (w == 1) with
      | true =>
        obtain ⟨x, e7, x0, x2⟩ := pick_ok hl hn (show 0 ≤ q5 + 1 by omega) (by omega) (show (1 : Int) ≤ 2 by omega) (by omega)
        rw [cond_true, e7, Option.bind_some]
        simp only
        rw [if_pos ⟨x0, by simpa using x2⟩, if_pos (by simp)]
        exact ⟨z, _, s, q5 + 1 + 1, rfl, z6, by omega, by omega, by omega⟩
      | false =>
        rw [cond_false, if_pos (by simp)]
        exact ⟨[], 0, [], q5 + 1, rfl, by simp, by simp, by omega, by omega⟩
end
end FN

/-! What is the same, is told so. -/
namespace FN
open Go
theorem sameInts_loop (a : List Int) (ha : a.length ≤ 4611686018427387904) : ∀ i, i ≤ a.length → w_sameInts_l0 a a (i : Int) = some true := by
  refine advN ?_ fun i hi ih => ?_
  · rw [w_sameInts_l0_eq, cnd_f (by omega)]
  · rw [w_sameInts_l0_eq, cnd_t (by omega), if_pos (inN hi), if_pos (inN hi), bne_f rfl, w1 hi (by omega)]
    exact ih
theorem sameInts_refl (a : List Int) (ha : a.length ≤ 4611686018427387904) : w_sameInts_f (a, a) = some true := by
  rw [w_sameInts_f_eq, bne_f rfl]
  exact sameInts_loop a ha 0 (by omega)
theorem samePlace_refl (a : List Int) (k : Int) (b : List Int) (ha : a.length ≤ 4611686018427387904) (hb : b.length ≤ 4611686018427387904) : w_samePlace_f (a, k, b, a, k, b) = some true := by
  rw [w_samePlace_f_eq, sameInts_refl a ha, Option.bind_some, cond_true, sameInts_refl b hb]
  simp
theorem alive_yes : w_alive_f () = some true := by
  rw [w_alive_f_eq, inet, Option.bind_some, inet, decide_eq_true (show NetP [2, 1] by decide), cond_true, decide_eq_false (show ¬ NetP [1] by decide)]
  rfl
end FN

/-! A desk after deeds, as a value. -/
namespace FN
open Go
abbrev Dk := List Int × Int × List Int × List Pl
abbrev DkOk (d : Dk) : Prop := DkP d.1 d.2.1 d.2.2.1 d.2.2.2
abbrev nowP (d : Dk) : Pl := (d.1, d.2.1, d.2.2.1)
/-- What a deed makes of a place. -/
noncomputable def madeV (p : Pl) (x : Dd3) : Pl := (s_l15Made_f (p.1, p.2.1, p.2.2, x.1, x.2.1, x.2.2)).getD ([], 0, [])
/-- It can be done, and is not the way back. -/
noncomputable def canV (p : Pl) (x : Dd3) : Bool := decide (PlP (madeV p x).1 (madeV p x).2.1 (madeV p x).2.2) && !decide (ptx (madeV p x).1 (madeV p x).2.1 (madeV p x).2.2 = ptx p.1 p.2.1 p.2.2)
def bkB (x : Dd3) (n : Nat) : Bool := decide (x.1 = 4 ∧ x.2.1 = 0 ∧ x.2.2 = 0 ∧ 0 < n)
def pastV (d : Dk) : List Pl := if 8 < (d.2.2.2 ++ [nowP d]).length then (d.2.2.2 ++ [nowP d]).drop 1 else d.2.2.2 ++ [nowP d]
def backV (d : Dk) : Dk := ((d.2.2.2.getD (d.2.2.2.length - 1) ([], 0, [])).1, (d.2.2.2.getD (d.2.2.2.length - 1) ([], 0, [])).2.1, (d.2.2.2.getD (d.2.2.2.length - 1) ([], 0, [])).2.2, d.2.2.2.take (d.2.2.2.length - 1))
noncomputable def doV (d : Dk) (x : Dd3) : Dk × Bool :=
  if bkB x d.2.2.2.length = true then (backV d, true)
  else if canV (nowP d) x = true then (((madeV (nowP d) x).1, (madeV (nowP d) x).2.1, (madeV (nowP d) x).2.2, pastV d), true) else (d, false)
theorem backV_ok {d : Dk} (h : DkOk d) (h0 : 0 < d.2.2.2.length) : DkOk (backV d) := by
  have hp := h.1 _ (getD_mem (d := ([], 0, [])) (show d.2.2.2.length - 1 < d.2.2.2.length by omega))
  exact ⟨fun p hp' => h.1 p (List.mem_of_mem_take hp'), hp, by have := h.2.2; show (d.2.2.2.take _).length ≤ 8; rw [List.length_take]; omega⟩
theorem doV_ok {d : Dk} (h : DkOk d) (x : Dd3) : DkOk (doV d x).1 := by
  unfold doV
  split
  · rename_i hb
    exact backV_ok h (by unfold bkB at hb; simpa using (of_decide_eq_true hb).2.2.2)
  · split
    · rename_i hc
      unfold canV at hc
      rw [Bool.and_eq_true] at hc
      have hmem : ∀ p ∈ d.2.2.2 ++ [nowP d], PlPp p := fun p hp => by
        rcases List.mem_append.1 hp with hp | hp
        · exact h.1 p hp
        · have : p = nowP d := by simpa using hp
          rw [this]; exact h.2.1
      have hq : PlP (madeV (nowP d) x).1 (madeV (nowP d) x).2.1 (madeV (nowP d) x).2.2 := by
        have := hc.1
        rwa [decide_eq_true_eq] at this
      have key : ∀ (m : Pl) (l : List Pl), PlP m.1 m.2.1 m.2.2 → (∀ p ∈ l, PlPp p) → l.length ≤ 8 → DkOk (m.1, m.2.1, m.2.2, l) := fun m l h1 h2 h3 => ⟨h2, h1, h3⟩
      refine key _ _ hq (fun p hp => ?_) ?_
      · have hp' : p ∈ pastV d := hp
        unfold pastV at hp'
        split at hp'
        · exact hmem p (List.mem_of_mem_drop hp')
        · exact hmem p hp'
      · have h8 := h.2.2
        unfold pastV
        split
        · rw [List.length_drop, List.length_append, List.length_singleton]; omega
        · omega
    · exact h
theorem doV_no {d : Dk} {x : Dd3} (h : (doV d x).2 = false) : (doV d x).1 = d := by
  unfold doV at h ⊢
  split at h
  · cases h
  · rename_i h1
    rw [if_neg h1]
    split at h
    · cases h
    · rename_i h2; rw [if_neg h2]
theorem do_val {d : Dk} (h : DkOk d) (x : Dd3) : s_DeskDo_f (d.1, d.2.1, d.2.2.1, d.2.2.2, x.1, x.2.1, x.2.2) = some ((doV d x).1.1, (doV d x).1.2.1, (doV d x).1.2.2.1, (doV d x).1.2.2.2, (doV d x).2) := by
  obtain ⟨a, k, b, l⟩ := d
  obtain ⟨K, A, B⟩ := x
  have h' : DkP a k b l := h
  have hl := h'.2.2
  have hsz := PlP.sm h'.2.1
  by_cases h4 : K = 4 ∧ A = 0 ∧ B = 0 ∧ 0 < l.length
  · have e : doV (a, k, b, l) (K, A, B) = (backV (a, k, b, l), true) := by
      unfold doV
      rw [if_pos (show bkB (K, A, B) l.length = true from decide_eq_true h4)]
    rw [e]
    obtain ⟨k4, A0, B0, c⟩ := h4
    have hsm : ∀ p ∈ l, smP 4611686018427387904 p := fun p hp => by have := PlP.sm (h'.1 p hp); exact ⟨by omega, by omega⟩
    have hW : IntKind.i64.wrap ((List.length l : Int) - 1) = (l.length : Int) - 1 := i64w (by omega) (by omega)
    have h1 : (0 : Int) ≤ (l.length : Int) - 1 ∧ (l.length : Int) - 1 < (l.length : Int) := ⟨by omega, by omega⟩
    have h2 : (0 : Int) ≤ (l.length : Int) - 1 ∧ (l.length : Int) - 1 ≤ (l.length : Int) := ⟨by omega, by omega⟩
    obtain ⟨z, κ, st, hz', _⟩ := made_tot h'.2.1 K A B
    rw [s_DeskDo_f_eq, sdesk a k b l (by omega) (by omega) hsm, decide_eq_true h', Option.bind_some, Bool.not_true, cond_false, l15Copy_val h', Option.bind_some]
    have e4 : (K == 4 && (A == 0 && (B == 0 && true))) = true := by rw [k4, A0, B0]; rfl
    simp only [hW]
    rw [e4, cond_true, cnd_t (by omega), if_pos h1, if_pos h2]
    have hi : ((l.length : Int) - 1).toNat = l.length - 1 := by omega
    rw [hi]
    rfl
  · obtain ⟨z, κ, st, hz, hst⟩ := made_tot h'.2.1 K A B
    have hmv : madeV (a, k, b) (K, A, B) = (z, κ, st) := by unfold madeV; rw [hz]; rfl
    have hb : ¬ bkB (K, A, B) l.length = true := fun hh => h4 (of_decide_eq_true hh)
    show s_DeskDo_f (a, k, b, l, K, A, B) = _
    rw [do_made h' h4 hst hz, i_DeskDo_j4_eq, ipl z κ st (by omega), Option.bind_some, (ptx_val z κ st (by omega)).1, Option.bind_some, (ptx_val a k b (by omega)).1, Option.bind_some]
    unfold doV
    simp only
    rw [if_neg hb]
    unfold canV
    simp only [hmv]
    have hlen : (l ++ ([(a, k, b)] : List (List Int × Int × List Int))).length = l.length + 1 := by simp
    have hmem : ∀ p ∈ l ++ ([(a, k, b)] : List (List Int × Int × List Int)), PlPp p := fun p hp => by
      rcases List.mem_append.1 hp with hp | hp
      · exact h'.1 p hp
      · have : p = (a, k, b) := by simpa using hp
        rw [this]; exact h'.2.1
    by_cases hq : PlP z κ st
    · rw [decide_eq_true hq, Bool.not_true, cond_false, Bool.true_and]
      by_cases he : ptx z κ st = ptx a k b
      · rw [he, show (ByteArray.toList (ptx a k b) == ByteArray.toList (ptx a k b)) = true from by simp, cond_true, decide_eq_true rfl, if_neg (by simp)]
      · have hne : (ByteArray.toList (ptx z κ st) == ByteArray.toList (ptx a k b)) = false := by
          cases hc : (ByteArray.toList (ptx z κ st) == ByteArray.toList (ptx a k b)) with
          | false => rfl
          | true =>
            exfalso
            apply he
            have := beq_bytes (a := ptx z κ st) (b := ptx a k b) (x := 0) (y := 1)
            rw [hc, Bool.not_true, cond_false] at this
            by_cases h0 : ptx z κ st = ptx a k b
            · exact h0
            · rw [if_neg h0] at this; cases this
        have h56 : (List.length l + List.length ([(a, k, b)] : List (List Int × Int × List Int))) * 56 ≤ 140737488355328 := by simp; omega
        have hin : (0 : Int) ≤ 1 ∧ 1 ≤ ((l.length + 1 : Nat) : Int) := ⟨by omega, by omega⟩
        rw [hne, cond_false, decide_eq_false he, Bool.not_false, if_pos rfl, copyPl (p := (a, k, b)) h'.2.1, Option.bind_some]
        simp only [if_pos h56, hlen, if_pos hin]
        unfold pastV
        simp only
        by_cases c8 : (8 : Int) < ((l.length + 1 : Nat) : Int)
        · have hd : DkP z κ st (List.drop (1 : Int).toNat (List.take (l.length + 1) (l ++ ([(a, k, b)] : List (List Int × Int × List Int))))) := ⟨fun p hp' => hmem p (List.mem_of_mem_take (List.mem_of_mem_drop hp')), hq, by rw [List.length_drop, List.length_take, hlen, show (1 : Int).toNat = 1 from rfl]; omega⟩
          rw [cnd_t c8, icopy_val hd, Option.bind_some, if_pos (show 8 < (l ++ ([(a, k, b)] : List Pl)).length by rw [hlen]; omega)]
          have ht : List.take (l.length + 1) (l ++ ([(a, k, b)] : List (List Int × Int × List Int))) = l ++ [(a, k, b)] := List.take_of_length_le (by rw [hlen]; omega)
          rw [ht]
          rfl
        · have hd : DkP z κ st (l ++ ([(a, k, b)] : List (List Int × Int × List Int))) := ⟨hmem, hq, by rw [hlen]; omega⟩
          rw [cnd_f c8, icopy_val hd, Option.bind_some, if_neg (show ¬ 8 < (l ++ ([(a, k, b)] : List Pl)).length by rw [hlen]; omega)]
    · rw [decide_eq_false hq, Bool.not_false, cond_true, Bool.false_and, if_neg (by simp)]
theorem ido_val {d : Dk} (h : DkOk d) (x : Dd3) : i_DeskDo_f (d.1, d.2.1, d.2.2.1, d.2.2.2, x.1, x.2.1, x.2.2) = some ((doV d x).1.1, (doV d x).1.2.1, (doV d x).1.2.2.1, (doV d x).1.2.2.2, (doV d x).2) := by
  rw [do_same h]; exact do_val h x
/-! Two desks at one place. -/
end FN

/-! What is drawn: deeds, spoilt texts. -/
namespace FN
open Go
section
variable {l : List Int} (hl : Bytes l) (hn : l.length ≤ 2000)
include hl hn
theorem deed_j0 (κ A B : Int) {p : Int} (hp : 0 ≤ p) (hp' : p ≤ 900000000) : ∃ (k a b q : Int), s_l20Deed_j0 l l p 0 0 0 κ A B = some (k, a, b, q) ∧ p ≤ q ∧ q ≤ p + 5 := by
  obtain ⟨bb, q, e1, q1, q2⟩ := odd_ok hl hn hp (by omega) (n := 40) (by omega)
  rw [s_l20Deed_j0_eq, e1, Option.bind_some]
  cases bb with
  | false => simp only [cond_false]; exact ⟨κ, A, B, q, by simp, by omega, by omega⟩
  | true =>
    simp only [cond_true]
    obtain ⟨u, e2, u0, u1⟩ := pick_ok hl hn (show 0 ≤ q by omega) (by omega) (show (1 : Int) ≤ 2 by omega) (by omega)
    rw [e2, Option.bind_some]
    simp only
    by_cases c : u = 0
    · obtain ⟨v, e3, v0, v1⟩ := pick_ok hl hn (show 0 ≤ q + 1 by omega) (by omega) (show (1 : Int) ≤ 2 by omega) (by omega)
      rw [beq_t c, e3, Option.bind_some, if_pos (show (0 : Int) ≤ v ∧ v < (List.length ([(-1), 100] : List Int) : Int) from ⟨v0, v1⟩)]
      exact ⟨κ, _, B, q + 1 + 1, if_pos (by simp), by omega, by omega⟩
    · rw [beq_f c]
      exact ⟨κ, A, 99, q + 1, by simp, by omega, by omega⟩
theorem l20Deed_ok {a b : List Int} {k : Int} (ha : a.length ≤ 100) {p : Int} (hp : 0 ≤ p) (hp' : p ≤ 850000000) : ∃ (k' a' b' q : Int), s_l20Deed_f (l, p, a, k, b) = some (k', a', b', q) ∧ p ≤ q ∧ q ≤ p + 20 := by
  obtain ⟨u, e1, u0, u1⟩ := pick_ok hl hn hp (by omega) (show (1 : Int) ≤ 8 by omega) (by omega)
  obtain ⟨v, e2, v0, v1⟩ := pick_ok hl hn (show 0 ≤ p + 1 by omega) (by omega) (show (1 : Int) ≤ 60 by omega) (by omega)
  have hm : ∀ x : Int, x = (if 1 > (List.length a : Int) then 1 else (List.length a : Int)) → 1 ≤ x ∧ x ≤ 1000000000 := by
    intro x hx; split at hx <;> omega
  obtain ⟨w, e3, w0, w1⟩ := pick_ok hl hn (show 0 ≤ p + 1 + 1 by omega) (by omega) (hm _ rfl).1 (hm _ rfl).2
  obtain ⟨x, e4, x0, x1⟩ := pick_ok hl hn (show 0 ≤ p + 1 + 1 + 1 by omega) (by omega) (hm _ rfl).1 (hm _ rfl).2
  obtain ⟨y, e5, y0, y1⟩ := pick_ok hl hn (show 0 ≤ p + 1 + 1 by omega) (by omega) (show (1 : Int) ≤ 3 by omega) (by omega)
  rw [s_l20Deed_f_eq, e1, Option.bind_some]
  simp only
  rw [if_pos (show (0 : Int) ≤ u ∧ u < (List.length ([0, 0, 1, 1, 2, 2, 3, 4] : List Int) : Int) from ⟨u0, u1⟩), e2, Option.bind_some]
  simp only
  generalize IntKind.i64.wrap (List.getD [0, 0, 1, 1, 2, 2, 3, 4] (u : Int).toNat 0 + IntKind.i64.wrap (IntKind.i64.wrap (Int.tdiv v 59) * 5)) = κ
  have fin : ∀ A B q : Int, p ≤ q → q ≤ p + 10 → ∃ (k' a' b' q' : Int), s_l20Deed_j0 l l q 0 0 0 κ A B = some (k', a', b', q') ∧ p ≤ q' ∧ q' ≤ p + 20 := fun A B q h1 h2 => by
    obtain ⟨k', a', b', q', g1, g2, g3⟩ := deed_j0 hl hn κ A B (p := q) (by omega) (by omega)
    exact ⟨k', a', b', q', g1, by omega, by omega⟩
  by_cases c0 : κ = 0
  · rw [beq_t c0, e3, Option.bind_some]
    simp only
    rw [e4, Option.bind_some]
    exact fin _ _ _ (by first | omega | (simp only; omega)) (by first | omega | (simp only; omega))
  · rw [beq_f c0]
    by_cases c1 : κ = 1
    · rw [beq_t c1, e3, Option.bind_some]
      exact fin _ _ _ (by first | omega | (simp only; omega)) (by first | omega | (simp only; omega))
    · rw [beq_f c1]
      by_cases c3 : κ = 3
      · rw [beq_t c3, e5, Option.bind_some]
        exact fin _ _ _ (by first | omega | (simp only; omega)) (by first | omega | (simp only; omega))
      · rw [beq_f c3]
        exact fin _ _ _ (by first | omega | (simp only; omega)) (by first | omega | (simp only; omega))
end
end FN

/-! Desks that are drawn. -/
namespace FN
open Go
theorem doO_same {a : List Int} {k : Int} {b : List Int} {l : List Pl} (h : DkP a k b l) (h7 : l.length ≤ 7) (K A B : Int) : s_DeskDoO_f (a, k, b, l, K, A, B) = s_DeskDo_f (a, k, b, l, K, A, B) := by
  have hm := PlP.sm h.2.1
  have hl := h.2.2
  have hsm : ∀ p ∈ l, smP 4611686018427387904 p := fun p hp => by have := PlP.sm (h.1 p hp); exact ⟨by omega, by omega⟩
  obtain ⟨z, κ, st, hz, hst⟩ := made_tot h.2.1 K A B
  obtain ⟨t1, t1', _⟩ := placeText_same z κ st (by omega)
  obtain ⟨t2, t2', _⟩ := placeText_same a k b (by omega)
  have c8 : ¬ (8 : Int) < ((l ++ [(a, k, b)] : List Pl).length : Int) := by
    rw [List.length_append, List.length_singleton]; omega
  rw [s_DeskDoO_f_eq, s_DeskDo_f_eq]
  simp only [sdesk a k b l (by omega) (by omega) hsm, decide_eq_true h, Option.bind_some, Bool.not_true, cond_false, l15Copy_val h, hz, spl z κ st (by omega), t1', t2', decide_eq_false c8, s_DeskDo_j1_eq, s_DeskDoO_j1_eq, List.drop_zero]
/-- What a drawn desk is on its way. -/
def OnWay (m : Nat) (d : Dk) : Prop := (DkOk d ∧ d.2.2.2.length ≤ m) ∨ d = ([], 0, [], [])
theorem noDk : ¬ DkP [] 0 [] [] := fun h => no_zero h.2.1
theorem OnWay.sm {m : Nat} {d : Dk} (h : OnWay m d) : d.1.length ≤ 6 ∧ d.2.2.1.length ≤ 6 ∧ d.2.2.2.length ≤ 8 ∧ ∀ p ∈ d.2.2.2, p.1.length ≤ 6 ∧ p.2.2.length ≤ 6 := by
  rcases h with ⟨h, _⟩ | rfl
  · have := PlP.sm h.2.1
    exact ⟨this.1, this.2, h.2.2, fun p hp => PlP.sm (h.1 p hp)⟩
  · simp
theorem doV_len {d : Dk} (x : Dd3) : (doV d x).1.2.2.2.length ≤ d.2.2.2.length + 1 := by
  unfold doV
  split
  · show (d.2.2.2.take _).length ≤ _
    rw [List.length_take]; omega
  · split
    · show (pastV d).length ≤ _
      unfold pastV
      split
      · rw [List.length_drop, List.length_append, List.length_singleton]; omega
      · rw [List.length_append, List.length_singleton]
        omega
    · show d.2.2.2.length ≤ _
      omega
theorem doO_way {m : Nat} (hm : m ≤ 7) {d : Dk} (h : OnWay m d) (x : Dd3) : ∃ d' t, s_DeskDoO_f (d.1, d.2.1, d.2.2.1, d.2.2.2, x.1, x.2.1, x.2.2) = some (d'.1, d'.2.1, d'.2.2.1, d'.2.2.2, t) ∧ OnWay (m + 1) d' := by
  rcases h with ⟨h, hl⟩ | rfl
  · refine ⟨(doV d x).1, (doV d x).2, ?_, .inl ⟨doV_ok h x, by have := doV_len (d := d) x; omega⟩⟩
    rw [doO_same h (by omega)]
    exact do_val h x
  · refine ⟨([], 0, [], []), false, ?_, .inr rfl⟩
    rw [s_DeskDoO_f_eq, sdesk [] 0 [] [] (by simp) (by simp) (by simp), decide_eq_false noDk, Option.bind_some]
    rfl
theorem OnWay.up {m n : Nat} (hmn : m ≤ n) {d : Dk} (h : OnWay m d) : OnWay n d := by
  rcases h with ⟨h, hl⟩ | h
  · exact .inl ⟨h, by omega⟩
  · exact .inr h
section
variable {l : List Int} (hl : Bytes l) (hn : l.length ≤ 2000)
include hl hn
/-- A drawn desk: its sizes. -/
def DOut (o : Option (List Int × Int × List Int × List Pl × Int)) : Prop := ∃ (d : Dk) (q : Int), o = some (d.1, d.2.1, d.2.2.1, d.2.2.2, q) ∧ d.1.length ≤ 6 ∧ d.2.2.1.length ≤ 6 ∧ d.2.2.2.length ≤ 9 ∧ (∀ p ∈ d.2.2.2, p.1.length ≤ 6 ∧ p.2.2.length ≤ 6) ∧ 0 ≤ q ∧ q ≤ 800000000
theorem desk_j1 (y0 y4 : Int) (hy0 : y0 ≤ 1000) {p : Int} (hp : 0 ≤ p) (hp' : p ≤ 700000000) {m : Nat} {d : Dk} (h : OnWay m d) : DOut (s_l20Desk_j1 l y0 l p y4 d.1 d.2.1 d.2.2.1 d.2.2.2) := by
  obtain ⟨s1, s2, s3, s4⟩ := h.sm
  obtain ⟨bb, q, e1, q1, q2⟩ := odd_ok hl hn hp (by omega) (n := y0) (by omega)
  rw [s_l20Desk_j1_eq, e1, Option.bind_some]
  cases bb with
  | false => simp only [cond_false]; exact ⟨d, q, by simp, s1, s2, by omega, s4, by omega, by omega⟩
  | true =>
    simp only [cond_true]
    obtain ⟨u, e2, u0, u1⟩ := pick_ok hl hn (show 0 ≤ q by omega) (by omega) (show (1 : Int) ≤ 3 by omega) (by omega)
    rw [e2, Option.bind_some]
    simp only
    by_cases c0 : u = 0
    · rw [beq_t c0]
      exact ⟨(d.1, 2, d.2.2.1, d.2.2.2), q + 1, by simp, s1, s2, by show d.2.2.2.length ≤ 9; omega, s4, by omega, by omega⟩
    · rw [beq_f c0]
      by_cases c1 : u = 1
      · rw [beq_t c1, if_pos (by rw [List.length_singleton]; omega)]
        refine ⟨(d.1, d.2.1, d.2.2.1, d.2.2.2 ++ [([], 0, [])]), q + 1, by simp, s1, s2, ?_, ?_, by omega, by omega⟩
        · show (d.2.2.2 ++ [([], 0, [])]).length ≤ 9
          rw [List.length_append, List.length_singleton]; omega
        · intro p hp
          rcases List.mem_append.1 hp with hp | hp
          · exact s4 p hp
          · have : p = ([], 0, []) := by simpa using hp
            rw [this]; simp
      · rw [beq_f c1]
        exact ⟨([], 0, [], []), q + 1, by simp, by simp, by simp, by simp, by simp, by omega, by omega⟩
theorem desk_loop (y0 y4 : Int) (hy0 : y0 ≤ 1000) : ∀ m : Nat, m ≤ 4 → ∀ (p : Int) (d : Dk), 0 ≤ p → p + 100 * (m : Int) ≤ 600000000 → OnWay (4 - m) d → DOut (s_l20Desk_l0 l y0 (m : Int) l p y4 d.1 d.2.1 d.2.2.1 d.2.2.2) := by
  intro m
  induction m with
  | zero =>
    intro _ p d hp hp' h
    rw [s_l20Desk_l0_eq, cnd_f (by omega)]
    exact desk_j1 hl hn y0 y4 hy0 hp (by omega) h
  | succ m ih =>
    intro hm p d hp hp' h
    obtain ⟨s1, s2, s3, s4⟩ := h.sm
    obtain ⟨K, A, B, q, e2, q1, q2⟩ := l20Deed_ok hl hn (a := d.1) (b := d.2.2.1) (k := d.2.1) (by omega) hp (by omega)
    obtain ⟨d', t, e3, h3⟩ := doO_way (by omega) h (K, A, B)
    simp only at e3
    have hm1 : IntKind.i64.wrap (((m + 1 : Nat) : Int) - 1) = (m : Int) := by rw [wsub (by omega) (by omega)]; omega
    rw [s_l20Desk_l0_eq, cnd_t (by omega), e2, Option.bind_some]
    simp only
    rw [e3, Option.bind_some, hm1]
    cases t with
    | true => exact ih (by omega) q d' (by omega) (by omega) (h3.up (by omega))
    | false => exact ih (by omega) q d (by omega) (by omega) (h.up (by omega))
theorem l20Desk_ok (y0 : Int) (hy0 : y0 ≤ 1000) {p : Int} (hp : 0 ≤ p) (hp' : p ≤ 400000000) : DOut (s_l20Desk_f (l, p, y0)) := by
  obtain ⟨a, k, b, q, e1, h1, h2, q1, q2⟩ := l20Place_ok hl hn (n := 0) (by omega) hp (by omega)
  obtain ⟨u, e3, u0, u1⟩ := pick_ok hl hn (show 0 ≤ q by omega) (by omega) (show (1 : Int) ≤ 5 by omega) (by omega)
  have hnew : ∃ d : Dk, ∃ t, s_DeskNew_f (a, k, b) = some (d.1, d.2.1, d.2.2.1, d.2.2.2, t) ∧ OnWay 0 d := by
    rw [s_DeskNew_f_eq, spl a k b (by omega), Option.bind_some]
    by_cases h : PlP a k b
    · rw [decide_eq_true h, Bool.not_true, cond_false, l15Place_val a k b (by omega) (by omega), Option.bind_some]
      exact ⟨(a, k, b, []), true, rfl, .inl ⟨⟨by simp, h, by simp⟩, by simp⟩⟩
    · rw [decide_eq_false h]
      exact ⟨([], 0, [], []), false, rfl, .inr rfl⟩
  obtain ⟨d, t, e2, hd⟩ := hnew
  obtain ⟨m, rfl⟩ : ∃ m : Nat, u = m := ⟨u.toNat, by omega⟩
  rw [s_l20Desk_f_eq, e1, Option.bind_some]
  simp only
  rw [e2, Option.bind_some]
  simp only
  rw [e3, Option.bind_some]
  exact desk_loop hl hn y0 0 hy0 m (by omega) (q + 1) d (by omega) (by omega) (hd.up (by omega))
end
end FN

/-! The same desk is told so. -/
namespace FN
open Go
theorem sameDesk_loop (a : List Int) (k : Int) (b : List Int) (l : List Pl) (hl : l.length ≤ 4611686018427387904) (hs : ∀ p ∈ l, smP 4611686018427387904 p) : ∀ i, i ≤ l.length → w_sameDesk_l0 (i : Int) a k b l a k b l = some true := by
  refine advN ?_ fun i hi ih => ?_
  · rw [w_sameDesk_l0_eq, cnd_f (by omega)]
  · rw [w_sameDesk_l0_eq, cnd_t (by omega), if_pos (inN hi), if_pos (inN hi), gP, w1 hi (by omega)]
    have hm := hs _ (getD_mem (d := ([], 0, [])) hi)
    rw [samePlace_refl _ _ _ hm.1 hm.2, Option.bind_some]
    exact ih
theorem sameDesk_refl (a : List Int) (k : Int) (b : List Int) (l : List Pl) (ha : a.length ≤ 4611686018427387904) (hb : b.length ≤ 4611686018427387904) (hl : l.length ≤ 4611686018427387904) (hs : ∀ p ∈ l, smP 4611686018427387904 p) : w_sameDesk_f (a, k, b, l, a, k, b, l) = some true := by
  rw [w_sameDesk_f_eq, samePlace_refl a k b ha hb, Option.bind_some, bne_f rfl]
  exact sameDesk_loop a k b l hl hs 0 (by omega)
theorem noDesk_yes : w_noDesk_f ([], 0, [], []) = some true := by
  rw [w_noDesk_f_eq, sameDesk_refl [] 0 [] [] (by simp) (by simp) (by simp) (by simp)]
  rfl
theorem sameDesk_ok {a : List Int} {k : Int} {b : List Int} {l : List Pl} (h : DkP a k b l) : w_sameDesk_f (a, k, b, l, a, k, b, l) = some true := by
  have h1 := PlP.sm h.2.1
  have h2 := h.2.2
  exact sameDesk_refl a k b l (by omega) (by omega) (by omega) fun p hp => by have := PlP.sm (h.1 p hp); exact ⟨by omega, by omega⟩
end FN

/-! A line at a desk. -/
namespace FN
open Go
/-- Spaces: deeds' texts are none of the questions. -/
theorem ans_empty {a : List Int} {k : Int} {b : List Int} : i_answer_f (a, k, b, ByteArray.empty) = some str44 := by
  rw [i_answer_f_eq]
  have e : ∀ t : ByteArray, 0 < t.size → (ByteArray.toList ByteArray.empty == ByteArray.toList t) = false := fun t ht => by
    rw [toL, toL, beq_eq_false_iff_ne]
    intro hh
    have := congrArg List.length hh
    rw [← szD, ← szD] at this
    have e0 : ByteArray.empty.size = 0 := rfl
    omega
  rw [e str16 (by decide), e str17 (by decide), e str18 (by decide), e str19 (by decide), e str20 (by decide), e str21 (by decide), e str22 (by decide)]
  simp only [cond_false]
  have hc : x_strings_Cut_f (ByteArray.empty, str1) = some (ByteArray.empty, ofL [], false) := by
    have h1 : x_strings_Cut_f (ofL [], str1) = some (cut3 (ofL []) str1) := by
      unfold x_strings_Cut_f
      rw [if_pos (by rw [ofL_size]; simp)]
    rw [cut_none (by simp [Lib.index])] at h1
    exact h1
  have hn : i_numberOf_f (ofL []) = some (numOfV (ofL [])) := by
    unfold i_numberOf_f
    rw [if_pos (by rw [ofL_size]; simp)]
  rw [i_answer_j0_eq, hc, Option.bind_some]
  simp only
  rw [hn, Option.bind_some, numOf_no (S := []) (fun hh => hh.1.1 rfl), Bool.not_false, cond_true]
/-- What a line says of a desk. -/
structure LineV (d : Dk) (s : ByteArray) (d' : Dk) (t : ByteArray) : Prop where
  i : i_DeskLine_f (d.1, d.2.1, d.2.2.1, d.2.2.2, s) = some (d'.1, d'.2.1, d'.2.2.1, d'.2.2.2, t)
  s : s_DeskLine_f (d.1, d.2.1, d.2.2.1, d.2.2.2, s) = some (d'.1, d'.2.1, d'.2.2.1, d'.2.2.2, t)
  ok : DkOk d'
  pos : 0 < t.size
  same : t = str47 ∨ d' = d
theorem desk_sm {d : Dk} (h : DkOk d) : d.1.length ≤ 6 ∧ d.2.2.1.length ≤ 6 ∧ d.2.2.2.length ≤ 8 ∧ ∀ p ∈ d.2.2.2, smP 4611686018427387904 p := by
  have hb := PlP.sm h.2.1
  exact ⟨hb.1, hb.2, h.2.2, fun p hp => by have := PlP.sm (h.1 p hp); exact ⟨by omega, by omega⟩⟩
theorem line_val {d : Dk} (h : DkOk d) (s : ByteArray) (hs : s.size ≤ 4000000) : ∃ d' t, LineV d s d' t := by
  obtain ⟨s1, s2, s3, s4⟩ := desk_sm h
  have hid := idesk d.1 d.2.1 d.2.2.1 d.2.2.2 (by omega) (by omega) s4
  have hsd := sdesk d.1 d.2.1 d.2.2.1 d.2.2.2 (by omega) (by omega) s4
  have hdk : DkP d.1 d.2.1 d.2.2.1 d.2.2.2 := h
  rw [decide_eq_true hdk] at hid hsd
  have hic := icopy_val hdk
  have hsc := l15Copy_val hdk
  obtain ⟨r, e1, e2, e3⟩ := deed_same s.data.toList (by rw [Array.length_toList]; exact Nat.le_trans hs (by omega))
  rw [of_data] at e1 e2
  rcases e3 with ⟨hr, _⟩ | ⟨K, A, B, hr, _, _⟩
  · subst hr
    obtain ⟨t, a1, a2, a3⟩ := ans_both (show PlP d.1 d.2.1 d.2.2.1 from h.2.1) s (by omega)
    refine ⟨d, t, ?_, ?_, h, a3, .inr rfl⟩
    · rw [i_DeskLine_f_eq, hid, Option.bind_some, Bool.not_true, cond_false, e1, Option.bind_some]
      simp only [cond_false]
      rw [hic, Option.bind_some, a1, Option.bind_some]
    · rw [s_DeskLine_f_eq, hsd, Option.bind_some, Bool.not_true, cond_false, hsc, Option.bind_some, e2, Option.bind_some]
      simp only [cond_false]
      rw [a2, Option.bind_some]
  · subst hr
    have hi := ido_val h (K, A, B)
    have hq := do_val h (K, A, B)
    simp only at hi hq
    cases hy : (doV d (K, A, B)).2 with
    | false =>
      rw [hy] at hi hq
      refine ⟨(doV d (K, A, B)).1, str46, ?_, ?_, doV_ok h _, by decide, .inr (doV_no hy)⟩
      · rw [i_DeskLine_f_eq, hid, Option.bind_some, Bool.not_true, cond_false, e1, Option.bind_some]
        simp only [cond_true]
        rw [hi, Option.bind_some]
        rfl
      · rw [s_DeskLine_f_eq, hsd, Option.bind_some, Bool.not_true, cond_false, hsc, Option.bind_some, e2, Option.bind_some]
        simp only [cond_true]
        rw [hq, Option.bind_some]
        rfl
    | true =>
      rw [hy] at hi hq
      refine ⟨(doV d (K, A, B)).1, str47, ?_, ?_, doV_ok h _, by decide, .inl rfl⟩
      · rw [i_DeskLine_f_eq, hid, Option.bind_some, Bool.not_true, cond_false, e1, Option.bind_some]
        simp only [cond_true]
        rw [hi, Option.bind_some]
        rfl
      · rw [s_DeskLine_f_eq, hsd, Option.bind_some, Bool.not_true, cond_false, hsc, Option.bind_some, e2, Option.bind_some]
        simp only [cond_true]
        rw [hq, Option.bind_some]
        rfl
theorem line_no {d : Dk} (h : ¬ DkOk d) (s2 : d.2.2.1.length ≤ 4611686018427387904) (s3 : d.2.2.2.length ≤ 4611686018427387904) (s4 : ∀ p ∈ d.2.2.2, smP 4611686018427387904 p) (s : ByteArray) : i_DeskLine_f (d.1, d.2.1, d.2.2.1, d.2.2.2, s) = some ([], 0, [], [], ByteArray.empty) ∧ s_DeskLine_f (d.1, d.2.1, d.2.2.1, d.2.2.2, s) = some ([], 0, [], [], ByteArray.empty) := by
  have hn : ¬ DkP d.1 d.2.1 d.2.2.1 d.2.2.2 := h
  rw [i_DeskLine_f_eq, s_DeskLine_f_eq, idesk _ _ _ _ s2 s3 s4, sdesk _ _ _ _ s2 s3 s4, decide_eq_false hn]
  exact ⟨rfl, rfl⟩
theorem deed_no {s : ByteArray} (h : ∀ k a b, dtx k a b = s → s = ByteArray.empty) (hs : s.size ≤ 4000000) : i_ReadDeed_f s = some noD := by
  obtain ⟨r, e1, _, e3⟩ := deed_same s.data.toList (by rw [Array.length_toList]; exact Nat.le_trans hs (by omega))
  rw [of_data] at e1 e3
  rcases e3 with ⟨hr, _⟩ | ⟨K, A, B, hr, h1, h2⟩
  · rw [e1, hr]
  · exact absurd (h K A B h1) h2
theorem line_empty {d : Dk} (h : DkOk d) : i_DeskLine_f (d.1, d.2.1, d.2.2.1, d.2.2.2, ByteArray.empty) = some (d.1, d.2.1, d.2.2.1, d.2.2.2, str44) := by
  obtain ⟨s1, s2, s3, s4⟩ := desk_sm h
  have hid := idesk d.1 d.2.1 d.2.2.1 d.2.2.2 (by omega) (by omega) s4
  have hdk : DkP d.1 d.2.1 d.2.2.1 d.2.2.2 := h
  rw [decide_eq_true hdk] at hid
  rw [i_DeskLine_f_eq, hid, Option.bind_some, Bool.not_true, cond_false, deed_no (fun _ _ _ _ => rfl) (by decide), Option.bind_some]
  simp only [cond_false]
  rw [icopy_val hdk, Option.bind_some, ans_empty, Option.bind_some]
/-! The drawn line. -/
section
variable {l : List Int} (hl : Bytes l) (hn : l.length ≤ 2000)
include hl hn
omit hl hn in
theorem str_getD {xs : List ByteArray} {n : Nat} (h : ∀ x ∈ xs, x.size ≤ n) (v : Nat) : (List.getD xs v ByteArray.empty).size ≤ n := by
  rw [List.getD_eq_getElem?_getD]
  cases hx : xs[v]? with
  | none => exact Nat.zero_le _
  | some x => exact h x (List.mem_of_getElem? hx)
theorem line_j0 {a b : List Int} {k : Int} (ha : a.length ≤ 100) {p : Int} (hp : 0 ≤ p) (hp' : p ≤ 840000000) : ∃ (t : ByteArray) (q : Int), s_l20Line_j0 l l p a k b = some (t, q) ∧ t.size ≤ 40 ∧ 0 ≤ q ∧ q ≤ p + 20 := by
  obtain ⟨K, A, B, q, e1, q1, q2⟩ := l20Deed_ok hl hn (a := a) (b := b) (k := k) ha hp (by omega)
  obtain ⟨e2, _, e3⟩ := deed_val K A B
  rw [s_l20Line_j0_eq, e1, Option.bind_some]
  simp only
  rw [e2, Option.bind_some, if_pos (by simp)]
  exact ⟨_, _, rfl, by omega, by omega, by omega⟩
abbrev LOut (p : Int) (g : Option (ByteArray × Int)) : Prop := ∃ (t : ByteArray) (q : Int), g = some (t, q) ∧ t.size ≤ 40 ∧ 0 ≤ q ∧ q ≤ 900000000
omit hl hn in
theorem abc_size (v : Int) : (List.getD ([str37, str38, str39] : List (ByteArray)) (v : Int).toNat ByteArray.empty).size ≤ 10 := str_getD (n := 10) (by decide) _
theorem line_num {p : Int} (hp : 0 ≤ p) (hp' : p ≤ 840000000) : LOut p (Option.bind (r_pick_f (l, p, 3)) fun r4 => (if (0 : Int) ≤ r4.1 ∧ r4.1 < (List.length ([str37, str38, str39] : List (ByteArray)) : Int) then (Option.bind (r_pick_f (l, r4.2, 8)) fun r5 => (Option.bind (s_l1Number_f r5.1) fun r6 => (if ByteArray.size (List.getD ([str37, str38, str39] : List (ByteArray)) (r4.1 : Int).toNat ByteArray.empty) + ByteArray.size r6 ≤ 9223372036854775807 then (if 83 = 83 ∧ l = l then (some (((List.getD ([str37, str38, str39] : List (ByteArray)) (r4.1 : Int).toNat ByteArray.empty) ++ r6), r5.2)) else none) else none))) else none)) := by
  obtain ⟨u, e1, u0, u1⟩ := pick_ok hl hn hp (by omega) (show (1 : Int) ≤ 3 by omega) (by omega)
  obtain ⟨v, e2, v0, v1⟩ := pick_ok hl hn (show 0 ≤ p + 1 by omega) (by omega) (show (1 : Int) ≤ 8 by omega) (by omega)
  have hz := abc_size u
  have hv := itoa_size (n := v) (by omega) (by omega)
  rw [e1, Option.bind_some]
  simp only
  rw [if_pos (show (0 : Int) ≤ u ∧ u < (List.length ([str37, str38, str39] : List (ByteArray)) : Int) from ⟨u0, u1⟩), e2, Option.bind_some]
  simp only
  rw [num_val v0 (by omega), Option.bind_some, if_pos (by omega), if_pos (by simp)]
  exact ⟨_, _, rfl, by rw [ByteArray.size_append]; omega, by omega, by omega⟩
theorem line_word {xs : List ByteArray} (n : Int) (hxn : (xs.length : Int) = n) (hx : ∀ x ∈ xs, x.size ≤ 10) (hx1 : 1 ≤ xs.length) (hx2 : xs.length ≤ 100) {p : Int} (hp : 0 ≤ p) (hp' : p ≤ 840000000) : LOut p (Option.bind (r_pick_f (l, p, n)) fun r2 => (if (0 : Int) ≤ r2.1 ∧ r2.1 < (List.length xs : Int) then (if 83 = 83 ∧ l = l then (some ((List.getD xs (r2.1 : Int).toNat ByteArray.empty), r2.2)) else none) else none)) := by
  obtain ⟨u, e1, u0, u1⟩ := pick_ok hl hn hp (by omega) (show (1 : Int) ≤ n by omega) (by omega)
  rw [e1, Option.bind_some]
  simp only
  rw [if_pos (show 0 ≤ u ∧ u < (xs.length : Int) by omega), if_pos (by simp)]
  have := str_getD hx (u : Int).toNat
  exact ⟨_, _, rfl, by omega, by omega, by omega⟩
theorem l20Line_ok {a b : List Int} {k : Int} (ha : a.length ≤ 100) {p : Int} (hp : 0 ≤ p) (hp' : p ≤ 830000000) : LOut p (s_l20Line_f (l, p, a, k, b)) := by
  obtain ⟨u, e1, u0, u1⟩ := pick_ok hl hn hp (by omega) (show (1 : Int) ≤ 7 by omega) (by omega)
  have up : ∀ g, LOut (p + 1) g → p + 1 + 50 ≤ p + 51 → LOut p g ∨ True := fun _ _ _ => .inr trivial
  have w7 := line_word hl hn (xs := [str16, str17, str18, str19, str20, str21, str22]) 7 rfl (by decide) (by decide) (by decide) (p := p + 1) (by omega) (by omega)
  have w17 := line_word hl hn (xs := [ByteArray.empty, str10, str23, str24, str11, str25, str26, str27, str28, str29, str30, str31, str32, str33, str34, str35, str36]) 17 rfl (by decide) (by decide) (by decide) (p := p + 1) (by omega) (by omega)
  have wn := line_num hl hn (p := p + 1) (by omega) (by omega)
  obtain ⟨t, q, j1, j2, j3, j4⟩ := line_j0 hl hn (a := a) (b := b) (k := k) ha (p := p + 1) (by omega) (by omega)
  have wj : LOut (p + 1) (s_l20Line_j0 l l (p + 1) a k b) := ⟨t, q, j1, j2, j3, by omega⟩
  suffices H : LOut (p + 1) (s_l20Line_f (l, p, a, k, b)) by
    exact H
  rw [s_l20Line_f_eq, e1, Option.bind_some]
  dsimp only
  obtain rfl | rfl | rfl | rfl | rfl | rfl | rfl : u = 0 ∨ u = 1 ∨ u = 2 ∨ u = 3 ∨ u = 4 ∨ u = 5 ∨ u = 6 := by omega
  · have h0 : ((0 : Int) == 0) = true := rfl
    have h1 : ((0 : Int) == 1) = false := rfl
    have h2 : ((0 : Int) == 2) = false := rfl
    have h3 : ((0 : Int) == 3) = false := rfl
    have h4 : ((0 : Int) == 4) = false := rfl
    have h5 : ((0 : Int) == 5) = false := rfl
    rw [h0]
    try rw [h1]
    try rw [h2]
    try rw [h3]
    try rw [h4]
    try rw [h5]
    repeat (first | rw [cond_true] | rw [cond_false])
    exact w7
  · have h0 : ((1 : Int) == 0) = false := rfl
    have h1 : ((1 : Int) == 1) = true := rfl
    have h2 : ((1 : Int) == 2) = false := rfl
    have h3 : ((1 : Int) == 3) = false := rfl
    have h4 : ((1 : Int) == 4) = false := rfl
    have h5 : ((1 : Int) == 5) = false := rfl
    rw [h0]
    try rw [h1]
    try rw [h2]
    try rw [h3]
    try rw [h4]
    try rw [h5]
    repeat (first | rw [cond_true] | rw [cond_false])
    exact w7
  · have h0 : ((2 : Int) == 0) = false := rfl
    have h1 : ((2 : Int) == 1) = false := rfl
    have h2 : ((2 : Int) == 2) = true := rfl
    have h3 : ((2 : Int) == 3) = false := rfl
    have h4 : ((2 : Int) == 4) = false := rfl
    have h5 : ((2 : Int) == 5) = false := rfl
    rw [h0]
    try rw [h1]
    try rw [h2]
    try rw [h3]
    try rw [h4]
    try rw [h5]
    repeat (first | rw [cond_true] | rw [cond_false])
    exact w7
  · have h0 : ((3 : Int) == 0) = false := rfl
    have h1 : ((3 : Int) == 1) = false := rfl
    have h2 : ((3 : Int) == 2) = false := rfl
    have h3 : ((3 : Int) == 3) = true := rfl
    have h4 : ((3 : Int) == 4) = false := rfl
    have h5 : ((3 : Int) == 5) = false := rfl
    rw [h0]
    try rw [h1]
    try rw [h2]
    try rw [h3]
    try rw [h4]
    try rw [h5]
    repeat (first | rw [cond_true] | rw [cond_false])
    exact w17
  · have h0 : ((4 : Int) == 0) = false := rfl
    have h1 : ((4 : Int) == 1) = false := rfl
    have h2 : ((4 : Int) == 2) = false := rfl
    have h3 : ((4 : Int) == 3) = false := rfl
    have h4 : ((4 : Int) == 4) = true := rfl
    have h5 : ((4 : Int) == 5) = false := rfl
    rw [h0]
    try rw [h1]
    try rw [h2]
    try rw [h3]
    try rw [h4]
    try rw [h5]
    repeat (first | rw [cond_true] | rw [cond_false])
    exact wn
  · have h0 : ((5 : Int) == 0) = false := rfl
    have h1 : ((5 : Int) == 1) = false := rfl
    have h2 : ((5 : Int) == 2) = false := rfl
    have h3 : ((5 : Int) == 3) = false := rfl
    have h4 : ((5 : Int) == 4) = false := rfl
    have h5 : ((5 : Int) == 5) = true := rfl
    rw [h0]
    try rw [h1]
    try rw [h2]
    try rw [h3]
    try rw [h4]
    try rw [h5]
    repeat (first | rw [cond_true] | rw [cond_false])
    exact wn
  · have h0 : ((6 : Int) == 0) = false := rfl
    have h1 : ((6 : Int) == 1) = false := rfl
    have h2 : ((6 : Int) == 2) = false := rfl
    have h3 : ((6 : Int) == 3) = false := rfl
    have h4 : ((6 : Int) == 4) = false := rfl
    have h5 : ((6 : Int) == 5) = false := rfl
    rw [h0]
    try rw [h1]
    try rw [h2]
    try rw [h3]
    try rw [h4]
    try rw [h5]
    repeat (first | rw [cond_true] | rw [cond_false])
    exact wj
end
end FN

/-! The law FnDeskLine. -/
namespace FN
open Go
theorem drawLine_ok {x : List Int} (hb : Bytes x) : ∃ (d : Dk) (s : ByteArray), s_DrawDeskLine_f x = some (d.1, d.2.1, d.2.2.1, d.2.2.2, s) ∧ d.1.length ≤ 6 ∧ d.2.2.1.length ≤ 6 ∧ d.2.2.2.length ≤ 9 ∧ (∀ p ∈ d.2.2.2, p.1.length ≤ 6 ∧ p.2.2.length ≤ 6) ∧ s.size ≤ 40 := by
  obtain ⟨l, e1, e2, e3⟩ := open_ok hb
  obtain ⟨d, q, e4, s1, s2, s3, s4, q1, q2⟩ := l20Desk_ok e2 e3 12 (by omega) (p := 0) (by omega) (by omega)
  obtain ⟨t, q', e5, t1, q3, q4⟩ := l20Line_ok e2 e3 (a := d.1) (b := d.2.2.1) (k := d.2.1) (by omega) (p := q) (by omega) (by omega)
  rw [s_DrawDeskLine_f_eq, e1, Option.bind_some, e4, Option.bind_some]
  dsimp only
  rw [e5, Option.bind_some]
  exact ⟨d, t, rfl, s1, s2, s3, s4, t1⟩
theorem beq_self {a : ByteArray} : (ByteArray.toList a == ByteArray.toList a) = true := by simp
theorem deskLine_law {x : List Int} (hb : Bytes x) : w_FnDeskLine_f x = some true := by
  rw [w_FnDeskLine_f_eq]
  by_cases h0 : (1048576 : Int) < (x.length : Int)
  · rw [cnd_t h0]
  rw [cnd_f h0]
  obtain ⟨d, s, e1, s1, s2, s3, s4, s5⟩ := drawLine_ok hb
  have hs' : ∀ p ∈ d.2.2.2, smP 4611686018427387904 p := fun p hp => ⟨by have := (s4 p hp).1; omega, by have := (s4 p hp).2; omega⟩
  have hsd := sdesk d.1 d.2.1 d.2.2.1 d.2.2.2 (by omega) (by omega) hs'
  rw [e1, Option.bind_some]
  dsimp only
  by_cases h : DkOk d
  · obtain ⟨d', t, L⟩ := line_val h s (by omega)
    have hdk : DkP d.1 d.2.1 d.2.2.1 d.2.2.2 := h
    have hdk' : DkP d'.1 d'.2.1 d'.2.2.1 d'.2.2.2 := L.ok
    obtain ⟨r1, r2, r3, r4⟩ := desk_sm L.ok
    have hid := idesk d'.1 d'.2.1 d'.2.2.1 d'.2.2.2 (by omega) (by omega) r4
    have hsame := sameDesk_ok hdk'
    have hsame0 := sameDesk_ok hdk
    rw [L.i, L.s, Option.bind_some, Option.bind_some]
    dsimp only
    rw [hsame, Option.bind_some, Bool.not_true, cond_false, beq_self, Bool.not_true, cond_false, hsd, Option.bind_some, decide_eq_true hdk, Bool.not_true, cond_false, line_empty h, Option.bind_some]
    dsimp only
    rw [hid, Option.bind_some, decide_eq_true hdk', cond_true, hsame0, Option.bind_some, cond_true, beq_self]
    rcases L.same with e | e
    · rw [e, beq_self, cond_true]
    · rw [e, hsame0, Option.bind_some, cond_true]
      cases (ByteArray.toList t == ByteArray.toList str47) <;> rfl
  · have hn : ¬ DkP d.1 d.2.1 d.2.2.1 d.2.2.2 := h
    obtain ⟨a1, a2⟩ := line_no h (by omega) (by omega) hs' s
    have hz : w_sameDesk_f ([], 0, [], [], [], 0, [], []) = some true := sameDesk_refl [] 0 [] [] (by simp) (by simp) (by simp) (by simp)
    rw [a1, a2, Option.bind_some, Option.bind_some]
    dsimp only
    rw [hz, Option.bind_some, Bool.not_true, cond_false, beq_self, Bool.not_true, cond_false, hsd, Option.bind_some, decide_eq_false hn, Bool.not_false, cond_true, cond_true, noDesk_yes, Option.bind_some, cond_true, alive_yes]
    rfl
theorem FnDeskLine_true (x : Ts w_FnDeskLine_sig.pc) (hw : WfTs w_FnDeskLine_sig.pc x) : w_FnDeskLine_f x = some true := deskLine_law fun y hy => hw.2 y hy
end FN

