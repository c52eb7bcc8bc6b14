/- Texts of the proof, joined: parts -/
import Derived.Test.YtbkndbgonbadaaaGreatDoorQ4
import Derived.Test.YtbkndbgonbadaaaGreatDoorJ11
set_option linter.unusedVariables false
set_option linter.unusedSimpArgs false
set_option linter.unusedSectionVars false
/-! Heights: what the rises alone tell. -/
namespace FN
inductive Rc (A : Nat → Nat → Prop) : Nat → Nat → Prop
  | refl (i : Nat) : Rc A i i
  | step {i j k : Nat} : Rc A i j → A j k → Rc A i k
theorem Rc.trans {A : Nat → Nat → Prop} {i j k : Nat} (h : Rc A i j) (h2 : Rc A j k) : Rc A i k := by
  induction h2 with
  | refl => exact h
  | step _ ha ih => exact .step ih ha
theorem Rc.symm {A : Nat → Nat → Prop} (hs : ∀ i j, A i j → A j i) {i j : Nat} (h : Rc A i j) : Rc A j i := by
  induction h with
  | refl => exact .refl _
  | step _ ha ih => exact (Rc.step (.refl _) (hs _ _ ha)).trans ih
/-- Heights. -/
def Pot (A : Nat → Nat → Prop) (R : Nat → Nat → Int) (p : Nat → Int) : Prop := ∀ i j, A i j → p j = p i + R i j
def LeastN (A : Nat → Nat → Prop) (j : Nat) : Prop := ∀ k, Rc A j k → j ≤ k
theorem least_ex (A : Nat → Nat → Prop) (j : Nat) : ∃ l, Rc A j l ∧ LeastN A l := by
  induction j using Nat.strongRecOn with
  | _ j ih =>
    by_cases h : LeastN A j
    · exact ⟨j, .refl j, h⟩
    · have : ∃ k, Rc A j k ∧ k < j := Classical.byContradiction fun hn => h fun k hk => by
        by_cases hc : k < j
        · exact absurd ⟨k, hk, hc⟩ hn
        · omega
      obtain ⟨k, h1, h2⟩ := this
      obtain ⟨l, h3, h4⟩ := ih k h2
      exact ⟨l, h1.trans h3, h4⟩
theorem Pot.diff {A : Nat → Nat → Prop} {R : Nat → Nat → Int} {p q : Nat → Int} (h : Pot A R p) (k : Pot A R q) {i j : Nat} (r : Rc A i j) : p j - p i = q j - q i := by
  induction r with
  | refl => omega
  | step _ ha ih =>
    have := h _ _ ha
    have := k _ _ ha
    omega
theorem Pot.uniq {A : Nat → Nat → Prop} {R : Nat → Nat → Int} {p q : Nat → Int} (h : Pot A R p) (k : Pot A R q) (hz : ∀ j, LeastN A j → p j = 0) (kz : ∀ j, LeastN A j → q j = 0) (j : Nat) : p j = q j := by
  obtain ⟨l, h1, h2⟩ := least_ex A j
  have := h.diff k h1
  have := hz l h2
  have := kz l h2
  omega
/-- What a search for heights answers. -/
structure Heights (A : Nat → Nat → Prop) (R : Nat → Nat → Int) (n : Nat) (r : List Int × Bool) : Prop where
  yes : r.2 = true → r.1.length = n ∧ Pot A R (fun i => r.1.getD i 0) ∧ ∀ j, LeastN A j → r.1.getD j 0 = 0
  no : r.2 = false → r.1 = [] ∧ ∀ q, ¬ Pot A R q
theorem Heights.uniq {A : Nat → Nat → Prop} {R : Nat → Nat → Int} {n : Nat} {r s : List Int × Bool} (h : Heights A R n r) (k : Heights A R n s) : r = s := by
  obtain ⟨l, b⟩ := r
  obtain ⟨m, c⟩ := s
  cases b with
  | true =>
    obtain ⟨h1, h2, h3⟩ := h.yes rfl
    cases c with
    | true =>
      obtain ⟨k1, k2, k3⟩ := k.yes rfl
      have : l = m := by
        apply List.ext_getElem (h1.trans k1.symm)
        intro i hi hi'
        have := h2.uniq k2 h3 k3 i
        rw [List.getD_eq_getElem?_getD, List.getD_eq_getElem?_getD, List.getElem?_eq_getElem hi, List.getElem?_eq_getElem hi'] at this
        exact this
      rw [this]
    | false => exact absurd h2 ((k.no rfl).2 _)
  | false =>
    obtain ⟨h1, h2⟩ := h.no rfl
    cases c with
    | true => exact absurd (k.yes rfl).2.1 (h2 _)
    | false =>
      have := (k.no rfl).1
      rw [show l = m from h1.trans this.symm]
def Zer (A : Nat → Nat → Prop) (p : Nat → Int) : Prop := ∀ j, LeastN A j → p j = 0
theorem closed_rc {A : Nat → Nat → Prop} {T : Nat → Prop} (hc : ∀ i j, T i → A i j → T j) {i j : Nat} (h : Rc A i j) (hi : T i) : T j := by
  induction h with
  | refl => exact hi
  | step _ ha ih => exact hc _ _ ih ha
theorem norm_ex {A : Nat → Nat → Prop} {R : Nat → Nat → Int} (hs : ∀ i j, A i j → A j i) {q : Nat → Int} (h : Pot A R q) : ∃ p, Pot A R p ∧ Zer A p := by
  refine ⟨fun j => q j - q (Classical.choose (least_ex A j)), fun i j hij => ?_, fun j hj => ?_⟩
  · obtain ⟨i1, i2⟩ := Classical.choose_spec (least_ex A i)
    obtain ⟨j1, j2⟩ := Classical.choose_spec (least_ex A j)
    have e : Classical.choose (least_ex A i) = Classical.choose (least_ex A j) := by
      have c1 := i2 _ (((Rc.symm hs i1).trans (.step (.refl i) hij)).trans j1)
      have c2 := j2 _ (((Rc.symm hs j1).trans (.step (.refl j) (hs _ _ hij))).trans i1)
      omega
    have := h i j hij
    show q j - q _ = q i - q _ + R i j
    rw [e]
    omega
  · obtain ⟨j1, j2⟩ := Classical.choose_spec (least_ex A j)
    have e : Classical.choose (least_ex A j) = j := by
      have c1 := hj _ j1
      have c2 := j2 _ (Rc.symm hs j1)
      omega
    show q j - q _ = 0
    rw [e]
    omega
/-- Between two parts: those that are told are right. -/
structure Opn (A : Nat → Nat → Prop) (R : Nat → Nat → Int) (N f : Nat) (T : Nat → Prop) (out : Nat → Int) : Prop where
  lt : ∀ i, T i → i < N
  cl : ∀ i j, T i → A i j → T j
  low : ∀ k, k < f → T k
  unt : ∀ j, ¬ T j → out j = 0
  val : ∀ p, Pot A R p → Zer A p → ∀ j, T j → out j = p j
  zer : ∀ j, T j → LeastN A j → out j = 0
/-- Within the part of f. -/
structure Cmp (A : Nat → Nat → Prop) (R : Nat → Nat → Int) (N f : Nat) (T0 T : Nat → Prop) (out : Nat → Int) : Prop where
  lt : ∀ i, T i → i < N
  sub : ∀ i, T0 i → T i
  cl0 : ∀ i j, T0 i → A i j → T0 j
  low : ∀ k, k < f → T0 k
  nf : ¬ T0 f
  tf : T f
  rc : ∀ j, T j → ¬ T0 j → Rc A f j
  unt : ∀ j, ¬ T j → out j = 0
  val : ∀ p, Pot A R p → Zer A p → ∀ j, T j → out j = p j
  zer : ∀ j, T j → LeastN A j → out j = 0
section
variable {A : Nat → Nat → Prop} {R : Nat → Nat → Int} {N f : Nat} {T0 T T' : Nat → Prop} {out out' : Nat → Int}
theorem Opn.first (hs : ∀ i j, A i j → A j i) (h : Opn A R N f T out) (hf : ¬ T f) (hN : f < N) (hT : ∀ i, T' i ↔ T i ∨ i = f) : Cmp A R N f T T' out := by
  have hl : LeastN A f := fun k hk => by
    apply Classical.byContradiction
    intro hn
    exact hf (closed_rc h.cl (Rc.symm hs hk) (h.low k (by omega)))
  refine ⟨fun i hi => ?_, fun i hi => (hT i).2 (.inl hi), h.cl, h.low, hf, (hT f).2 (.inr rfl), fun j hj hj0 => ?_, fun j hj => h.unt j fun hh => hj ((hT j).2 (.inl hh)), fun p hp hz j hj => ?_, fun j hj hlj => ?_⟩
  · rcases (hT i).1 hi with hi | hi
    · exact h.lt i hi
    · omega
  · rcases (hT j).1 hj with hj | hj
    · exact absurd hj hj0
    · rw [hj]; exact .refl f
  · rcases (hT j).1 hj with hj | hj
    · exact h.val p hp hz j hj
    · rw [hj, h.unt f hf, hz f hl]
  · rcases (hT j).1 hj with hj | hj
    · exact h.zer j hj hlj
    · rw [hj]; exact h.unt f hf
theorem Cmp.add (hs : ∀ i j, A i j → A j i) (h : Cmp A R N f T0 T out) {i j : Nat} (hi : T i) (hi0 : ¬ T0 i) (hij : A i j) (hj : ¬ T j) (hjN : j < N) (hT : ∀ k, T' k ↔ T k ∨ k = j) (ho : ∀ k, out' k = if k = j then out i + R i j else out k) : Cmp A R N f T0 T' out' := by
  have hne : ∀ k, T k → k ≠ j := fun k hk e => hj (e ▸ hk)
  refine ⟨fun k hk => ?_, fun k hk => (hT k).2 (.inl (h.sub k hk)), h.cl0, h.low, h.nf, (hT f).2 (.inl h.tf), fun k hk hk0 => ?_, fun k hk => ?_, fun p hp hz k hk => ?_, fun k hk hlk => ?_⟩
  · rcases (hT k).1 hk with hk | hk
    · exact h.lt k hk
    · omega
  · rcases (hT k).1 hk with hk | hk
    · exact h.rc k hk hk0
    · rw [hk]; exact .step (h.rc i hi hi0) hij
  · have hkj : k ≠ j := fun e => hk ((hT k).2 (.inr e))
    rw [ho, if_neg hkj]
    exact h.unt k fun hh => hk ((hT k).2 (.inl hh))
  · rcases (hT k).1 hk with hk | hk
    · rw [ho, if_neg (hne k hk)]; exact h.val p hp hz k hk
    · rw [ho, if_pos hk, hk, h.val p hp hz i hi, hp i j hij]
  · rcases (hT k).1 hk with hk | hk
    · rw [ho, if_neg (hne k hk)]; exact h.zer k hk hlk
    · subst hk
      have h1 := hlk f (Rc.symm hs (.step (h.rc i hi hi0) hij))
      have : ¬ k < f := fun hlt => hj (h.sub k (h.low k hlt))
      have : k = f := by omega
      subst this
      exact absurd h.tf hj
theorem Cmp.done (h : Cmp A R N f T0 T out) (hc : ∀ i j, T i → A i j → T j) : Opn A R N (f + 1) T out :=
  ⟨h.lt, hc, fun k hk => by
    by_cases e : k = f
    · rw [e]; exact h.tf
    · exact h.sub k (h.low k (by omega)), h.unt, h.val, h.zer⟩
theorem Opn.next (h : Opn A R N f T out) (hf : T f) : Opn A R N (f + 1) T out :=
  ⟨h.lt, h.cl, fun k hk => by
    by_cases e : k = f
    · rw [e]; exact hf
    · exact h.low k (by omega), h.unt, h.val, h.zer⟩
end
end FN

/-! Heights: the program's and the reference's alike. -/
namespace FN
open Go
def riseV (x y : Int) : Int := if Int.tmod (y - x + 3) 3 = 1 then 1 else if Int.tmod (y - x + 3) 3 = 2 then -1 else 0
theorem riseV_rng (x y : Int) : -1 ≤ riseV x y ∧ riseV x y ≤ 1 := by
  unfold riseV
  split
  · omega
  · split <;> omega
def Adj (a : List Int) (i j : Nat) : Prop := i < a.length ∧ adj a i j
def Rs (b : List Int) (i j : Nat) : Int := riseV (b.getD i 0) (b.getD j 0)
def Td (tl : List Bool) (i : Nat) : Prop := tl.getD i false = true
def Un (tl : List Bool) : Nat := tl.count false
theorem getB_set (z : List Bool) (i k : Nat) (v : Bool) : (z.set i v).getD k false = if k = i ∧ i < z.length then v else z.getD k false := by
  rw [List.getD_eq_getElem?_getD, List.getD_eq_getElem?_getD, List.getElem?_set]
  by_cases h : i = k
  · subst h
    by_cases h2 : i < z.length
    · simp [h2]
    · rw [if_pos rfl, if_neg h2, if_neg (by omega), List.getElem?_eq_none (by omega)]
  · rw [if_neg h, if_neg (by omega)]
theorem Td_set {tl : List Bool} {j : Nat} (hj : j < tl.length) (k : Nat) : Td (tl.set j true) k ↔ Td tl k ∨ k = j := by
  unfold Td
  rw [getB_set]
  by_cases e : k = j
  · rw [if_pos ⟨e, hj⟩]; simp [e]
  · rw [if_neg (fun hh => e hh.1)]; simp [e]
theorem Un_set {tl : List Bool} {j : Nat} (hj : j < tl.length) (h : ¬ Td tl j) : Un (tl.set j true) + 1 = Un tl := by
  unfold Un
  have hg : tl[j] = false := by
    unfold Td at h
    rw [List.getD_eq_getElem?_getD, List.getElem?_eq_getElem hj] at h
    simpa using h
  have hpos : 0 < tl.count false := List.count_pos_iff.2 (by rw [← hg]; exact List.getElem_mem hj)
  rw [List.count_set hj, hg]
  simp
  omega
theorem Un_le (tl : List Bool) : Un tl ≤ tl.length := List.count_le_length
/-- What is asked of an answer. -/
def HG (a b : List Int) (g : Option (List Int × Bool)) : Prop := ∃ r, g = some r ∧ Heights (Adj a) (Rs b) a.length r ∧ ∀ v ∈ r.1, -6 ≤ v ∧ v ≤ 6
section
variable {a b : List Int} (h : PlP a 3 b)
include h
theorem Adj_sym {i j : Nat} (hh : Adj a i j) : Adj a j i := ⟨adj_lt h.1 hh.1 hh.2, adj_sym h.1 hh.1 hh.2⟩
theorem i_rise_val {i j : Nat} (hi : i < b.length) (hj : j < b.length) : i_rise_f (b, (i : Int), (j : Int)) = some (Rs b i j) := by
  have h1 := h.2.1.1 i hi
  have h2 := h.2.1.1 j hj
  rw [i_rise_f_eq, if_pos (inN hj), if_pos (inN hi), gN, gN, i64w (n := b.getD j 0 - b.getD i 0) (by omega) (by omega), i64w (by omega) (by omega)]
  unfold Rs riseV
  by_cases c1 : Int.tmod (b.getD j 0 - b.getD i 0 + 3) 3 = 1
  · rw [beq_t c1, if_pos c1]
  · rw [beq_f c1, if_neg c1]
    by_cases c2 : Int.tmod (b.getD j 0 - b.getD i 0 + 3) 3 = 2
    · rw [beq_t c2, if_pos c2]
    · rw [beq_f c2, if_neg c2]
theorem s_rise_val {i j : Nat} (hi : i < b.length) (hj : j < b.length) : s_l6Rise_f (b.getD i 0, b.getD j 0) = some (Rs b i j) := by
  have h1 := h.2.1.1 i hi
  have h2 := h.2.1.1 j hj
  rw [s_l6Rise_f_eq]
  unfold Rs
  generalize b.getD i 0 = x at h1 ⊢
  generalize b.getD j 0 = y at h2 ⊢
  have hx : x = 0 ∨ x = 1 ∨ x = 2 := by omega
  have hy : y = 0 ∨ y = 1 ∨ y = 2 := by omega
  rcases hx with rfl | rfl | rfl <;> rcases hy with rfl | rfl | rfl <;> rfl
omit h in
/-- Within a part, at the p-th of its list. -/
structure HI (a b : List Int) (f p : Nat) (T0 : Nat → Prop) (out : List Int) (tl : List Bool) (L : List Int) : Prop where
  ol : out.length = a.length
  tn : tl.length = a.length
  cmp : Cmp (Adj a) (Rs b) a.length f T0 (Td tl) (fun k => out.getD k 0)
  ent : ∀ q, q < L.length → ∃ n : Nat, L.getD q 0 = (n : Int) ∧ n < a.length ∧ Td tl n ∧ ¬ T0 n
  all : ∀ j, Td tl j → ¬ T0 j → ∃ q, q < L.length ∧ L.getD q 0 = (j : Int)
  old : ∀ i j, T0 i → Adj a i j → out.getD j 0 = out.getD i 0 + Rs b i j
  edg : ∀ q, q < p → ∀ i : Nat, q < L.length → L.getD q 0 = (i : Int) → ∀ j, Adj a i j → Td tl j ∧ out.getD j 0 = out.getD i 0 + Rs b i j
  cnt : L.length + Un tl ≤ a.length
  bnd : ∀ j, (Un tl : Int) - (a.length : Int) ≤ out.getD j 0 ∧ out.getD j 0 ≤ (a.length : Int) - (Un tl : Int)
theorem i_high_l2 {f p i : Nat} {T0 : Nat → Prop} (hnext : ∀ out tl L, HI a b f (p + 1) T0 out tl L → HG a b (i_HeightRow_l1 a b ((p + 1 : Nat) : Int) (a.length : Int) (f : Int) out tl L)) : ∀ j, j ≤ a.length → ∀ out tl L, HI a b f p T0 out tl L → p < L.length → L.getD p 0 = (i : Int) → i < a.length → Td tl i → ¬ T0 i →
    (∀ k, k < j → Adj a i k → Td tl k ∧ out.getD k 0 = out.getD i 0 + Rs b i k) → HG a b (i_HeightRow_l2 a b (p : Int) (i : Int) (a.length : Int) (f : Int) (a.length : Int) (j : Int) out tl L) := by
  have hm := PlP.sm h
  have he := h.2.2
  have hs := fun i j (hh : Adj a i j) => Adj_sym h hh
  refine advN ?_ fun j hj ih => ?_
  · intro out tl L H hp hpi hi hti hi0 hpar
    have hc := H.cnt
    rw [i_HeightRow_l2_eq, cnd_f (by omega), w1 hp (by omega)]
    refine hnext out tl L ⟨H.ol, H.tn, H.cmp, H.ent, H.all, H.old, fun q hq n hqL hqn k hk => ?_, H.cnt, H.bnd⟩
    by_cases e : q = p
    · subst e
      have : n = i := by have := hqn.symm.trans hpi; omega
      subst this
      exact hpar k (adj_lt h.1 hk.1 hk.2) hk
    · exact H.edg q (by omega) n hqL hqn k hk
  · intro out tl L H hp hpi hi hti hi0 hpar
    have hol := H.ol
    have htn := H.tn
    have hcn := H.cnt
    have hbi := H.bnd i
    have hbj := H.bnd j
    have hrr := riseV_rng (b.getD i 0) (b.getD j 0)
    have hRs : Rs b i j = riseV (b.getD i 0) (b.getD j 0) := rfl
    rw [i_HeightRow_l2_eq, cnd_t (by omega), if_pos (inN hi), if_neg (by omega), gN, gN, gN, bit_and _ (by omega), w1 hj (by omega)]
    by_cases c : bt (a.getD i 0) j = 0
    · rw [beq_t c]
      refine ih out tl L H hp hpi hi hti hi0 fun k hk hk' => ?_
      by_cases e : k = j
      · subst e
        have := hk'.2
        unfold adj at this
        omega
      · exact hpar k (by omega) hk'
    · have hadj : Adj a i j := ⟨hi, by have := bt01 (a.getD i 0) j; unfold adj; omega⟩
      rw [beq_f c, if_pos (by rw [hol]; exact inN hi), i_rise_val h (by omega) (by omega), Option.bind_some, if_pos (by rw [htn]; exact inN hj), show List.getD tl ((j : Int)).toNat false = tl.getD j false by rw [Int.toNat_natCast], i64w (n := out.getD i 0 + Rs b i j) (by omega) (by omega)]
      by_cases ht : Td tl j
      · have ht' : tl.getD j false = true := ht
        rw [ht', cond_true, if_pos (by rw [hol]; exact inN hj)]
        by_cases ce : out.getD j 0 = out.getD i 0 + Rs b i j
        · rw [bne_f ce, if_pos (by rw [htn]; exact inN hj), Bool.not_true, cond_false]
          refine ih out tl L H hp hpi hi hti hi0 fun k hk hk' => ?_
          by_cases e : k = j
          · subst e; exact ⟨ht, ce⟩
          · exact hpar k (by omega) hk'
        · rw [bne_t ce]
          refine ⟨([], false), rfl, ⟨fun hh => (by cases hh), fun _ => ⟨rfl, fun q hq => ?_⟩⟩, fun v hv => by cases hv⟩
          obtain ⟨p', p1, p2⟩ := norm_ex hs hq
          have v1 := H.cmp.val p' p1 p2 i hti
          have v2 := H.cmp.val p' p1 p2 j ht
          have v3 := p1 i j hadj
          exact ce (by omega)
      · have ht' : tl.getD j false = false := by
          cases hq : tl.getD j false with
          | false => rfl
          | true => exact absurd hq ht
        have hun := Un_set (tl := tl) (j := j) (by omega) ht
        rw [ht', cond_false, if_pos (by rw [htn]; exact inN hj), Bool.not_false, cond_true, if_pos (by rw [htn]; exact inN hj), if_pos (by rw [hol]; exact inN hj), if_pos (by simp; omega), Int.toNat_natCast]
        have hij : i ≠ j := fun e => ht (e ▸ hti)
        have hgo : ∀ k, (out.set j (out.getD i 0 + Rs b i j)).getD k 0 = if k = j then out.getD i 0 + Rs b i j else out.getD k 0 := fun k => by
          rw [getI_set]
          by_cases e : k = j
          · rw [if_pos ⟨e, by omega⟩, if_pos e]
          · rw [if_neg (fun hh => e hh.1), if_neg e]
        have hgi : (out.set j (out.getD i 0 + Rs b i j)).getD i 0 = out.getD i 0 := by rw [hgo, if_neg hij]
        have hkT : ∀ k, Td tl k → (out.set j (out.getD i 0 + Rs b i j)).getD k 0 = out.getD k 0 := fun k hk => by
          rw [hgo, if_neg (fun e : k = j => ht (e ▸ hk))]
        have hTs := Td_set (tl := tl) (j := j) (by omega)
        have hLa : ∀ q, q < L.length → (L ++ [(j : Int)]).getD q 0 = L.getD q 0 := fun q hq => by
          rw [List.getD_eq_getElem?_getD, List.getD_eq_getElem?_getD, List.getElem?_append_left hq]
        have hLl : (L ++ [(j : Int)]).getD L.length 0 = (j : Int) := by
          rw [List.getD_eq_getElem?_getD, List.getElem?_append_right (Nat.le_refl _)]; simp
        refine ih _ (tl.set j true) (L ++ [(j : Int)]) ⟨by simp [hol], by simp [htn], H.cmp.add hs hti hi0 hadj ht hj hTs hgo, fun q hq => ?_, fun k hk hk0 => ?_, fun k m hk hkm => ?_, fun q hq n hqL hqn k hk => ?_, ?_, fun k => ?_⟩ (by simp; omega) ((hLa p hp).trans hpi) hi ((hTs i).2 (.inl hti)) hi0 fun k hk hk' => ?_
        · by_cases e : q < L.length
          · obtain ⟨n, n1, n2, n3, n4⟩ := H.ent q e
            exact ⟨n, (hLa q e).trans n1, n2, (hTs n).2 (.inl n3), n4⟩
          · have : q = L.length := by simp at hq; omega
            subst this
            exact ⟨j, hLl, hj, (hTs j).2 (.inr rfl), fun hh => ht (H.cmp.sub j hh)⟩
        · rcases (hTs k).1 hk with hk | hk
          · obtain ⟨q, q1, q2⟩ := H.all k hk hk0
            exact ⟨q, by simp; omega, (hLa q q1).trans q2⟩
          · subst hk
            exact ⟨L.length, by simp, hLl⟩
        · have hm' := H.cmp.cl0 k m hk hkm
          rw [hkT k (H.cmp.sub k hk), hkT m (H.cmp.sub m hm')]
          exact H.old k m hk hkm
        · have hqL' : q < L.length := by omega
          rw [hLa q hqL'] at hqn
          obtain ⟨e1, e2⟩ := H.edg q hq n hqL' hqn k hk
          obtain ⟨n', n1, n2, n3, n4⟩ := H.ent q hqL'
          have : n' = n := by have := n1.symm.trans hqn; omega
          subst this
          exact ⟨(hTs k).2 (.inl e1), by rw [hkT k e1, hkT n' n3]; exact e2⟩
        · simp
          omega
        · rw [hgo]
          have := H.bnd k
          split <;> omega
        · by_cases e : k = j
          · subst e
            exact ⟨(hTs k).2 (.inr rfl), by rw [hgo, if_pos rfl, hgi]⟩
          · obtain ⟨e1, e2⟩ := hpar k (by omega) hk'
            exact ⟨(hTs k).2 (.inl e1), by rw [hkT k e1, hgi]; exact e2⟩
theorem i_high_l1 {f : Nat} {T0 : Nat → Prop} (hf : f < a.length) (hnext : ∀ out tl, out.length = a.length → tl.length = a.length → Opn (Adj a) (Rs b) a.length (f + 1) (Td tl) (fun k => out.getD k 0) → (∀ i j, Td tl i → Adj a i j → out.getD j 0 = out.getD i 0 + Rs b i j) → (∀ j, (Un tl : Int) - (a.length : Int) ≤ out.getD j 0 ∧ out.getD j 0 ≤ (a.length : Int) - (Un tl : Int)) → HG a b (i_HeightRow_l0 a b (a.length : Int) ((f + 1 : Nat) : Int) out tl)) :
    ∀ d p, a.length - p ≤ d → ∀ out tl L, HI a b f p T0 out tl L → HG a b (i_HeightRow_l1 a b (p : Int) (a.length : Int) (f : Int) out tl L) := by
  have hm := PlP.sm h
  intro d
  induction d with
  | zero =>
    intro p hp out tl L H
    have hc := H.cnt
    have : ∀ i j, Td tl i → Adj a i j → Td tl j ∧ out.getD j 0 = out.getD i 0 + Rs b i j := fun i j hi hij => by
      by_cases c : T0 i
      · exact ⟨H.cmp.sub j (H.cmp.cl0 i j c hij), H.old i j c hij⟩
      · obtain ⟨q, q1, q2⟩ := H.all i hi c
        exact H.edg q (by omega) i q1 q2 j hij
    rw [i_HeightRow_l1_eq, cnd_f (by omega), w1 hf (by omega)]
    exact hnext out tl H.ol H.tn (H.cmp.done fun i j hi hij => (this i j hi hij).1) (fun i j hi hij => (this i j hi hij).2) H.bnd
  | succ d ih =>
    intro p hp out tl L H
    have hc := H.cnt
    by_cases c : p < L.length
    · obtain ⟨i, i1, i2, i3, i4⟩ := H.ent p c
      rw [i_HeightRow_l1_eq, cnd_t (by omega), if_pos (inN c), gN, i1]
      exact i_high_l2 h (fun out tl L H' => ih (p + 1) (by omega) out tl L H') 0 (by omega) out tl L H c i1 i2 i3 i4 fun k hk => by omega
    · have : ∀ i j, Td tl i → Adj a i j → Td tl j ∧ out.getD j 0 = out.getD i 0 + Rs b i j := fun i j hi hij => by
        by_cases c : T0 i
        · exact ⟨H.cmp.sub j (H.cmp.cl0 i j c hij), H.old i j c hij⟩
        · obtain ⟨q, q1, q2⟩ := H.all i hi c
          exact H.edg q (by omega) i q1 q2 j hij
      rw [i_HeightRow_l1_eq, cnd_f (by omega), w1 hf (by omega)]
      exact hnext out tl H.ol H.tn (H.cmp.done fun i j hi hij => (this i j hi hij).1) (fun i j hi hij => (this i j hi hij).2) H.bnd
theorem i_high_l0 : ∀ f, f ≤ a.length → ∀ out tl, out.length = a.length → tl.length = a.length → Opn (Adj a) (Rs b) a.length f (Td tl) (fun k => out.getD k 0) → (∀ i j, Td tl i → Adj a i j → out.getD j 0 = out.getD i 0 + Rs b i j) → (∀ j, (Un tl : Int) - (a.length : Int) ≤ out.getD j 0 ∧ out.getD j 0 ≤ (a.length : Int) - (Un tl : Int)) → HG a b (i_HeightRow_l0 a b (a.length : Int) (f : Int) out tl) := by
  have hm := PlP.sm h
  have hs := fun i j (hh : Adj a i j) => Adj_sym h hh
  refine advN ?_ fun f hf ih => ?_
  · intro out tl hol htn hO hE hB
    rw [i_HeightRow_l0_eq, cnd_f (by omega)]
    refine ⟨(out, true), rfl, ⟨fun _ => ⟨hol, fun i j hij => hE i j (hO.low i hij.1) hij, fun j hj => ?_⟩, fun hh => by cases hh⟩, fun v hv => ?_⟩
    · by_cases c : j < a.length
      · exact hO.zer j (hO.low j c) hj
      · exact hO.unt j fun hh => c (hO.lt j hh)
    · have key : ∀ v ∈ out, -6 ≤ v ∧ v ≤ 6 := fun v hv => by
        obtain ⟨k, hk, rfl⟩ := List.getElem_of_mem hv
        have := hB k
        rw [List.getD_eq_getElem?_getD, List.getElem?_eq_getElem hk] at this
        simp only [Option.getD_some] at this
        omega
      exact key v hv
  · intro out tl hol htn hO hE hB
    rw [i_HeightRow_l0_eq, cnd_t (by omega), if_pos (by rw [htn]; exact inN hf), show List.getD tl ((f : Int)).toNat false = tl.getD f false by rw [Int.toNat_natCast], w1 hf (by omega)]
    by_cases c : Td tl f
    · rw [show tl.getD f false = true from c, cond_true]
      exact ih out tl hol htn (hO.next c) hE hB
    · have c' : tl.getD f false = false := by
        cases hq : tl.getD f false with
        | false => rfl
        | true => exact absurd hq c
      have hun := Un_set (tl := tl) (j := f) (by omega) c
      have hul := Un_le tl
      have hTs := Td_set (tl := tl) (j := f) (by omega)
      rw [c', cond_false, if_pos (by rw [htn]; exact inN hf), Int.toNat_natCast]
      refine i_high_l1 h hf (fun out tl h1 h2 h3 h4 h5 => ih out tl h1 h2 h3 h4 h5) a.length 0 (by omega) out (tl.set f true) [(f : Int)] ⟨hol, by simp [htn], hO.first hs c hf hTs, fun q hq => ?_, fun j hj hj0 => ?_, hE, fun q hq => by omega, ?_, fun j => ?_⟩
      · have : q = 0 := by simp at hq; omega
        subst this
        exact ⟨f, rfl, hf, (hTs f).2 (.inr rfl), c⟩
      · rcases (hTs j).1 hj with hj | hj
        · exact absurd hj hj0
        · subst hj; exact ⟨0, by simp, rfl⟩
      · simp; omega
      · have := hB j
        omega
omit h in
theorem getB_rep (n k : Nat) : (List.replicate n false).getD k false = false := by
  rw [List.getD_eq_getElem?_getD, List.getElem?_replicate]
  split <;> rfl
theorem i_high : HG a b (i_HeightRow_f (a, b)) := by
  have hm := PlP.sm h
  have hT : ∀ i, ¬ Td (List.replicate a.length false) i := fun i hi => by
    unfold Td at hi
    rw [getB_rep] at hi
    cases hi
  rw [i_HeightRow_f_eq, iasked a 3 b (by omega), Option.bind_some, decide_eq_true h, Bool.not_true, cond_false, if_pos ⟨by omega, by omega, by omega⟩, if_pos ⟨by omega, by omega, by omega⟩, Int.toNat_natCast]
  refine i_high_l0 h 0 (by omega) _ _ (by simp) (by simp) ⟨fun i hi => absurd hi (hT i), fun i j hi => absurd hi (hT i), fun k hk => by omega, fun j _ => ?_, fun p _ _ j hj => absurd hj (hT j), fun j hj => absurd hj (hT j)⟩ (fun i j hi => absurd hi (hT i)) fun j => ?_
  · show (List.replicate a.length (0 : Int)).getD j 0 = 0
    rw [getD_rep]; split <;> rfl
  · have : Un (List.replicate a.length false) = a.length := by simp [Un]
    rw [this, getD_rep]
    split <;> omega
end
end FN

/-! Heights by the reference. -/
namespace FN
open Go
def HS (a b : List Int) (g : Option (List Int × Bool)) : Prop := ∃ r, g = some r ∧ Heights (Adj a) (Rs b) a.length r
def Sn (S : Nat) (i : Nat) : Prop := S.testBit i = true
theorem Sn_or (S j k : Nat) : Sn (S ||| 2 ^ j) k ↔ Sn S k ∨ k = j := by
  unfold Sn
  rw [bit_or, Bool.or_eq_true, decide_eq_true_eq]
  constructor
  · rintro (hh | hh)
    · exact .inl hh
    · exact .inr hh.symm
  · rintro (hh | hh)
    · exact .inl hh
    · exact .inr hh.symm
theorem or_lt {S j : Nat} (h : ¬ Sn S j) : S < S ||| 2 ^ j := by
  have h1 : S ≤ S ||| 2 ^ j := Nat.left_le_or
  have h2 : S ≠ S ||| 2 ^ j := fun e => h (by rw [e]; exact (Sn_or S j j).2 (.inr rfl))
  omega
theorem or_64 {S j : Nat} (h : S < 64) (hj : j < 6) : S ||| 2 ^ j < 64 := by
  have : 2 ^ j < 2 ^ 6 := Nat.pow_lt_pow_right (by omega) hj
  exact or64 h (by omega)
theorem or_bits {S j : Nat} (h : S < 64) (hj : j < 6) : Go.bits .or IntKind.i64 (S : Int) (IntKind.i64.wrap (1 * 2 ^ min ((j : Int)).toNat IntKind.i64.bits)) = ((S ||| 2 ^ j : Nat) : Int) := by
  have hp : (2 : Nat) ^ j < 2 ^ 6 := Nat.pow_lt_pow_right (by omega) hj
  rw [sh1 (by omega), show (2 : Int) ^ j = ((2 ^ j : Nat) : Int) by push_cast; rfl]
  exact (bits_nat (by omega) (by omega)).2.1
section
variable {a b : List Int} (h : PlP a 3 b)
include h
omit h in
structure SI (a b : List Int) (f : Nat) (T0 : Nat → Prop) (S : Nat) (out : List Int) : Prop where
  ol : out.length = a.length
  cmp : Cmp (Adj a) (Rs b) a.length f T0 (Sn S) (fun k => out.getD k 0)
  s64 : S < 64
  bnd : ∀ j, -(S : Int) ≤ out.getD j 0 ∧ out.getD j 0 ≤ (S : Int)
omit h in
structure SQ (a b : List Int) (f : Nat) (T0 : Nat → Prop) (S0 k : Nat) (S : Nat) (again : Bool) (out : List Int) : Prop where
  si : SI a b f T0 S out
  le : S0 ≤ S
  ag : again = true → S0 < S
  na : again = false → ∀ k', k' < k → Sn S k' → ∀ j, Adj a k' j → Sn S j
theorem s_high_l5 {f S0 k : Nat} {T0 : Nat → Prop} (hk : k < a.length) (hT0 : ∀ i, T0 i → Sn S0 i) (hnext : ∀ S again out, SQ a b f T0 S0 (k + 1) S again out → HS a b (s_l7Heights_l3 a b (S : Int) (f : Int) again ((k + 1 : Nat) : Int) out)) : ∀ j, j ≤ a.length → ∀ S again out, SQ a b f T0 S0 k S again out → (again = false → Sn S k → ∀ j', j' < j → Adj a k j' → Sn S j') → HS a b (s_l7Heights_l5 a b (S : Int) (f : Int) again (k : Int) (j : Int) out) := by
  have hm := PlP.sm h
  have he := h.2.2
  have hs := fun i j (hh : Adj a i j) => Adj_sym h hh
  refine advN ?_ fun j hj ih => ?_
  · intro S again out Q hpar
    rw [s_l7Heights_l5_eq, cnd_f (by omega), w1 hk (by omega)]
    refine hnext S again out ⟨Q.si, Q.le, Q.ag, fun hag k' hk' hsk j hkj => ?_⟩
    by_cases e : k' = k
    · subst e; exact hpar hag hsk j (adj_lt h.1 hkj.1 hkj.2) hkj
    · exact Q.na hag k' (by omega) hsk j hkj
  · intro S again out Q hpar
    have H := Q.si
    have hol := H.ol
    have hS := H.s64
    have hrk := h.1.rng k hk
    have hbk := H.bnd k
    have hrr := riseV_rng (b.getD k 0) (b.getD j 0)
    have hRs : Rs b k j = riseV (b.getD k 0) (b.getD j 0) := rfl
    rw [s_l7Heights_l5_eq, cnd_t (by omega), if_neg (by omega), bit_mod (by omega) (by omega), bt_beq, w1 hj (by omega), w1 hk (by omega), gN, gN, gN, gN, bit_mod hrk.1 (by omega), bit_mod (by omega) (by omega)]
    by_cases c1 : S.testBit k = true
    · rw [if_pos c1, if_pos (inN hk), if_neg (by omega)]
      by_cases c2 : bt (a.getD k 0) j = 1
      · have hadj : Adj a k j := ⟨hk, c2⟩
        rw [beq_t c2, if_neg (by omega), bt_nat]
        by_cases c3 : S.testBit j = true
        · rw [if_pos c3, beq_f (by omega)]
          refine ih S again out Q fun hag hsk j' hj' hkj => ?_
          by_cases e : j' = j
          · subst e; exact c3
          · exact hpar hag hsk j' (by omega) hkj
        · have c3' : ¬ Sn S j := c3
          have hlt := or_lt c3'
          have hko : ¬ T0 k := fun hh => c3' (H.cmp.sub j (H.cmp.cl0 k j hh hadj))
          rw [if_neg c3, beq_t rfl, if_pos (by rw [hol]; exact inN hk), if_pos (inN (by omega)), if_pos (inN (by omega)), s_rise_val h (by omega) (by omega), Option.bind_some, if_pos (by rw [hol]; exact inN hj), if_neg (by omega), or_bits hS (by omega), i64w (by omega) (by omega), Int.toNat_natCast]
          have hgo : ∀ m, (out.set j (out.getD k 0 + Rs b k j)).getD m 0 = if m = j then out.getD k 0 + Rs b k j else out.getD m 0 := fun m => by
            rw [getI_set]
            by_cases e : m = j
            · rw [if_pos ⟨e, by omega⟩, if_pos e]
            · rw [if_neg (fun hh => e hh.1), if_neg e]
          refine ih (S ||| 2 ^ j) true _ ⟨⟨by simp [hol], H.cmp.add hs c1 hko hadj c3' hj (Sn_or S j) hgo, or_64 hS (by omega), fun m => ?_⟩, by have := Q.le; omega, fun _ => by have := Q.le; omega, fun hh => by cases hh⟩ fun hh => by cases hh
          rw [hgo]
          have := H.bnd m
          split <;> omega
      · rw [beq_f c2]
        refine ih S again out Q fun hag hsk j' hj' hkj => ?_
        by_cases e : j' = j
        · subst e; exact absurd hkj.2 c2
        · exact hpar hag hsk j' (by omega) hkj
    · rw [if_neg c1]
      refine hnext S again out ⟨Q.si, Q.le, Q.ag, fun hag k' hk' hsk j hkj => ?_⟩
      by_cases e : k' = k
      · subst e; exact absurd hsk c1
      · exact Q.na hag k' (by omega) hsk j hkj
theorem s_high_l3 {f S0 : Nat} {T0 : Nat → Prop} (hT0 : ∀ i, T0 i → Sn S0 i) (hnext : ∀ S again out, SQ a b f T0 S0 a.length S again out → HS a b (s_l7Heights_l1 a b (S : Int) (f : Int) again out)) : ∀ k, k ≤ a.length → ∀ S again out, SQ a b f T0 S0 k S again out → HS a b (s_l7Heights_l3 a b (S : Int) (f : Int) again (k : Int) out) := by
  have hm := PlP.sm h
  refine advN ?_ fun k hk ih => ?_
  · intro S again out Q
    rw [s_l7Heights_l3_eq, cnd_f (by omega)]
    exact hnext S again out Q
  · intro S again out Q
    rw [s_l7Heights_l3_eq, cnd_t (by omega)]
    exact s_high_l5 h hk hT0 ih 0 (by omega) S again out Q fun _ _ j' hj' => by omega
theorem s_high_l1 {f : Nat} {T0 : Nat → Prop} (hf : f < a.length) (hnext : ∀ S out, out.length = a.length → S < 64 → Opn (Adj a) (Rs b) a.length (f + 1) (Sn S) (fun k => out.getD k 0) → (∀ j, -(S : Int) ≤ out.getD j 0 ∧ out.getD j 0 ≤ (S : Int)) → HS a b (s_l7Heights_l0 a b (S : Int) ((f + 1 : Nat) : Int) out)) :
    ∀ d S0, 63 - S0 ≤ d → ∀ out, SI a b f T0 S0 out → HS a b (s_l7Heights_l1 a b (S0 : Int) (f : Int) true out) := by
  have hm := PlP.sm h
  intro d
  induction d with
  | zero =>
    intro S0 hd out H
    rw [s_l7Heights_l1_eq, cond_true]
    refine s_high_l3 h H.cmp.sub (fun S again out Q => ?_) 0 (by omega) S0 false out ⟨H, Nat.le_refl _, (fun hh => by cases hh), fun _ k' hk' => by omega⟩
    have hS := Q.si.s64
    cases again with
    | true => have := Q.ag rfl; omega
    | false =>
      rw [s_l7Heights_l1_eq, cond_false, w1 hf (by omega)]
      exact hnext S out Q.si.ol hS (Q.si.cmp.done fun i j hi hij => Q.na rfl i (Q.si.cmp.lt i hi) hi j hij) Q.si.bnd
  | succ d ih =>
    intro S0 hd out H
    rw [s_l7Heights_l1_eq, cond_true]
    refine s_high_l3 h H.cmp.sub (fun S again out Q => ?_) 0 (by omega) S0 false out ⟨H, Nat.le_refl _, (fun hh => by cases hh), fun _ k' hk' => by omega⟩
    have hS := Q.si.s64
    cases again with
    | true => exact ih S (by have := Q.ag rfl; omega) out Q.si
    | false =>
      rw [s_l7Heights_l1_eq, cond_false, w1 hf (by omega)]
      exact hnext S out Q.si.ol hS (Q.si.cmp.done fun i j hi hij => Q.na rfl i (Q.si.cmp.lt i hi) hi j hij) Q.si.bnd
theorem s_high_end {S : Nat} {out : List Int} (hol : out.length = a.length) (hS : S < 64) (hO : Opn (Adj a) (Rs b) a.length a.length (Sn S) (fun k => out.getD k 0)) (hB : ∀ j, -(S : Int) ≤ out.getD j 0 ∧ out.getD j 0 ≤ (S : Int)) : HS a b (s_l7Heights_l4 a b 0 out) := by
  have hm := PlP.sm h
  have he := h.2.2
  have hs := fun i j (hh : Adj a i j) => Adj_sym h hh
  have outer : ∀ k, k ≤ a.length → (∀ i j, i < k → Adj a i j → out.getD j 0 = out.getD i 0 + Rs b i j) → HS a b (s_l7Heights_l4 a b (k : Int) out) := by
    refine advN ?_ fun k hk ih => ?_
    · intro hE
      rw [s_l7Heights_l4_eq, cnd_f (by omega)]
      refine ⟨(out, true), rfl, ⟨fun _ => ⟨hol, fun i j hij => hE i j hij.1 hij, fun j hj => ?_⟩, fun hh => by cases hh⟩⟩
      by_cases c : j < a.length
      · exact hO.zer j (hO.low j c) hj
      · exact hO.unt j fun hh => c (hO.lt j hh)
    · intro hE
      have inner : ∀ j, j ≤ a.length → (∀ j', j' < j → Adj a k j' → out.getD j' 0 = out.getD k 0 + Rs b k j') → HS a b (s_l7Heights_l6 a b (k : Int) (j : Int) out) := by
        refine advN ?_ fun j hj ihj => ?_
        · intro hP
          rw [s_l7Heights_l6_eq, cnd_f (by omega), w1 hk (by omega)]
          refine ih fun i j' hi hij => ?_
          by_cases e : i = k
          · subst e; exact hP j' (adj_lt h.1 hij.1 hij.2) hij
          · exact hE i j' (by omega) hij
        · intro hP
          have hrk := h.1.rng k hk
          have hbk := hB k
          have hbj := hB j
          rw [s_l7Heights_l6_eq, cnd_t (by omega), if_pos (inN hk), if_neg (by omega), gN, gN, gN, gN, gN, bit_mod hrk.1 (by omega), w1 hj (by omega)]
          by_cases c2 : bt (a.getD k 0) j = 1
          · have hadj : Adj a k j := ⟨hk, c2⟩
            rw [beq_t c2, if_pos (by rw [hol]; exact inN hj), if_pos (by rw [hol]; exact inN hk), if_pos (inN (by omega)), if_pos (inN (by omega)), s_rise_val h (by omega) (by omega), Option.bind_some, i64w (by omega) (by omega)]
            by_cases c3 : out.getD j 0 - out.getD k 0 = Rs b k j
            · rw [bne_f c3]
              refine ihj fun j' hj' hkj => ?_
              by_cases e : j' = j
              · subst e; omega
              · exact hP j' (by omega) hkj
            · rw [bne_t c3]
              refine ⟨([], false), rfl, ⟨(fun hh => by cases hh), fun _ => ⟨rfl, fun q hq => ?_⟩⟩⟩
              obtain ⟨p', p1, p2⟩ := norm_ex hs hq
              have v1 := hO.val p' p1 p2 k (hO.low k hk)
              have v2 := hO.val p' p1 p2 j (hO.low j hj)
              have v3 := p1 k j hadj
              exact c3 (by omega)
          · rw [beq_f c2]
            refine ihj fun j' hj' hkj => ?_
            by_cases e : j' = j
            · subst e; exact absurd hkj.2 c2
            · exact hP j' (by omega) hkj
      rw [s_l7Heights_l4_eq, cnd_t (by omega)]
      exact inner 0 (by omega) fun j' hj' => by omega
  exact outer 0 (by omega) fun i j hi => by omega
theorem s_high_l0 : ∀ f, f ≤ a.length → ∀ S out, out.length = a.length → S < 64 → Opn (Adj a) (Rs b) a.length f (Sn S) (fun k => out.getD k 0) → (∀ j, -(S : Int) ≤ out.getD j 0 ∧ out.getD j 0 ≤ (S : Int)) → HS a b (s_l7Heights_l0 a b (S : Int) (f : Int) out) := by
  have hm := PlP.sm h
  have hs := fun i j (hh : Adj a i j) => Adj_sym h hh
  refine advN ?_ fun f hf ih => ?_
  · intro S out hol hS hO hB
    rw [s_l7Heights_l0_eq, cnd_f (by omega), s_l7Heights_j2_eq]
    exact s_high_end h hol hS hO hB
  · intro S out hol hS hO hB
    rw [s_l7Heights_l0_eq, cnd_t (by omega), if_neg (by omega), bit_mod (by omega) (by omega), bt_beq, w1 hf (by omega)]
    by_cases c : S.testBit f = true
    · rw [if_pos c]
      exact ih S out hol hS (hO.next c) hB
    · have c' : ¬ Sn S f := c
      have hlt := or_lt c'
      rw [if_neg c, if_neg (by omega), or_bits hS (by omega)]
      exact s_high_l1 h hf (fun S out h1 h2 h3 h4 => ih S out h1 h2 h3 h4) 63 (S ||| 2 ^ f) (by omega) out ⟨hol, hO.first hs c' hf (Sn_or S f), or_64 hS (by omega), fun j => by have := hB j; omega⟩
theorem s_high : HS a b (s_l7Heights_f (a, b)) := by
  have hm := PlP.sm h
  have hT : ∀ i, ¬ Sn 0 i := fun i hi => by
    unfold Sn at hi
    rw [Nat.zero_testBit] at hi
    cases hi
  rw [s_l7Heights_f_eq, if_pos ⟨by omega, by omega, by omega⟩, Int.toNat_natCast]
  refine s_high_l0 h 0 (by omega) 0 _ (by simp) (by omega) ⟨fun i hi => absurd hi (hT i), fun i j hi => absurd hi (hT i), fun k hk => by omega, fun j _ => ?_, fun p _ _ j hj => absurd hj (hT j), fun j hj => absurd hj (hT j)⟩ fun j => ?_
  · show (List.replicate a.length (0 : Int)).getD j 0 = 0
    rw [getD_rep]; split <;> rfl
  · rw [getD_rep]
    split <;> omega
/-- Both. -/
theorem high_both : ∃ (r : List Int) (ok : Bool), i_HeightRow_f (a, b) = some (r, ok) ∧ s_HeightRow_f (a, b) = some (r, ok) ∧ i_FlatOk_f (a, b) = some ok ∧ s_FlatOk_f (a, b) = some ok ∧ r.length ≤ 6 ∧ ∀ v ∈ r, -6 ≤ v ∧ v ≤ 6 := by
  have hm := PlP.sm h
  obtain ⟨⟨r, ok⟩, e1, h1, hb⟩ := i_high h
  obtain ⟨r', e2, h2⟩ := s_high h
  have := h1.uniq h2
  subst this
  refine ⟨r, ok, e1, ?_, ?_, ?_, ?_, hb⟩
  · rw [s_HeightRow_f_eq, sl3 a 3 b (by omega), Option.bind_some, decide_eq_true h, Bool.not_true, cond_false, e2]; rfl
  · rw [i_FlatOk_f_eq, e1]; rfl
  · rw [s_FlatOk_f_eq, sl3 a 3 b (by omega), Option.bind_some, decide_eq_true h, Bool.not_true, cond_false, e2]; rfl
  · cases ok with
    | true => have := (h1.yes rfl).1; simp only at this; omega
    | false => have := (h1.no rfl).1; simp only at this; rw [this]; simp
end
end FN

