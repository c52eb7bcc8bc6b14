/- Texts of the proof, joined: The interpreter, and that it is sound. -/
import Derived.OrdersHeld
import Derived.Control
import Derived.Test.YtjdmcbehegbfjaaA0
set_option linter.unusedVariables false
set_option linter.unusedSimpArgs false
set_option linter.unusedSectionVars false
namespace FN
open Go Go.RowKit
section
variable [Gl] {P : Program} {E : Env'} {pin : Pn} {base : Nat} {rv : Option Value}
/-- A state is told. -/
structure StR (pin : Pn) (base : Nat) (rv : Option Value) (w : World) (ρ : Rh) (s : St) (a : Act) : Prop where
  H : HRel (mine pin base) w base ρ s.h
  tm : ∀ i, V (vw w base ρ s.h) (s.t.getD i .junk) (a.tmps.getD i undef)
  sz : s.t.length ≤ a.tmps.size
  df : a.defers = []
  k0 : ∀ v, rv = some v → ρ 0 = v ∧ 0 < s.h.length
  iv : ∀ w', Kp pin base w w' → Gl.I w'
theorem StR.hop {w : World} {ρ : Rh} {s : St} {a : Act} (h : StR pin base rv w ρ s a) (x : Operand) : V (vw w base ρ s.h) (ev s.t x) (a.eval x) := by
  cases x with
  | tmp i => exact h.tm i
  | const v => exact V_of_V1 (ofVal_V1 _ v)
  | global g => trivial
  | func f => exact ⟨#[], rfl, .nil⟩
theorem getD_set_list {t : List PV} {d i : Nat} {p : PV} : (t.set d p).getD i .junk = if i = d ∧ d < t.length then p else t.getD i .junk := by
  simp only [List.getD_eq_getElem?_getD]
  by_cases h : i = d
  · subst h
    by_cases hl : i < t.length
    · simp [hl]
    · simp [hl]
  · rw [List.getElem?_set_ne (Ne.symm h)]
    simp [h]
theorem getD_put {a : Act} {d : Tmp} {i : Nat} {u : Value} : (a.put (some d) u).tmps.getD i undef = if i = d ∧ d < a.tmps.size then u else a.tmps.getD i undef := by
  simp only [Act.put, Array.getD_eq_getD_getElem?]
  by_cases h : i = d
  · subst h
    by_cases hl : i < a.tmps.size
    · simp [hl]
    · simp [hl]
  · rw [Array.getElem?_setIfInBounds_ne (Ne.symm h)]
    simp [h]
theorem StR.put {w w' : World} {ρ ρ' : Rh} {s : St} {a : Act} {h' : Hp} {d : Option Tmp} {p : PV} {u : Value} (hS : StR pin base rv w ρ s a) (hH : HRel (mine pin base) w' base ρ' h') (hl : (vw w base ρ s.h).Le (vw w' base ρ' h')) (hv : V (vw w' base ρ' h') p u) (hkp : Kp pin base w w') :
    StR pin base rv w' ρ' ⟨putT s.t d p, h'⟩ (a.put d u) := by
  refine ⟨hH, fun i => ?_, ?_, ?_, fun v hv' => ?_, fun w2 h2 => hS.iv w2 (hkp.trans h2)⟩
  · cases d with
    | none => exact V.le hl (hS.tm i)
    | some d =>
      simp only [putT]
      rw [getD_set_list, getD_put]
      by_cases h1 : i = d ∧ d < s.t.length
      · rw [if_pos h1, if_pos ⟨h1.1, Nat.lt_of_lt_of_le h1.2 hS.sz⟩]; exact hv
      · rw [if_neg h1]
        by_cases h2 : i = d ∧ d < a.tmps.size
        · rw [if_pos h2]
          have : s.t.getD i .junk = .junk := by
            rw [List.getD_eq_getElem?_getD, List.getElem?_eq_none (by rw [h2.1]; exact Nat.le_of_not_lt fun hh => h1 ⟨h2.1, hh⟩)]; rfl
          rw [this]
          trivial
        · rw [if_neg h2]; exact V.le hl (hS.tm i)
  · cases d with
    | none => exact hS.sz
    | some d => simpa [putT, Act.put] using hS.sz
  · cases d with
    | none => exact hS.df
    | some d => exact hS.df
  · obtain ⟨h1, h2⟩ := hS.k0 v hv'
    exact ⟨(hl.ρ 0 h2).trans h1, Nat.lt_of_lt_of_le h2 hl.N⟩
theorem StR.know {w : World} {ρ : Rh} {s : St} {a : Act} {d : Tmp} {b : Bool} (hS : StR pin base rv w ρ s a) (hb : s.t.getD d .junk = .bool b) : StR pin base rv w ρ ⟨s.t.set d (.bool b), s.h⟩ a := by
  refine ⟨hS.H, fun i => ?_, by simpa using hS.sz, hS.df, hS.k0, hS.iv⟩
  simp only
  rw [getD_set_list]
  split
  · rename_i h
    have := hS.tm d
    rw [hb] at this
    rw [h.1]
    exact this
  · exact hS.tm i
/-- After the region. -/
def PostR {R : Type} (pin : Pn) (base : Nat) (rv : Option Value) (K : List PV → Hp → Option R) (r : R) (w0 : World) (v0 : Vw) (a : Act) (w : World) : Prop :=
  ∃ t h ρ, K t h = some r ∧ StR pin base rv w ρ ⟨t, h⟩ a ∧ Kp pin base w0 w ∧ v0.Le (vw w base ρ h)
variable (hE : EnvOk P E)
include hE
/-- One operation of a region. -/
theorem exOps_step {R : Type} {all : Array Oper} {o : Oper} {rest : List Oper} {s : St} {K : List PV → Hp → Option R} {r : R} {w : World} {ρ : Rh} {a : Act} (hk : exOps P E all (o :: rest) s.t s.h K = some r) (hS : StR pin base rv w ρ s a) (next : Act → World → Prop) (Q : Exit → Act → World → Prop)
    (hn : ∀ t h w' ρ' a', exOps P E all rest t h K = some r → StR pin base rv w' ρ' ⟨t, h⟩ a' → Kp pin base w w' → (growB E o.op = true → Grows w w') → (vw w base ρ s.h).Le (vw w' base ρ' h) → next a' w') :
    if Region.wanted o (yielded all a.tmps) = true then o.wp P a w next Q else next (a.put o.dst undef) w := by
  have go : ∀ t1 : List PV, StR pin base rv w ρ ⟨t1, s.h⟩ a → (opK P E o t1 s.h fun p h' => exOps P E all rest (putT t1 o.dst p) h' K) = some r → o.wp P a w next Q := by
    intro t1 hS1 hk1
    obtain ⟨p, h', h1, _, hres⟩ := (opK_sound (gg := growB E o.op) (o := o) hE hS1.iv hS1.H (t := t1) (a := a) (fun x => hS1.hop x) id).go R _ r hk1
    refine hres.1 next Q fun u w' ρ' g1 g2 g3 g4 g5 => ?_
    exact hn _ _ w' ρ' _ h1 (StR.put (s := ⟨t1, s.h⟩) hS1 g1 g2 g3 g4) g4 g5 g2
  have skip : ∀ t1 : List PV, StR pin base rv w ρ ⟨t1, s.h⟩ a → exOps P E all rest (putT t1 o.dst (.tup [])) s.h K = some r → next (a.put o.dst undef) w := by
    intro t1 hS1 hk1
    exact hn _ _ w ρ _ hk1 (StR.put (s := ⟨t1, s.h⟩) hS1 hS1.H (Vw.Le.refl _) ⟨#[], rfl, .nil⟩ (Kp.refl _ _ _)) (Kp.refl _ _ _) (fun _ => Grows.refl _) (Vw.Le.refl _)
  cases hg : o.guard with
  | none =>
    simp only [exOps, hg] at hk
    rw [if_pos (by simp [Region.wanted, hg])]
    exact go s.t hS hk
  | some g =>
    obtain ⟨j, want⟩ := g
    simp only [exOps, hg] at hk
    split at hk
    · cases hk
    · rename_i d hd
      split at hk
      · rename_i b hb
        have hS1 := hS.know hb
        have hy : yielded all a.tmps j = some b := by
          have hv := hS.tm d
          rw [hb] at hv
          have hv' : a.tmps.getD d undef = .bool b := hv
          unfold yielded
          rw [hd]
          simp only [Option.bind_some]
          cases he : a.tmps[d]? with
          | none => rw [Array.getD_eq_getD_getElem?, he] at hv'; exact absurd hv' (by simp [undef])
          | some v => rw [Array.getD_eq_getD_getElem?, he] at hv'; simp at hv'; subst hv'; rfl
        have hw : Region.wanted o (yielded all a.tmps) = (b == want) := by
          simp only [Region.wanted, hg, hy]
          cases b <;> cases want <;> rfl
        rw [hw]
        cases b with
        | true =>
          simp only [cond_true] at hk
          by_cases hc : (true == want) = true
          · rw [if_pos hc] at hk ⊢; exact go _ hS1 hk
          · rw [if_neg hc] at hk ⊢; exact skip _ hS1 hk
        | false =>
          simp only [cond_false] at hk
          by_cases hc : (false == want) = true
          · rw [if_pos hc] at hk ⊢; exact go _ hS1 hk
          · rw [if_neg hc] at hk ⊢; exact skip _ hS1 hk
      · rename_i hb
        have hv := hS.tm d
        rw [hb] at hv
        obtain ⟨vs, hv', hvs⟩ := hv
        have hy : yielded all a.tmps j = none := by
          unfold yielded
          rw [hd]
          simp only [Option.bind_some]
          cases he : a.tmps[d]? with
          | none => rfl
          | some v => rw [Array.getD_eq_getD_getElem?, he] at hv'; simp at hv'; subst hv'; rfl
        rw [if_neg (by simp [Region.wanted, hg, hy])]
        exact skip s.t hS hk
      · cases hk
/-- An operation that asks nothing of the memory. -/
theorem exOps_mv {R : Type} {all : Array Oper} {o : Oper} {rest : List Oper} {s : St} {K : List PV → Hp → Option R} {r : R} {w : World} {ρ : Rh} {a : Act} (hm : (isMove o || loadOp o.op) = true) (hk : exOps P E all (o :: rest) s.t s.h K = some r) (hS : StR pin base rv w ρ s a) :
    ∃ v, YieldsIf P all (fun w' => loadOp o.op = true → Grows w w') o v a ∧ ∃ t h ρ', exOps P E all rest t h K = some r ∧ StR pin base rv w ρ' ⟨t, h⟩ (a.put o.dst v) ∧ (vw w base ρ s.h).Le (vw w base ρ' h) := by
  have go : ∀ t1 : List PV, StR pin base rv w ρ ⟨t1, s.h⟩ a → (opK P E o t1 s.h fun p h' => exOps P E all rest (putT t1 o.dst p) h' K) = some r →
      ∃ v, (∀ w', (loadOp o.op = true → Grows w w') → (execOp a.eval o).run P w' = .ok (.value v) w') ∧ ∃ t h ρ', exOps P E all rest t h K = some r ∧ StR pin base rv w ρ' ⟨t, h⟩ (a.put o.dst v) ∧ (vw w base ρ s.h).Le (vw w base ρ' h) := by
    intro t1 hS1 hk1
    obtain ⟨p, h', h1, _, hres⟩ := (opK_sound (gg := false) (o := o) hE hS1.iv hS1.H (t := t1) (a := a) (fun x => hS1.hop x) (fun h => by cases h)).go R _ r hk1
    obtain ⟨v, hv⟩ := hres.2.2 hm
    refine ⟨v, hv, putT t1 o.dst p, h', ?_⟩
    have := hres.1 (fun a' w' => ∃ ρ', StR pin base rv w' ρ' ⟨putT t1 o.dst p, h'⟩ a' ∧ (vw w base ρ s.h).Le (vw w' base ρ' h')) (fun _ _ _ => False) fun u w' ρ' g1 g2 g3 g4 _ => ⟨ρ', StR.put (s := ⟨t1, s.h⟩) hS1 g1 g2 g3 g4, g2⟩
    simp only [Oper.wp, Oper.upon, hv w (fun _ => Grows.refl w)] at this
    obtain ⟨ρ', e2⟩ := this
    exact ⟨ρ', h1, e2⟩
  have skip : ∀ t1 : List PV, StR pin base rv w ρ ⟨t1, s.h⟩ a → exOps P E all rest (putT t1 o.dst (.tup [])) s.h K = some r →
      ∃ t h ρ', exOps P E all rest t h K = some r ∧ StR pin base rv w ρ' ⟨t, h⟩ (a.put o.dst undef) ∧ (vw w base ρ s.h).Le (vw w base ρ' h) := fun t1 hS1 hk1 =>
    ⟨_, _, _, hk1, StR.put (s := ⟨t1, s.h⟩) hS1 hS1.H (Vw.Le.refl _) ⟨#[], rfl, .nil⟩ (Kp.refl _ _ _), Vw.Le.refl _⟩
  have yes : Region.wanted o (yielded all a.tmps) = true → (∃ v, (∀ w', (loadOp o.op = true → Grows w w') → (execOp a.eval o).run P w' = .ok (.value v) w') ∧ ∃ t h ρ', exOps P E all rest t h K = some r ∧ StR pin base rv w ρ' ⟨t, h⟩ (a.put o.dst v) ∧ (vw w base ρ s.h).Le (vw w base ρ' h)) →
      ∃ v, YieldsIf P all (fun w' => loadOp o.op = true → Grows w w') o v a ∧ ∃ t h ρ', exOps P E all rest t h K = some r ∧ StR pin base rv w ρ' ⟨t, h⟩ (a.put o.dst v) ∧ (vw w base ρ s.h).Le (vw w base ρ' h) := fun hw ⟨v, h1, h2⟩ => ⟨v, .inl ⟨hw, h1⟩, h2⟩
  have no : Region.wanted o (yielded all a.tmps) = false → (∃ t h ρ', exOps P E all rest t h K = some r ∧ StR pin base rv w ρ' ⟨t, h⟩ (a.put o.dst undef) ∧ (vw w base ρ s.h).Le (vw w base ρ' h)) →
      ∃ v, YieldsIf P all (fun w' => loadOp o.op = true → Grows w w') o v a ∧ ∃ t h ρ', exOps P E all rest t h K = some r ∧ StR pin base rv w ρ' ⟨t, h⟩ (a.put o.dst v) ∧ (vw w base ρ s.h).Le (vw w base ρ' h) := fun hw h2 => ⟨undef, .inr ⟨hw, rfl⟩, h2⟩
  cases hg : o.guard with
  | none =>
    simp only [exOps, hg] at hk
    exact yes (by simp [Region.wanted, hg]) (go s.t hS hk)
  | some g =>
    obtain ⟨j, want⟩ := g
    simp only [exOps, hg] at hk
    split at hk
    · cases hk
    · rename_i d hd
      split at hk
      · rename_i b hb
        have hS1 := hS.know hb
        have hy : yielded all a.tmps j = some b := by
          have hv := hS.tm d
          rw [hb] at hv
          have hv' : a.tmps.getD d undef = .bool b := hv
          unfold yielded
          rw [hd]
          simp only [Option.bind_some]
          cases he : a.tmps[d]? with
          | none => rw [Array.getD_eq_getD_getElem?, he] at hv'; exact absurd hv' (by simp [undef])
          | some v => rw [Array.getD_eq_getD_getElem?, he] at hv'; simp at hv'; subst hv'; rfl
        have hw : Region.wanted o (yielded all a.tmps) = (b == want) := by
          simp only [Region.wanted, hg, hy]
          cases b <;> cases want <;> rfl
        cases b with
        | true =>
          simp only [cond_true] at hk
          by_cases hc : (true == want) = true
          · rw [if_pos hc] at hk; exact yes (hw.trans hc) (go _ hS1 hk)
          · rw [if_neg hc] at hk; exact no (hw.trans (by simpa using hc)) (skip _ hS1 hk)
        | false =>
          simp only [cond_false] at hk
          by_cases hc : (false == want) = true
          · rw [if_pos hc] at hk; exact yes (hw.trans hc) (go _ hS1 hk)
          · rw [if_neg hc] at hk; exact no (hw.trans (by simpa using hc)) (skip _ hS1 hk)
      · rename_i hb
        have hv := hS.tm d
        rw [hb] at hv
        obtain ⟨vs, hv', hvs⟩ := hv
        have hy : yielded all a.tmps j = none := by
          unfold yielded
          rw [hd]
          simp only [Option.bind_some]
          cases he : a.tmps[d]? with
          | none => rfl
          | some v => rw [Array.getD_eq_getD_getElem?, he] at hv'; simp at hv'; subst hv'; rfl
        exact no (by simp [Region.wanted, hg, hy]) (skip s.t hS hk)
      · cases hk
theorem exOps_list {R : Type} {all : Array Oper} {K : List PV → Hp → Option R} {r : R} {w0 : World} {v0 : Vw} {Q : Exit → Act → World → Prop} (hQ : ∀ a w, PostR pin base rv K r w0 v0 a w → Q .normal a w) :
    ∀ {l : List Oper} {t : List PV} {h : Hp} {w : World} {ρ : Rh} {a : Act}, exOps P E all l t h K = some r → StR pin base rv w ρ ⟨t, h⟩ a → Kp pin base w0 w → v0.Le (vw w base ρ h) → wpList P all Q l a w
  | [], t, h, w, ρ, a, hk, hS, hp, hv => hQ a w ⟨t, h, ρ, hk, hS, hp, hv⟩
  | o :: rest, t, h, w, ρ, a, hk, hS, hp, hv => wpList_step fun next hnext =>
      exOps_step hE (s := ⟨t, h⟩) hk hS next Q fun t' h' w' ρ' a' h1 h2 h3 _ h5 => hnext _ _ (exOps_list hQ h1 h2 (hp.trans h3) (hv.trans h5))
/-- Whatever order is picked, and what stood stands behind every operation. -/
def wpAnyG (P : Program) (ops : Array Oper) (Q : Exit → Act → World → Prop) (gb : Nat → Bool) : Nat → Array Bool → Act → World → Prop
  | 0, listed, a, w => Region.ready .any ops listed = [] ∧ Q .normal a w
  | fuel + 1, listed, a, w =>
    (Region.ready .any ops listed = [] → Q .normal a w) ∧
    ∀ i ∈ Region.ready .any ops listed, wpOp P ops Q i (fun a' w' => (gb i = true → Grows w w') ∧ wpAnyG P ops Q gb fuel (listed.setIfInBounds i true) a' w') a w
omit hE in
theorem wpAny_of_G {ops : Array Oper} {Q : Exit → Act → World → Prop} {gb : Nat → Bool} : ∀ (fuel : Nat) (listed : Array Bool) (a : Act) (w : World), wpAnyG P ops Q gb fuel listed a w → wpAny P .any ops Q fuel listed a w
  | 0, _, _, _, h => h
  | fuel + 1, _, _, _, h => ⟨h.1, fun i hi => wpOp_mono (fun a' w' h' => wpAny_of_G fuel _ a' w' h'.2) (h.2 i hi)⟩
omit hE in
theorem wpAnyG_done {ops : Array Oper} {Q : Exit → Act → World → Prop} {gb : Nat → Bool} {listed : Array Bool} {a : Act} {w : World} (hr : Region.ready .any ops listed = []) (h : Q .normal a w) : ∀ fuel, wpAnyG P ops Q gb fuel listed a w
  | 0 => ⟨hr, h⟩
  | _ + 1 => ⟨fun _ => h, by rw [hr]; simp⟩
omit hE in
theorem wpAnyG_first {ops : Array Oper} {Q : Exit → Act → World → Prop} {gb : Nat → Bool} {g : Bool} {w0 : World} {i : Nat} {oi : Oper} {v : Value} (hi : ops[i]? = some oi) (hsel : ∀ (j : Nat) (o : Oper) cs b, ops[j]? = some o → o.op ≠ .select cs b)
    (hQ : ∀ c a w, Q (.panic c) (a.put oi.dst v) w → Q (.panic c) a w) :
    ∀ (fuel : Nat) (listed : Array Bool) (a : Act) (w : World),
      (∀ j oj, ops[j]? = some oj → j ≠ i → listed.getD j true = false → (∀ e ∈ oj.after, Region.binds .any e = true → e.on ≠ i) → oi.apart ops oj = true ∧ (g = true → gb j = true)) →
      i ∈ Region.ready .any ops listed → YieldsIf P ops (fun w' => g = true → Grows w0 w') oi v a → (g = true → Grows w0 w) →
      wpAnyG P ops Q gb fuel (listed.setIfInBounds i true) (a.put oi.dst v) w → wpAnyG P ops Q gb (fuel + 1) listed a w := by
  intro fuel
  induction fuel with
  | zero =>
    intro listed a w _ hr hy hS H
    refine ⟨fun h => (by rw [h] at hr; cases hr), fun j hj => ?_⟩
    by_cases hji : j = i
    · subst hji; exact hy.wpOp hi hS ⟨fun _ => Grows.refl _, H⟩
    · have := ready_mono hj hji
      rw [H.1] at this
      cases this
  | succ fuel ih =>
    intro listed a w hfree hr hy hS H
    refine ⟨fun h => (by rw [h] at hr; cases hr), fun j hj => ?_⟩
    by_cases hji : j = i
    · subst hji; exact hy.wpOp hi hS ⟨fun _ => Grows.refl _, H⟩
    · have h1 := H.2 j (ready_mono hj hji)
      obtain ⟨hjun, oj, hoj, hall⟩ := mem_ready.1 hj
      have hnot : ∀ e ∈ oj.after, Region.binds .any e = true → e.on ≠ i := fun e he hb heq => by
        have h1 := hall e he hb
        have h0 := (mem_ready.1 hr).1
        rw [heq] at h1
        rcases Nat.lt_or_ge i listed.size with h' | h'
        · simp [h'] at h0 h1; rw [h0] at h1; cases h1
        · simp [Array.getElem?_eq_none h'] at h1
      have h2 := wpOp_putIf hoj (hfree j oj hoj hji hjun hnot).1 (fun cs b => hsel i oi cs b hi) (fun cs b => hsel j oj cs b hoj) hQ hy h1
      have hfree' : ∀ k ok, ops[k]? = some ok → k ≠ i → (listed.setIfInBounds j true).getD k true = false →
          (∀ e ∈ ok.after, Region.binds .any e = true → e.on ≠ i) → oi.apart ops ok = true ∧ (g = true → gb k = true) := fun k ok hk hki hun hno => by
        refine hfree k ok hk hki ?_ hno
        by_cases hjk : j = k
        · subst hjk; exact hjun
        · rw [getD_set_ne true hjk] at hun; exact hun
      refine wpOp_mono (fun a' w' h3 => ⟨h3.2.1, ih (listed.setIfInBounds j true) a' w' hfree' (ready_mono hr (Ne.symm hji)) h3.1 (fun hg => (hS hg).trans (h3.2.1 ((hfree j oj hoj hji hjun hnot).2 hg))) ?_⟩) h2
      rw [Array.setIfInBounds_comm _ _ hji]
      exact h3.2.2
theorem exOps_any {R : Type} {ops : Array Oper} {K : List PV → Hp → Option R} {r : R} {w0 : World} {v0 : Vw} {Q : Exit → Act → World → Prop} (hQ : ∀ a w, PostR pin base rv K r w0 v0 a w → Q .normal a w) (hP : ∀ c a w, ¬ Q (.panic c) a w) (hns : Region.noSelect ops = true) :
    ∀ (n : Nat) {listed : Array Bool} {l : List Oper} {t : List PV} {h : Hp} {w : World} {ρ : Rh} {a : Act}, drawnGo (gbOf E ops) ops n listed = some l → exOps P E ops l t h K = some r → StR pin base rv w ρ ⟨t, h⟩ a → Kp pin base w0 w → v0.Le (vw w base ρ h) → wpAnyG P ops Q (gbOf E ops) n listed a w
  | 0, listed, l, t, h, w, ρ, a, hd, hk, hS, hp, hv => by
    simp only [drawnGo] at hd
    split at hd
    · rename_i hr
      injection hd with hd
      subst hd
      exact wpAnyG_done hr (hQ a w ⟨t, h, ρ, hk, hS, hp, hv⟩) 0
    · cases hd
  | n + 1, listed, l, t, h, w, ρ, a, hd, hk, hS, hp, hv => by
    simp only [drawnGo] at hd
    split at hd
    · rename_i hr
      injection hd with hd
      subst hd
      exact wpAnyG_done hr (hQ a w ⟨t, h, ρ, hk, hS, hp, hv⟩) (n + 1)
    · rename_i i hr
      obtain ⟨o, ho, hd⟩ := Option.bind_eq_some_iff.1 hd
      obtain ⟨l', hl', rfl⟩ := Option.map_eq_some_iff.1 hd
      refine ⟨fun h0 => (by rw [hr] at h0; cases h0), fun j hj => ?_⟩
      rw [hr] at hj
      simp at hj
      subst hj
      unfold wpOp
      simp only [ho]
      have := exOps_step hE (s := ⟨t, h⟩) hk hS (fun a' w' => (gbOf E ops j = true → Grows w w') ∧ wpAnyG P ops Q (gbOf E ops) n (listed.setIfInBounds j true) a' w') Q fun t' h' w' ρ' a' h1 h2 h3 h4 h5 => ⟨fun hg => h4 (by
        simpa [gbOf, ho] using hg), exOps_any hQ hP hns n hl' h1 h2 (hp.trans h3) (hv.trans h5)⟩
      split
      · rename_i hw; rw [if_pos hw] at this; exact .inl this
      · rename_i hw; rw [if_neg hw] at this; exact this
    · rename_i is _ hr
      obtain ⟨i, hi, hd⟩ := Option.bind_eq_some_iff.1 hd
      obtain ⟨o, ho, hd⟩ := Option.bind_eq_some_iff.1 hd
      obtain ⟨l', hl', rfl⟩ := Option.map_eq_some_iff.1 hd
      have hmem := List.mem_of_find?_eq_some hi
      have hcond := List.find?_some hi
      simp only [ho, Option.map_some, Option.getD_some, Bool.and_eq_true] at hcond
      obtain ⟨hmv, hfree⟩ := hcond
      have hmv' : (isMove o || loadOp o.op) = true := by
        rw [Bool.or_eq_true] at hmv ⊢
        exact hmv.imp id fun h => (Bool.and_eq_true _ _ ▸ h).1
      obtain ⟨v, hy, t', h', ρ', e1, e2, e3⟩ := exOps_mv hE (s := ⟨t, h⟩) hmv' hk hS
      have hcalm : loadOp o.op = true → isMove o = true ∨ calmB (gbOf E ops) ops listed i = true := fun _ => by
        rw [Bool.or_eq_true] at hmv
        exact hmv.imp (fun h => h) fun h => (Bool.and_eq_true _ _ ▸ h).2
      have hex : ¬ (isMove o = true ∧ loadOp o.op = true) := by
        rintro ⟨h, hld⟩
        unfold isMove at h
        cases hop : o.op <;> rw [hop] at h hld <;> first | (cases hld; done) | (cases h; done)
      refine wpAnyG_first (g := loadOp o.op) (w0 := w) ho (Region.noSelect_spec hns) (fun c a w hq => absurd hq (hP c _ w)) n listed a w (fun j oj hj hne hun hno => ⟨Region.free_spec ho hfree j oj hj hne hun hno, fun hld => ?_⟩) hmem hy (fun _ => Grows.refl w) (exOps_any hQ hP hns n hl' e1 e2 hp (hv.trans e3))
      rcases hcalm hld with h | h
      · exact absurd ⟨h, hld⟩ hex
      · simp only [calmB, List.all_eq_true, List.mem_range] at h
        have h1 := h j (Array.getElem?_eq_some_iff.1 hj).1
        simp only [hj, Bool.or_eq_true, beq_iff_eq, hne, false_or, hun, Bool.false_eq_true] at h1
        rcases h1 with h1 | h1
        · exact h1
        · obtain ⟨e, he, hb⟩ := Array.any_eq_true'.1 h1
          simp only [Bool.and_eq_true, beq_iff_eq] at hb
          exact absurd hb.2 (hno e he hb.1)
end
end FN
namespace FN
open Go Go.RowKit
section
variable [Gl] {P : Program} {E : Env'}
/-- Is the operation wanted, by what is known. -/
def wantedA (all : Array Oper) (o : Oper) (t : List PV) : Option Bool := match o.guard with
  | none => some true
  | some (j, want) => match (all[j]?).bind (·.dst) with
    | none => none
    | some d => match t.getD d .junk with
      | .bool b => some (b == want)
      | .tup [] => some false
      | _ => none
theorem set_same {t : List PV} {d : Nat} {p : PV} (h : t.getD d .junk = p) (hp : p ≠ .junk) : t.set d p = t := by
  have hl : d < t.length := by
    rcases Nat.lt_or_ge d t.length with h' | h'
    · exact h'
    · rw [List.getD_eq_getElem?_getD, List.getElem?_eq_none h'] at h; exact absurd h.symm hp
  apply List.ext_getElem?
  intro i
  by_cases hi : d = i
  · subst hi
    rw [List.getElem?_set_self hl, ← h, List.getD_eq_getElem?_getD, List.getElem?_eq_getElem hl]; rfl
  · rw [List.getElem?_set_ne hi]
theorem exOps_abs {R : Type} {all : Array Oper} {o : Oper} {rest : List Oper} {t : List PV} {h : Hp} {K : List PV → Hp → Option R} {r : R} (hk : exOps P E all (o :: rest) t h K = some r) :
    (wantedA all o t = some true ∧ (opK P E o t h fun p h' => exOps P E all rest (putT t o.dst p) h' K) = some r) ∨ (wantedA all o t = some false ∧ exOps P E all rest (putT t o.dst (.tup [])) h K = some r) := by
  cases hg : o.guard with
  | none =>
    simp only [exOps, hg] at hk
    exact .inl ⟨by simp [wantedA, hg], hk⟩
  | some g =>
    obtain ⟨j, want⟩ := g
    simp only [exOps, hg] at hk
    split at hk
    · cases hk
    · rename_i d hd
      split at hk
      · rename_i b hb
        have hs : t.set d (.bool b) = t := set_same hb (by simp)
        have hw : wantedA all o t = some (b == want) := by simp only [wantedA, hg, hd]; rw [hb]
        rw [hw]
        cases b with
        | true =>
          simp only [cond_true, hs] at hk
          by_cases hc : (true == want) = true
          · rw [if_pos hc] at hk; exact .inl ⟨by rw [hc], hk⟩
          · rw [if_neg hc] at hk; exact .inr ⟨by simpa using hc, hk⟩
        | false =>
          simp only [cond_false, hs] at hk
          by_cases hc : (false == want) = true
          · rw [if_pos hc] at hk; exact .inl ⟨by rw [hc], hk⟩
          · rw [if_neg hc] at hk; exact .inr ⟨by simpa using hc, hk⟩
      · rename_i hb
        exact .inr ⟨by simp only [wantedA, hg, hd]; rw [hb], hk⟩
      · cases hk
/-- A quiet operation leaves the memory. -/
theorem opK_quiet {R : Type} {o : Oper} {t : List PV} {h : Hp} {K : PV → Hp → Option R} {r : R} (hq : quiet o.op = true) (hk : opK P E o t h K = some r) : ∃ p, K p h = some r ∧ ∀ (R' : Type) (K' : PV → Hp → Option R'), opK P E o t h K' = K' p h := by
  have main : ∀ (A : Type) (F : (R : Type) → (PV × Hp → Option R) → Option R), D F → (∀ R (K : PV → Hp → Option R), opK P E o t h K = F R (fun x => K x.1 x.2)) → (∀ a, F (PV × Hp) some = some a → a.2 = h) → ∃ p, K p h = some r ∧ ∀ (R' : Type) (K' : PV → Hp → Option R'), opK P E o t h K' = K' p h := by
    intro A F hD he hh
    obtain ⟨⟨p, h'⟩, h1, h2⟩ := hD R (fun x => K x.1 x.2) r (by rw [← he]; exact hk)
    have h3 := hh (p, h') (h2 (PV × Hp) some)
    simp only at h3
    subst h3
    exact ⟨p, h1, fun R' K' => by rw [he]; exact h2 R' _⟩
  refine main Unit (fun R K => opK P E o t h (uc K)) (opK_D P E o t h) (fun R K => rfl) fun a ha => ?_
  have lift : ∀ (F : (R : Type) → (PV → Option R) → Option R), D F → F (PV × Hp) (fun p => uc some p h) = some a → a.2 = h := by
    intro F hF hx
    obtain ⟨p, h1, _⟩ := hF (PV × Hp) _ a hx
    have : (p, h) = a := Option.some.inj h1
    rw [← this]
  unfold opK at ha
  split at ha
  all_goals first
    | (rename_i ho; rw [ho] at hq; cases hq; done)
    | exact lift _ (binK_D _ _ _ _ _ _) ha
    | exact lift _ (unK_D _ _) ha
    | exact lift _ (loadK_D P _ _ _) ha
    | skip
  all_goals repeat' (split at ha)
  all_goals first
    | (cases ha; done)
    | (have := Option.some.inj ha; rw [← this]; done)
    | exact lift _ (lenK_D P _ _ _) ha
    | (rename_i d _; cases d <;> (have := Option.some.inj ha; rw [← this]))
/-- The listed order, operation by operation. -/
structure QRun (P : Program) (E : Env') (all : Array Oper) (l : List Oper) (h : Hp) (T : Nat → List PV) (p : Nat → PV) (b : Nat → Bool) : Prop where
  step : ∀ (i : Nat) o, l[i]? = some o → wantedA all o (T i) = some (b i) ∧ (b i = true → ∀ (R' : Type) (K' : PV → Hp → Option R'), opK P E o (T i) h K' = K' (p i) h) ∧ (b i = false → p i = .tup []) ∧ T (i + 1) = putT (T i) o.dst (p i)
theorem qrun {R : Type} {all : Array Oper} {h : Hp} {K : List PV → Hp → Option R} {r : R} : ∀ {l : List Oper} {t : List PV}, (∀ o ∈ l, quiet o.op = true) → exOps P E all l t h K = some r →
    ∃ T p b, T 0 = t ∧ QRun P E all l h T p b ∧ K (T l.length) h = some r
  | [], t, _, hk => ⟨fun _ => t, fun _ => .junk, fun _ => false, rfl, ⟨fun i o hi => by simp at hi⟩, hk⟩
  | o :: rest, t, hq, hk => by
    have cons : ∀ (p0 : PV) (b0 : Bool), wantedA all o t = some b0 → (b0 = true → ∀ (R' : Type) (K' : PV → Hp → Option R'), opK P E o t h K' = K' p0 h) → (b0 = false → p0 = .tup []) → exOps P E all rest (putT t o.dst p0) h K = some r →
        ∃ T p b, T 0 = t ∧ QRun P E all (o :: rest) h T p b ∧ K (T (o :: rest).length) h = some r := by
      intro p0 b0 h1 h2 h3 h4
      obtain ⟨T, p, b, e1, e2, e3⟩ := qrun (fun o ho => hq o (by simp [ho])) h4
      refine ⟨fun i => match i with | 0 => t | i + 1 => T i, fun i => match i with | 0 => p0 | i + 1 => p i, fun i => match i with | 0 => b0 | i + 1 => b i, rfl, ⟨fun i o' hi => ?_⟩, e3⟩
      cases i with
      | zero =>
        simp at hi
        subst hi
        exact ⟨h1, h2, h3, e1⟩
      | succ i => exact e2.step i o' (by simpa using hi)
    rcases exOps_abs hk with ⟨h1, h2⟩ | ⟨h1, h2⟩
    · obtain ⟨p0, h3, h4⟩ := opK_quiet (hq o (by simp)) h2
      exact cons p0 true h1 (fun _ => h4) (fun h => by cases h) h3
    · exact cons (.tup []) false h1 (fun h => by cases h) (fun _ => rfl) h2
theorem getD_putT {t : List PV} {d : Option Tmp} {x : Tmp} {p : PV} (h : d ≠ some x) : (putT t d p).getD x .junk = t.getD x .junk := by
  cases d with
  | none => rfl
  | some d =>
    simp only [putT]
    rw [getD_set_list, if_neg (fun hh => h (by rw [hh.1]))]
theorem putT_len {t : List PV} {d : Option Tmp} {p : PV} : (putT t d p).length = t.length := by
  cases d <;> simp [putT]
/-- What quietB tells. -/
theorem quietB_spec {ops : Array Oper} (hq : quietB ops = true) {i : Nat} {o : Oper} (hi : ops[i]? = some o) :
    quiet o.op = true ∧ o.dst.isSome = true ∧ (∀ e ∈ o.after, Region.binds .any e = true → e.on < i) ∧
    ∀ (j : Nat) q x, ops[j]? = some q → q.dst = some x → (j ≠ i → o.dst ≠ some x) ∧ (x ∈ o.looksAt ops → j < i ∧ ∃ e ∈ o.after, Region.binds .any e = true ∧ e.on = j) := by
  have hil : i < ops.size := (Array.getElem?_eq_some_iff.1 hi).1
  unfold quietB at hq
  have h1 := List.all_eq_true.1 hq i (by simpa using hil)
  simp only [hi, Bool.and_eq_true] at h1
  obtain ⟨⟨⟨a1, a2⟩, a3⟩, a4⟩ := h1
  refine ⟨a1, a2, fun e he hb => ?_, fun j q x hj hx => ?_⟩
  · have := Array.all_eq_true_iff_forall_mem.1 a3 e he
    simp only [hb, Bool.not_true, Bool.false_or] at this
    exact of_decide_eq_true this
  · have hjl : j < ops.size := (Array.getElem?_eq_some_iff.1 hj).1
    have h2 := List.all_eq_true.1 a4 j (by simpa using hjl)
    simp only [hj, hx, Bool.and_eq_true] at h2
    obtain ⟨b1, b2⟩ := h2
    refine ⟨fun hne he => ?_, fun hl => ?_⟩
    · rw [he] at b1
      simp [hne] at b1
    · have hc : (o.looksAt ops).contains x = true := by simpa using hl
      rw [hc] at b2
      simp only [Bool.not_true, Bool.false_or, Bool.and_eq_true] at b2
      refine ⟨of_decide_eq_true b2.1, ?_⟩
      obtain ⟨e, he, hb⟩ := Array.any_eq_true'.1 b2.2
      simp only [Bool.and_eq_true, beq_iff_eq] at hb
      exact ⟨e, he, hb.1, hb.2⟩
end
end FN
namespace FN
open Go Go.RowKit
section
variable [Gl] {P : Program} {E : Env'}
theorem opK_congr {R : Type} {o : Oper} {t t' : List PV} {h : Hp} {K : PV → Hp → Option R} (hq : quiet o.op = true) (hx : ∀ x ∈ o.op.operands, ev t x = ev t' x) : opK P E o t h K = opK P E o t' h K := by
  have hq' := hq
  unfold quiet at hq'
  split at hq'
  all_goals try (cases hq'; done)
  all_goals rename_i ho
  all_goals rw [ho] at hx
  all_goals simp only [opK, ho]
  all_goals try (simp [Op.operands] at hx)
  all_goals try (simp only [hx]; done)
  · rename_i as ts
    split
    · rename_i x ty ha ht
      have : x ∈ as := by
        have : x ∈ as.toList := by rw [ha]; simp
        simpa using this
      rw [hx x (by simp [Call.operands, this])]
    · rfl
variable {pin : Pn} {base : Nat} {rv : Option Value} {w : World} {ρ : Rh} {h : Hp}
/-- Temporaries not yet set, those that are set. -/
structure QInv (P : Program) (pin : Pn) (base : Nat) (rv : Option Value) (w : World) (ρ : Rh) (h : Hp) (ops : Array Oper) (t tn : List PV) (listed : Array Bool) (a : Act) : Prop where
  H : HRel (mine pin base) w base ρ h
  no : ∀ x, (∀ (j : Nat) o, ops[j]? = some o → o.dst ≠ some x) → V (vw w base ρ h) (t.getD x .junk) (a.tmps.getD x undef)
  yes : ∀ (j : Nat) o x, ops[j]? = some o → o.dst = some x → listed.getD j false = true → V (vw w base ρ h) (tn.getD x .junk) (a.tmps.getD x undef)
  sz : t.length ≤ a.tmps.size
  df : a.defers = []
  k0 : ∀ v, rv = some v → ρ 0 = v ∧ 0 < h.length
  ls : listed.size = ops.size
  iv : ∀ w', Kp pin base w w' → Gl.I w'
variable (hE : EnvOk P E) {ops : Array Oper} (hq : quietB ops = true) {T : Nat → List PV} {p : Nat → PV} {b : Nat → Bool} (hT : QRun P E ops ops.toList h T p b)
include hq hT
theorem T_len : ∀ i, i ≤ ops.size → (T i).length = (T 0).length
  | 0, _ => rfl
  | i + 1, hi => by
    obtain ⟨_, _, _, h4⟩ := hT.step i ops[i] (by simp)
    rw [h4, putT_len]
    exact T_len i (by omega)
/-- A slot that the operations from i to k do not set. -/
theorem T_same {x : Tmp} (i : Nat) : ∀ k, i ≤ k → k ≤ ops.size → (∀ (j : Nat) o, i ≤ j → j < k → ops[j]? = some o → o.dst ≠ some x) → (T k).getD x .junk = (T i).getD x .junk := by
  intro k hik
  induction hik with
  | refl => intro _ _; rfl
  | @step k hik ih =>
    intro hk hno
    obtain ⟨_, _, _, h4⟩ := hT.step k ops[k] (by simp)
    rw [h4, getD_putT (hno k ops[k] hik (Nat.lt_succ_self k) (by simp))]
    exact ih (by omega) fun j o h1 h2 h3 => hno j o h1 (by omega) h3
theorem T_dst {j : Nat} {q : Oper} {x : Tmp} (hj : ops[j]? = some q) (hx : q.dst = some x) (i : Nat) (h1 : j < i) (h2 : i ≤ ops.size) : (T ops.size).getD x .junk = (T i).getD x .junk := by
  refine T_same hq hT i ops.size h2 (Nat.le_refl _) fun k o hk1 hk2 hko => ?_
  exact ((quietB_spec hq hko).2.2.2 j q x hj hx).1 (by omega)
include hE
theorem quiet_step {i : Nat} {o : Oper} {listed : Array Bool} {a : Act} (hS : QInv P pin base rv w ρ h ops (T 0) (T ops.size) listed a) (hi : ops[i]? = some o) (hr : i ∈ Region.ready .any ops listed) (next : Act → World → Prop) (Q : Exit → Act → World → Prop)
    (hn : ∀ a', QInv P pin base rv w ρ h ops (T 0) (T ops.size) (listed.setIfInBounds i true) a' → next a' w) :
    if Region.wanted o (yielded ops a.tmps) = true then o.wp P a w next Q else next (a.put o.dst undef) w := by
  obtain ⟨q1, q2, q3, q4⟩ := quietB_spec hq hi
  obtain ⟨s1, s2, s3, s4⟩ := hT.step i o (by simpa using hi)
  obtain ⟨hun, o', ho', hall⟩ := mem_ready.1 hr
  have : o' = o := by rw [hi] at ho'; injection ho' with ho'; exact ho'.symm
  subst this
  have hil : i < ops.size := (Array.getElem?_eq_some_iff.1 hi).1
  obtain ⟨d, hd⟩ := Option.isSome_iff_exists.1 q2
  -- what it looks at
  have look : ∀ x, x ∈ o'.looksAt ops → V (vw w base ρ h) ((T i).getD x .junk) (a.tmps.getD x undef) := by
    intro x hx
    by_cases hdst : ∃ (j : Nat) (q : Oper), ops[j]? = some q ∧ q.dst = some x
    · obtain ⟨j, q, hj, hqx⟩ := hdst
      obtain ⟨hji, e, he, hb, heq⟩ := (q4 j q x hj hqx).2 hx
      have hl : listed.getD j false = true := heq ▸ hall e he hb
      rw [← T_dst hq hT hj hqx i hji (Nat.le_of_lt hil)]
      exact hS.yes j q x hj hqx hl
    · have hno : ∀ (j : Nat) (o : Oper), ops[j]? = some o → o.dst ≠ some x := fun j o h1 h2 => hdst ⟨j, o, h1, h2⟩
      rw [T_same hq hT 0 i (Nat.zero_le _) (Nat.le_of_lt hil) fun j o _ _ h1 => hno j o h1]
      exact hS.no x hno
  -- afterwards
  have after : ∀ u, V (vw w base ρ h) (p i) u → QInv P pin base rv w ρ h ops (T 0) (T ops.size) (listed.setIfInBounds i true) (a.put o'.dst u) := by
    intro u hu
    refine ⟨hS.H, fun x hno => ?_, fun j q x hj hqx hl => ?_, ?_, ?_, hS.k0, by simpa using hS.ls, hS.iv⟩
    · have hne : x ≠ d := fun e => hno i o' hi (by rw [hd, e])
      rw [hd, getD_put, if_neg (fun hh => hne hh.1)]
      exact hS.no x hno
    · rw [hd, getD_put]
      by_cases hx : x = d
      · subst hx
        have hji : j = i := by
          rcases Nat.decEq j i with hne | he
          · exact absurd hd (((q4 j q x hj hqx).1 hne))
          · exact he
        subst hji
        rw [T_dst hq hT hi hd (j + 1) (Nat.lt_succ_self j) hil, s4, hd]
        simp only [putT]
        rw [getD_set_list]
        have hlen := T_len hq hT j (Nat.le_of_lt hil)
        by_cases hlt : x < (T j).length
        · rw [if_pos ⟨rfl, hlt⟩, if_pos ⟨trivial, Nat.lt_of_lt_of_le hlt (hlen ▸ hS.sz)⟩]
          exact hu
        · rw [if_neg (fun hh => hlt hh.2)]
          have : (T j).getD x .junk = .junk := by
            rw [List.getD_eq_getElem?_getD, List.getElem?_eq_none (Nat.le_of_not_lt hlt)]; rfl
          rw [this]; trivial
      · rw [if_neg (fun hh => hx hh.1)]
        have hji : i ≠ j := by
          rintro rfl
          rw [hi] at hj
          injection hj with hj
          subst hj
          rw [hd] at hqx
          injection hqx with hqx
          exact hx hqx.symm
        rw [getD_set_ne false hji] at hl
        exact hS.yes j q x hj hqx hl
    · rw [hd]; simpa [Act.put] using hS.sz
    · rw [hd]; exact hS.df
  -- is it wanted
  have hw : Region.wanted o' (yielded ops a.tmps) = b i := by
    unfold wantedA at s1
    split at s1
    · rename_i hg
      injection s1 with s1
      rw [← s1]; simp [Region.wanted, hg]
    · rename_i j want hg
      split at s1
      · cases s1
      · rename_i x hx
        split at s1
        · rename_i bb hbb
          injection s1 with s1
          have hlk := look x (by simp [Oper.looksAt, hg, hx])
          rw [hbb] at hlk
          have hlk' : a.tmps.getD x undef = .bool bb := hlk
          have hy : yielded ops a.tmps j = some bb := by
            unfold yielded
            rw [hx]
            simp only [Option.bind_some]
            cases he : a.tmps[x]? with
            | none => rw [Array.getD_eq_getD_getElem?, he] at hlk'; exact absurd hlk' (by simp [undef])
            | some v => rw [Array.getD_eq_getD_getElem?, he] at hlk'; simp at hlk'; subst hlk'; rfl
          rw [← s1]
          simp only [Region.wanted, hg, hy]
          cases bb <;> cases want <;> rfl
        · rename_i hbb
          injection s1 with s1
          have hlk := look x (by simp [Oper.looksAt, hg, hx])
          rw [hbb] at hlk
          obtain ⟨vs, hlk', _⟩ := hlk
          have hy : yielded ops a.tmps j = none := by
            unfold yielded
            rw [hx]
            simp only [Option.bind_some]
            cases he : a.tmps[x]? with
            | none => rfl
            | some v => rw [Array.getD_eq_getD_getElem?, he] at hlk'; simp at hlk'; subst hlk'; rfl
          rw [← s1]
          simp [Region.wanted, hg, hy]
        · cases s1
  rw [hw]
  cases hbi : b i with
  | false =>
    simp only [Bool.false_eq_true, if_false]
    exact hn _ (after undef (by rw [s3 hbi]; exact ⟨#[], rfl, .nil⟩))
  | true =>
    simp only [if_true]
    -- the slots that it looks at, alone
    let tm : List PV := (T i).mapIdx fun x q => if (o'.looksAt ops).contains x then q else .junk
    have htm : ∀ x, tm.getD x .junk = if (o'.looksAt ops).contains x then (T i).getD x .junk else .junk := by
      intro x
      simp only [tm, List.getD_eq_getElem?_getD, List.getElem?_mapIdx]
      cases (T i)[x]? <;> simp
    have hop : ∀ x, V (vw w base ρ h) (ev tm x) (a.eval x) := by
      intro x
      cases x with
      | tmp x =>
        show V _ (tm.getD x .junk) (a.tmps.getD x undef)
        rw [htm]
        split
        · rename_i hc; exact look x (by simpa using hc)
        · trivial
      | const v => exact V_of_V1 (ofVal_V1 _ v)
      | global g => trivial
      | func f => exact ⟨#[], rfl, .nil⟩
    have hcg : opK P E o' tm h (fun p h => some (p, h)) = some (p i, h) := by
      rw [opK_congr (t' := T i) q1 (fun x hx => ?_)]
      · exact s2 hbi (PV × Hp) fun p h => some (p, h)
      · cases x with
        | tmp x =>
          show tm.getD x .junk = (T i).getD x .junk
          rw [htm, if_pos]
          have : x ∈ o'.looksAt ops := by
            simp only [Oper.looksAt, List.mem_append, List.mem_filterMap]
            exact .inl ⟨.tmp x, by simpa using hx, rfl⟩
          simpa using this
        | const v => rfl
        | global g => rfl
        | func f => rfl
    obtain ⟨p', h', g1, _, g3⟩ := (opK_sound (gg := false) (o := o') hE hS.iv hS.H (t := tm) (a := a) hop (fun h => by cases h)).go (PV × Hp) _ _ hcg
    injection g1 with g1
    injection g1 with g1 g2
    subst g1; subst g2
    obtain ⟨_, u, hrun, hu⟩ := g3.2.1 q1
    simp only [Oper.wp, Oper.upon, hrun]
    exact hn _ (after u hu)
theorem quiet_done {listed : Array Bool} {a : Act} (hS : QInv P pin base rv w ρ h ops (T 0) (T ops.size) listed a) (hr : Region.ready .any ops listed = []) : StR pin base rv w ρ ⟨T ops.size, h⟩ a := by
  have all : ∀ i, i < ops.size → listed.getD i false = true := by
    intro i
    induction i using Nat.strongRecOn with
    | _ i ih =>
      intro hi
      rcases Bool.eq_false_or_eq_true (listed.getD i false) with h1 | h1
      · exact h1
      · exfalso
        have hmem : i ∈ Region.ready .any ops listed := by
          refine mem_ready.2 ⟨?_, ops[i], by simp [hi], fun e he hb => ?_⟩
          · have hl : i < listed.size := by rw [hS.ls]; exact hi
            simp [hl] at h1 ⊢
            exact h1
          · have hlt := (quietB_spec hq (i := i) (o := ops[i]) (by simp [hi])).2.2.1 e he hb
            exact ih e.on hlt (by omega)
        rw [hr] at hmem
        cases hmem
  refine ⟨hS.H, fun x => ?_, ?_, hS.df, hS.k0, hS.iv⟩
  · by_cases hdst : ∃ (j : Nat) (q : Oper), ops[j]? = some q ∧ q.dst = some x
    · obtain ⟨j, q, hj, hqx⟩ := hdst
      exact hS.yes j q x hj hqx (all j (Array.getElem?_eq_some_iff.1 hj).1)
    · have hno : ∀ (j : Nat) (o : Oper), ops[j]? = some o → o.dst ≠ some x := fun j o h1 h2 => hdst ⟨j, o, h1, h2⟩
      show V _ ((T ops.size).getD x .junk) _
      rw [T_same hq hT 0 ops.size (Nat.zero_le _) (Nat.le_refl _) fun j o _ _ h1 => hno j o h1]
      exact hS.no x hno
  · show (T ops.size).length ≤ _
    rw [T_len hq hT ops.size (Nat.le_refl _)]
    exact hS.sz
omit hE hq hT in
theorem filter_less {α : Type} {p p' : α → Bool} : ∀ {l : List α}, (∀ x ∈ l, p' x = true → p x = true) → (∃ x ∈ l, p x = true ∧ p' x = false) → (l.filter p').length < (l.filter p).length
  | [], _, ⟨x, hx, _⟩ => by simp at hx
  | y :: l, h1, ⟨x, hx, h2, h3⟩ => by
    have hle : (l.filter p').length ≤ (l.filter p).length := by
      have : ∀ l : List α, (∀ x ∈ l, p' x = true → p x = true) → (l.filter p').length ≤ (l.filter p).length := by
        intro l
        induction l with
        | nil => intro _; simp
        | cons z l ih =>
          intro h
          have := ih fun x hx => h x (by simp [hx])
          have hz := h z (by simp)
          cases e' : p' z <;> cases e : p z <;> simp [e', e] at hz ⊢ <;> omega
      exact this l fun x hx => h1 x (by simp [hx])
    rcases List.mem_cons.1 hx with rfl | hx
    · simp [h2, h3]; omega
    · have := filter_less (p := p) (p' := p') (l := l) (fun x hx => h1 x (by simp [hx])) ⟨x, hx, h2, h3⟩
      have hz := h1 y (by simp)
      cases e' : p' y <;> cases e : p y <;> simp [e', e] at hz ⊢ <;> omega
theorem quiet_any {Q : Exit → Act → World → Prop} (hQ : ∀ a, StR pin base rv w ρ ⟨T ops.size, h⟩ a → Q .normal a w) : ∀ (n : Nat) {listed : Array Bool} {a : Act}, QInv P pin base rv w ρ h ops (T 0) (T ops.size) listed a →
    ((List.range ops.size).filter fun i => !listed.getD i true).length ≤ n → wpAny P .any ops Q n listed a w
  | 0, listed, a, hS, hn => by
    have hr : Region.ready .any ops listed = [] := by
      cases hc : Region.ready .any ops listed with
      | nil => rfl
      | cons i l =>
        exfalso
        have hi : i ∈ Region.ready .any ops listed := by rw [hc]; simp
        obtain ⟨h1, o, h2, _⟩ := mem_ready.1 hi
        have hm : i ∈ (List.range ops.size).filter fun i => !listed.getD i true := by
          rw [List.mem_filter]
          exact ⟨by simpa using (Array.getElem?_eq_some_iff.1 h2).1, by rw [h1]; rfl⟩
        have := List.length_pos_of_mem hm
        omega
    exact wpAny_done hr (hQ a (quiet_done hE hq hT hS hr)) 0
  | n + 1, listed, a, hS, hn => by
    refine ⟨fun hr => hQ a (quiet_done hE hq hT hS hr), fun i hi => ?_⟩
    obtain ⟨h1, o, h2, _⟩ := mem_ready.1 hi
    have hil : i < ops.size := (Array.getElem?_eq_some_iff.1 h2).1
    have hcount : ((List.range ops.size).filter fun j => !(listed.setIfInBounds i true).getD j true).length ≤ n := by
      have := filter_less (p := fun j => !listed.getD j true) (p' := fun j => !(listed.setIfInBounds i true).getD j true) (l := List.range ops.size) (fun x _ hx => by
        by_cases hxi : i = x
        · subst hxi; rw [h1]; rfl
        · rw [getD_set_ne true hxi] at hx; exact hx) ⟨i, by simpa using hil, by rw [h1]; rfl, by
          have hl : i < listed.size := by rw [hS.ls]; exact hil
          simp [hl]⟩
      omega
    unfold wpOp
    simp only [h2]
    have := quiet_step hE hq hT hS h2 hi (wpAny P .any ops Q n (listed.setIfInBounds i true)) Q fun a' hS' => quiet_any hQ n hS' hcount
    split
    · rename_i hw; rw [if_pos hw] at this; exact .inl this
    · rename_i hw; rw [if_neg hw] at this; exact this
end
end FN
namespace FN
open Go Go.RowKit
theorem addIds_app (h : Hp) : ∀ (is acc : List Nat), ∃ l, addIds h acc is = acc ++ l
  | [], acc => ⟨[], by simp [addIds]⟩
  | i :: is, acc => by
    simp only [addIds]
    split
    · exact addIds_app h is acc
    · split
      · exact addIds_app h is acc
      · obtain ⟨l, hl⟩ := addIds_app h is (acc ++ [i])
        exact ⟨i :: l, by rw [hl]; simp⟩
theorem addIds_nodup (h : Hp) : ∀ (is acc : List Nat), acc.Nodup → (addIds h acc is).Nodup
  | [], acc, hn => hn
  | i :: is, acc, hn => by
    simp only [addIds]
    split
    · exact addIds_nodup h is acc hn
    · rename_i hc
      split
      · exact addIds_nodup h is acc hn
      · refine addIds_nodup h is _ ?_
        rw [List.nodup_append]
        refine ⟨hn, by simp, fun x hx y hy e => ?_⟩
        simp at hy
        subst hy; subst e
        exact hc (by simpa using hx)
theorem foldl_inv {Q : List Nat → Prop} {f : List Nat → Nat → List Nat} (hf : ∀ a i, Q a → Q (f a i)) : ∀ (l : List Nat) (a : List Nat), Q a → Q (l.foldl f a)
  | [], a, h => h
  | i :: l, a, h => foldl_inv hf l _ (hf a i h)
theorem reach_inv {Q : List Nat → Prop} (h : Hp) (hf : ∀ a is, Q a → Q (addIds h a is)) : ∀ (n : Nat) (acc : List Nat), Q acc → Q (reach h n acc)
  | 0, acc, hq => hq
  | n + 1, acc, hq => by
    simp only [reach]
    refine reach_inv h hf n _ (foldl_inv (fun a i ha => ?_) _ _ hq)
    split
    · exact hf _ _ ha
    · exact ha
section
variable [Gl] {P : Program} {E : Env'} {pin : Pn} {base : Nat} {rv : Option Value} {w : World} {ρ : Rh} {h : Hp}
/-- The handles, counted anew. -/
def renρ (ρ : Rh) (m : List Nat) : Rh := ⟨fun j => match m[j]? with | some i => ρ i | none => undef, ρ.ok0⟩
theorem renρ_idx {m : List Nat} {i : Nat} (hc : m.contains i = true) : renρ ρ m (m.idxOf i) = ρ i ∧ m.idxOf i < m.length := by
  have hm : i ∈ m := by simpa using hc
  have hl := List.idxOf_lt_length_of_mem hm
  have hg : m[m.idxOf i]? = some i := by rw [List.getElem?_eq_getElem hl, List.getElem_idxOf]
  exact ⟨by simp [renρ, hg], hl⟩
variable {h2 : Hp} {m : List Nat} (hN : h2.length = m.length) (hlive : ∀ j, h2.get j ≠ none → ∃ i, m[j]? = some i ∧ h.get i ≠ none)
include hN hlive
theorem ren_ok {k : Nat} (hk : okOf ρ h k) : okOf (renρ ρ m) h2 k := by
  refine ⟨hk.1, fun j hj hb => ?_⟩
  obtain ⟨i, h1, h3⟩ := hlive j hj
  have : (renρ ρ m) j = ρ i := by simp [renρ, h1]
  rw [this] at hb
  exact hk.2 i h3 hb
theorem ren_tr (f : Bool) : Tr w w ((vw w base ρ h).okf f) ((vw w base (renρ ρ m) h2).okf f) :=
  ⟨Nat.le_refl _, fun _ hk _ => ⟨rfl, ren_ok hN hlive hk.1, hk.2⟩⟩
theorem ren1_V {p : PV} {u : Value} (hv : V1 (vw w base ρ h) p u) : V1 (vw w base (renρ ρ m) h2) (ren1 m p) u := by
  cases p
  case own i =>
    simp only [ren1]
    split
    · rename_i hc
      obtain ⟨e1, e2⟩ := renρ_idx (ρ := ρ) hc
      obtain ⟨_, a2, a3⟩ := hv
      exact ⟨by show _ < h2.length; omega, a2.trans e1.symm, a3⟩
    · trivial
  case ep i c x y =>
    simp only [ren1]
    split
    · rename_i hc
      obtain ⟨e1, e2⟩ := renρ_idx (ρ := ρ) hc
      obtain ⟨_, g, n, cp, a2, a3⟩ := hv
      exact ⟨by show _ < h2.length; omega, g, n, cp, e1.trans a2, a3⟩
    · trivial
  case ptr i x =>
    simp only [ren1]
    split
    · rename_i hc
      obtain ⟨e1, e2⟩ := renρ_idx (ρ := ρ) hc
      obtain ⟨_, g, a2, a3⟩ := hv
      exact ⟨by show _ < h2.length; omega, g, e1.trans a2, a3⟩
    · trivial
  case row f c xs => exact SlR.tr (ren_tr hN hlive f) (show SlR w ((vw w base ρ h).okf f) c xs u from hv)
  case rp f c xs i o =>
    obtain ⟨ad, a1, a2, a3⟩ := hv
    exact ⟨ad, a1, a2.tr (ren_tr hN hlive f), a3⟩
  case fn f caps => cases caps with
    | nil => exact hv
    | cons => trivial
  case agg => trivial
  case tup => trivial
  all_goals exact hv
theorem ren2_V {p : PV} {u : Value} (hv : V2 (vw w base ρ h) p u) : V2 (vw w base (renρ ρ m) h2) (ren2 m p) u := by
  cases p
  case agg ps =>
    obtain ⟨vs, e, hvs⟩ := hv
    exact ⟨vs, e, F2.map (hvs.imp fun _ _ hx => ren1_V hN hlive hx)⟩
  case fn f caps =>
    obtain ⟨vs, e, hvs⟩ := hv
    exact ⟨vs, e, F2.map (hvs.imp fun _ _ hx => ren1_V hN hlive hx)⟩
  all_goals (simp only [ren2]; exact V2_of_V1 (ren1_V hN hlive hv))
theorem ren_V {p : PV} {u : Value} (hv : V (vw w base ρ h) p u) : V (vw w base (renρ ρ m) h2) (ren m p) u := by
  cases p
  case tup ps =>
    obtain ⟨vs, e, hvs⟩ := hv
    exact ⟨vs, e, F2.map (hvs.imp fun _ _ hx => ren2_V hN hlive hx)⟩
  all_goals (simp only [ren]; exact V_of_V2 (ren2_V hN hlive hv))
theorem ren_V1 {p : PV} {u : Value} (hv : V1 (vw w base ρ h) p u) : V1 (vw w base (renρ ρ m) h2) (ren m p) u := by
  cases p
  case agg => exact hv.elim
  case tup => exact hv.elim
  case fn f caps => cases caps with
    | nil => exact hv
    | cons => exact hv.elim
  all_goals exact ren1_V hN hlive hv
end
end FN
namespace FN
open Go Go.RowKit
section
variable [Gl] {P : Program} {E : Env'} {pin : Pn} {base : Nat} {rv : Option Value}
theorem F2.map1 {α β γ : Type} {R : α → β → Prop} {R' : γ → β → Prop} {f : α → γ} {as : List α} {bs : List β} (h : F2 R as bs) (hf : ∀ a b, R a b → R' (f a) b) : F2 R' (as.map f) bs := F2.map (h.imp hf)
/-- Only what is live, counted anew. -/
theorem StR.canon {w : World} {ρ : Rh} {s : St} {a : Act} (hS : StR pin base rv w ρ s a) {keep live : List Nat} (hkeep : rv.isSome = true → keep = [0]) (hkb : keepB keep s.h = true) :
    ∃ ρ', StR pin base rv w ρ' (canon keep live s) a := by
  let t1 := s.t.mapIdx fun i p => if live.contains i then p else .junk
  let m := reach s.h 2 (addIds s.h [] (keep ++ t1.flatMap idsOf))
  let f : Blk → Blk := fun b => match b with | .box ty cs => .box ty (cs.map (ren m)) | b => b
  let h2 : Hp := m.map fun i => (s.h.get i).map f
  have hcan : FN.canon keep live s = ⟨t1.map (ren m), h2⟩ := rfl
  have hN : h2.length = m.length := by simp [h2]
  have hget : ∀ (j : Nat) b, h2.get j = some b → ∃ i b0, m[j]? = some i ∧ s.h.get i = some b0 ∧ b = f b0 := by
    intro j b hb
    unfold Hp.get at hb
    simp only [h2, List.getElem?_map] at hb
    cases hm : m[j]? with
    | none => rw [hm] at hb; simp at hb
    | some i =>
      rw [hm] at hb
      simp only [Option.map_some, Option.getD_some] at hb
      obtain ⟨b0, h1, h3⟩ := Option.map_eq_some_iff.1 hb
      exact ⟨i, b0, rfl, h1, h3.symm⟩
  have hlive : ∀ j, h2.get j ≠ none → ∃ i, m[j]? = some i ∧ s.h.get i ≠ none := by
    intro j hj
    cases hb : h2.get j with
    | none => exact absurd hb hj
    | some b =>
      obtain ⟨i, b0, h1, h3, _⟩ := hget j b hb
      exact ⟨i, h1, by rw [h3]; simp⟩
  have hnd : m.Nodup := reach_inv s.h (fun a is ha => addIds_nodup s.h is a ha) 2 _ (addIds_nodup s.h _ _ List.nodup_nil)
  have hρ : ∀ j i, m[j]? = some i → (renρ ρ m) j = ρ i := fun j i h => by simp [renρ, h]
  refine ⟨renρ ρ m, ?_⟩
  rw [hcan]
  refine ⟨⟨hS.H.bs, fun j b hb => ?_, fun i j hi hj g hgi hgj => ?_, hS.H.ok0, hS.H.up⟩, fun i => ?_, ?_, hS.df, fun v hv => ?_, hS.iv⟩
  · obtain ⟨i, b0, h1, h3, rfl⟩ := hget j b hb
    rw [hρ j i h1]
    have hB := hS.H.blk i b0 h3
    cases b0 with
    | box t cells =>
      obtain ⟨g, cur, hx, hm, hc, hf⟩ := hB
      exact ⟨g, cur, hx, hm, hc, F2.map1 hf fun _ _ h => ren_V1 hN hlive h⟩
    | arr e ff c xs =>
      obtain ⟨inner, ho, ha⟩ := hB
      refine ⟨inner, ho, fun j y hy => ?_⟩
      obtain ⟨cs, e1, e2⟩ := ha j y hy
      exact ⟨cs, e1.tr (ren_tr hN hlive ff), e2⟩
  · obtain ⟨i', a1, a2⟩ := hlive i hi
    obtain ⟨j', b1, b2⟩ := hlive j hj
    rw [hρ i i' a1] at hgi
    rw [hρ j j' b1] at hgj
    have := hS.H.inj i' j' a2 b2 g hgi hgj
    subst this
    exact (List.getElem?_inj (by exact (List.getElem?_eq_some_iff.1 a1).1) hnd).1 (a1.trans b1.symm)
  · have ht : (t1.map (ren m)).getD i .junk = ren m (t1.getD i .junk) := by
      simp only [List.getD_eq_getElem?_getD, List.getElem?_map]
      cases t1[i]? <;> rfl
    simp only
    rw [ht]
    have ht1 : t1.getD i .junk = if live.contains i then s.t.getD i .junk else .junk := by
      simp only [t1, List.getD_eq_getElem?_getD, List.getElem?_mapIdx]
      cases s.t[i]? <;> simp
    rw [ht1]
    split
    · exact ren_V hN hlive (hS.tm i)
    · trivial
  · simpa [t1] using hS.sz
  · have hk := hkeep (by rw [hv]; rfl)
    subst hk
    obtain ⟨h1, h3⟩ := hS.k0 v hv
    have h0 : ∃ b, s.h.get 0 = some b := by
      simp only [keepB, List.all_cons, List.all_nil, Bool.and_true] at hkb
      exact Option.isSome_iff_exists.1 hkb
    obtain ⟨b, hb⟩ := h0
    have hpre : ∃ l, m = 0 :: l := by
      refine reach_inv (Q := fun a => ∃ l, a = 0 :: l) s.h (fun a is ⟨l, hl⟩ => ?_) 2 _ ?_
      · obtain ⟨l', hl'⟩ := addIds_app s.h is a
        exact ⟨l ++ l', by rw [hl', hl]; rfl⟩
      · obtain ⟨l, hl⟩ := addIds_app s.h (t1.flatMap idsOf) [0]
        refine ⟨l, ?_⟩
        simp only [List.cons_append, List.nil_append, addIds, hb]
        simpa using hl
    obtain ⟨l, hl⟩ := hpre
    refine ⟨(hρ 0 0 (by rw [hl]; rfl)).trans h1, ?_⟩
    show 0 < h2.length
    rw [hN, hl]; simp
/-- After the code. -/
def PostC {R : Type} (pin : Pn) (base : Nat) (rv : Option Value) (K : AX → St → Option R) (r : R) (w0 : World) : Exit → Act → World → Prop
  | .normal, a, w => ∃ s ρ, K .norm s = some r ∧ StR pin base rv w ρ s a ∧ Kp pin base w0 w
  | .ret, a, w => ∃ s ρ, K .ret s = some r ∧ StR pin base rv w ρ s a ∧ Kp pin base w0 w
  | .exit id, a, w => ∃ s ρ, K (.ex id) s = some r ∧ StR pin base rv w ρ s a ∧ Kp pin base w0 w
  | _, _, _ => False
theorem cut_sound {R : Type} {c : Code} {s : St} {K : St → Option R} {r : R} (hk : cutK E c s K = some r) {w : World} {ρ : Rh} {a : Act} (hS : StR pin base rv w ρ s a) (hkeep : rv.isSome = true → E.keep = [0]) :
    ∃ s' ρ', K s' = some r ∧ StR pin base rv w ρ' s' a := by
  unfold cutK at hk
  split at hk
  · exact ⟨s, ρ, hk, hS⟩
  · split at hk
    · exact ⟨s, ρ, hk, hS⟩
    · split at hk
      · rename_i live _ hc
        obtain ⟨ρ', h1⟩ := hS.canon (live := live) hkeep hc
        exact ⟨_, ρ', hk, h1⟩
      · cases hk
theorem cutS_sound {R : Type} {c : Code} {f : St → (AX → St → Option R) → Option R} {s : St} {K : AX → St → Option R} {r : R} (hk : cutS E c f s K = some r) {w : World} {ρ : Rh} {a : Act} (hS : StR pin base rv w ρ s a) (hkeep : rv.isSome = true → E.keep = [0]) :
    ∃ s' ρ', f s' K = some r ∧ StR pin base rv w ρ' s' a := by
  unfold cutS at hk
  split at hk
  · exact ⟨s, ρ, hk, hS⟩
  · split at hk
    · exact ⟨s, ρ, hk, hS⟩
    · split at hk
      · exact ⟨s, ρ, hk, hS⟩
      · split at hk
        · rename_i live _ hc
          obtain ⟨ρ', h1⟩ := hS.canon (live := live) hkeep hc
          exact ⟨_, ρ', hk, h1⟩
        · cases hk
theorem least {p : Nat → Prop} (h : ∃ n, p n) : ∃ n, p n ∧ ∀ m, p m → n ≤ m := by
  obtain ⟨n, hn⟩ := h
  induction n using Nat.strongRecOn with
  | _ n ih =>
    by_cases hh : ∃ m, m < n ∧ p m
    · obtain ⟨m, h1, h2⟩ := hh
      exact ih m h1 h2
    · exact ⟨n, hn, fun m hm => Nat.le_of_not_lt fun hl => hh ⟨m, hl, hm⟩⟩
theorem StR.drew {w : World} {ρ : Rh} {s : St} {a : Act} (hS : StR pin base rv w ρ s a) : ∃ ρ', StR pin base rv { w with drawn := w.drawn + 1 } ρ' s a := by
  obtain ⟨g1, g2⟩ := hS.H.grow (H1 := s.h) (W' := { w with drawn := w.drawn + 1 }) (news := []) (vs := []) rfl (fun _ _ h => h) (Nat.le_refl _) (fun k _ _ => rfl) rfl (fun j v g hv => by simp at hv) (fun i j u v g hu => by simp at hu) (fun _ j b v hb => by simp at hb)
  have := StR.put (d := none) (p := .junk) (u := undef) hS (h' := s.h) (by simpa using g1) (by simpa using g2) trivial (Kp.drew w)
  exact ⟨_, this⟩
theorem StR.drew' {w : World} {ρ : Rh} {s : St} {a : Act} (hS : StR pin base rv w ρ s a) : ∃ ρ', StR pin base rv { w with drawn := w.drawn + 1 } ρ' s a ∧ (vw w base ρ s.h).Le (vw { w with drawn := w.drawn + 1 } base ρ' s.h) := by
  obtain ⟨g1, g2⟩ := hS.H.grow (H1 := s.h) (W' := { w with drawn := w.drawn + 1 }) (news := []) (vs := []) rfl (fun _ _ h => h) (Nat.le_refl _) (fun k _ _ => rfl) rfl (fun j v g hv => by simp at hv) (fun i j u v g hu => by simp at hu) (fun _ j b v hb => by simp at hb)
  have := StR.put (d := none) (p := .junk) (u := undef) hS (h' := s.h) (by simpa using g1) (by simpa using g2) trivial (Kp.drew w)
  exact ⟨_, this, by simpa using g2⟩
/-- One region. -/
theorem region_sound (hE : EnvOk P E) (hm : P.follows .mixedOrders = true) {R : Type} {id : Nat} {ops : Array Oper} {d : Bool} {K : List PV → Hp → Option R} {r : R} {w0 w : World} {ρ : Rh} {s : St} {a : Act} {Q : Exit → Act → World → Prop}
    (hQ : ∀ a' w', PostR pin base rv K r w0 (vw w base ρ s.h) a' w' → Q .normal a' w') (hP : ∀ c a w, ¬ Q (.panic c) a w) {l : List Oper} (hl : regOrd E ops d = some l) (hk : exOps P E ops l s.t s.h K = some r) (hS : StR pin base rv w ρ s a) (hp : Kp pin base w0 w) : (Code.region id ops d).wp P Q a w := by
  unfold regOrd at hl
  cases d with
  | false =>
    simp at hl
    subst hl
    exact wp_region_list (exOps_list hE hQ hk hS hp (Vw.Le.refl _))
  | true =>
    simp only [if_true] at hl
    split at hl
    · rename_i hq
      injection hl with hl
      subst hl
      obtain ⟨ρ', hS', hle⟩ := hS.drew'
      obtain ⟨T, p, b, e1, e2, e3⟩ := qrun (fun o ho => by
        obtain ⟨i, hi⟩ := List.getElem?_of_mem ho
        exact (quietB_spec hq (i := i) (o := o) (by simpa using hi)).1) hk
      refine wp_region_any hm (quiet_any hE hq e2 (rv := rv) (fun a hSa => hQ _ _ ⟨_, _, ρ', by simpa using e3, hSa, hp.trans (Kp.drew w), hle⟩) ops.size ⟨hS'.H, fun x _ => by rw [e1]; exact hS'.tm x, fun j o x _ _ hl => ?_, by rw [e1]; exact hS'.sz, hS'.df, hS'.k0, by simp, hS'.iv⟩ ?_)
      · exfalso
        rw [Array.getD_eq_getD_getElem?, Array.getElem?_replicate] at hl
        split at hl <;> simp at hl
      · exact Nat.le_trans (List.length_filter_le _ _) (by simp)
    split at hl
    · rename_i hns
      obtain ⟨ρ', hS', hle⟩ := hS.drew'
      exact wp_region_any hm (wpAny_of_G _ _ _ _ (exOps_any hE hQ hP hns _ hl hk hS' (hp.trans (Kp.drew w)) hle))
    · cases hl
variable (hE : EnvOk P E) (hkeep : rv.isSome = true → E.keep = [0]) (hm : P.follows .mixedOrders = true)
include hE hkeep hm
theorem exCode_sound {R : Type} : ∀ (c : Code) {s : St} {K : AX → St → Option R} {r : R} {w0 w : World} {ρ : Rh} {a : Act}, exCode P E c s K = some r → StR pin base rv w ρ s a → Kp pin base w0 w → c.wp P (PostC pin base rv K r w0) a w
  | .skip, s, K, r, w0, w, ρ, a, hk, hS, hp => by
    simp only [exCode] at hk
    exact wp_skip ⟨s, ρ, hk, hS, hp⟩
  | .region id ops d, s, K, r, w0, w, ρ, a, hk, hS, hp => by
    simp only [exCode] at hk
    split at hk
    · rename_i l hl
      exact region_sound hE hm (K := fun t h => K .norm ⟨t, h⟩) (fun a w ⟨t, h, ρ, h1, h2, h3, _⟩ => ⟨⟨t, h⟩, ρ, h1, h2, h3⟩) (fun c a w h => h) hl hk hS hp
    · cases hk
  | .seq x y, s, K, r, w0, w, ρ, a, hk, hS, hp => by
    simp only [exCode] at hk
    refine wp_seq (wp_mono (exCode_sound x hk hS hp) fun e a' w' hq => ?_)
    cases e with
    | normal =>
      obtain ⟨s', ρ', h1, h2, h3⟩ := hq
      obtain ⟨s'', ρ'', h4, h5⟩ := cutS_sound h1 h2 hkeep
      exact exCode_sound y h4 h5 h3
    | ret => exact hq
    | exit id => exact hq
    | panic c => exact hq.elim
    | goto l => exact hq.elim
    | outgrown => exact hq.elim
  | .cond c x y, s, K, r, w0, w, ρ, a, hk, hS, hp => by
    simp only [exCode] at hk
    split at hk
    · rename_i b hb
      have hc : a.eval c = .bool b := by
        have := hS.hop c
        rw [hb] at this
        exact this
      refine wp_cond hc ?_
      cases b with
      | true => exact exCode_sound x hk hS hp
      | false => exact exCode_sound y hk hS hp
    · cases hk
  | .block id b, s, K, r, w0, w, ρ, a, hk, hS, hp => by
    simp only [exCode] at hk
    refine wp_block (wp_mono (exCode_sound b hk hS hp) fun e a' w' hq => ?_)
    cases e with
    | normal => exact hq
    | ret => exact hq
    | exit i =>
      obtain ⟨s', ρ', h1, h2, h3⟩ := hq
      simp only at h1
      show if i = id then _ else _
      split
      · rename_i e
        rw [if_pos e] at h1
        exact ⟨s', ρ', h1, h2, h3⟩
      · rename_i e
        rw [if_neg e] at h1
        exact ⟨s', ρ', h1, h2, h3⟩
    | panic c => exact hq.elim
    | goto l => exact hq.elim
    | outgrown => exact hq.elim
  | .loop b, s, K, r, w0, w, ρ, a, hk, hS, hp => by
    simp only [exCode] at hk
    obtain ⟨s1, ρ1, hk1, hS1⟩ := cut_sound hk hS hkeep
    have hD : ∀ s, D fun R (K : AX × St → Option R) => exCode P E b s (uc K) := fun s => exCode_D P E b s
    obtain ⟨n0, hn0⟩ := (loopK_some (body := fun R => exCode P E b) hD).1 hk1
    let I : Act → World → Nat → Prop := fun a w n => ∃ s ρ, loopN E (exCode P E b) b n s K = some r ∧ StR pin base rv w ρ s a ∧ Kp pin base w0 w
    classical
    let μ : Act → World → Nat := fun a w => if h : ∃ n, I a w n then (least h).choose else 0
    have hμ : ∀ a w n, I a w n → I a w (μ a w) ∧ μ a w ≤ n := by
      intro a w n h
      have hex : ∃ n, I a w n := ⟨n, h⟩
      have hs := (least hex).choose_spec
      have he : μ a w = (least hex).choose := dif_pos hex
      rw [he]
      exact ⟨hs.1, hs.2 n h⟩
    refine wp_loop (fun a w => ∃ n, I a w n) μ ⟨n0, s1, ρ1, hn0, hS1, hp⟩ fun a w ⟨n, hn⟩ => ?_
    obtain ⟨⟨s2, ρ2, h1, h2, h3⟩, hle⟩ := hμ a w n hn
    cases hc : μ a w with
    | zero => rw [hc] at h1; simp [loopN] at h1
    | succ k =>
      rw [hc] at h1
      rw [loopN_succ (body := fun R => exCode P E b)] at h1
      refine wp_mono (exCode_sound b h1 h2 h3) fun e a' w' hq => ?_
      cases e with
      | normal =>
        obtain ⟨s', ρ', g1, g2, g3⟩ := hq
        obtain ⟨s'', ρ'', g4, g5⟩ := cut_sound (K := fun s'' => loopN E (exCode P E b) b k s'' K) g1 g2 hkeep
        have hI : I a' w' k := ⟨s'', ρ'', g4, g5, g3⟩
        exact ⟨⟨k, hI⟩, Nat.lt_succ_of_le (hμ a' w' k hI).2⟩
      | ret => exact hq
      | exit id => exact hq
      | panic c => exact hq.elim
      | goto l => exact hq.elim
      | outgrown => exact hq.elim
  | .exit id, s, K, r, w0, w, ρ, a, hk, hS, hp => by
    simp only [exCode] at hk
    exact wp_exit ⟨s, ρ, hk, hS, hp⟩
  | .ret, s, K, r, w0, w, ρ, a, hk, hS, hp => by
    simp only [exCode] at hk
    exact wp_ret ⟨s, ρ, hk, hS, hp⟩
  | .label _, s, K, r, w0, w, ρ, a, hk, hS, hp => by simp [exCode] at hk
  | .goto _, s, K, r, w0, w, ρ, a, hk, hS, hp => by simp [exCode] at hk
  | .rangeFunc .., s, K, r, w0, w, ρ, a, hk, hS, hp => by simp [exCode] at hk
  | .scope .., s, K, r, w0, w, ρ, a, hk, hS, hp => by simp [exCode] at hk
  | .refuse .., s, K, r, w0, w, ρ, a, hk, hS, hp => by simp [exCode] at hk
end
end FN
namespace FN
open Go Go.RowKit
section
variable [Gl] {P : Program} {E : Env'} {pin : Pn} {base : Nat} {rv : Option Value} {w : World} {ρ : Rh} {h : Hp} {v : Vw}
theorem flat_V' : ∀ {ps : List (Option Nat)} {args fl : List PV} {us : List Value}, flat ps args = some fl → F2 (V v) args us → ∃ fls, flatV ps us = some fls ∧ F2 (V v) fl fls
  | [], [], fl, us, h, hf => by
    simp only [flat] at h
    injection h with h
    subst h
    cases hf
    exact ⟨[], rfl, .nil⟩
  | none :: as, p :: ps, fl, us, h, hf => by
    simp only [flat] at h
    obtain ⟨fl', h1, rfl⟩ := Option.map_eq_some_iff.1 h
    cases hf with
    | cons hp hps =>
      obtain ⟨fls, e1, e2⟩ := flat_V' h1 hps
      exact ⟨_ :: fls, by simp [flatV, e1], .cons hp e2⟩
  | some n :: as, p :: ps, fl, us, h, hf => by
    cases p
    case agg cs =>
      simp only [flat] at h
      split at h
      · rename_i hn
        obtain ⟨fl', h1, rfl⟩ := Option.map_eq_some_iff.1 h
        cases hf with
        | cons hp hps =>
          obtain ⟨fls, e1, e2⟩ := flat_V' h1 hps
          obtain ⟨vs, rfl, hv⟩ := hp
          refine ⟨vs.toList ++ fls, ?_, (hv.imp fun _ _ => V_of_V1).app e2⟩
          have : vs.size = n := by have := hv.len; simp at this; omega
          simp [flatV, e1, this]
      · cases h
    all_goals simp [flat] at h
  | [], _ :: _, fl, us, h, hf => by simp [flat] at h
  | none :: _, [], fl, us, h, hf => by simp [flat] at h
  | some _ :: _, [], fl, us, h, hf => by simp [flat] at h
/-- Rows among results: whose they are. -/
def RowOf (ρ : Rh) (h : Hp) (ids : List Nat) (u : Value) : Prop := blkOf u = none ∨ ∃ id, id ∈ ids ∧ h.get id ≠ none ∧ u = ρ id
theorem resC_V (hH : HRel (mine pin base) w base ρ h) {okr okv : Nat → Prop} (hok : ∀ k, okOf ρ h k → okv k) (hok' : ∀ k, okOf ρ h k → base ≤ k → okr k) {r : RS} {x : r.T} {p : PV} {u : Value} (hr : resC h r p = some x) (hv : V (vw w base ρ h) p u) :
    OutC w base okr okv r x u ∧ (∀ e c, r = .row e c → RowOf ρ h (ownsOf p) u) := by
  unfold resC at hr
  split at hr
  · split at hr
    · rename_i e; subst e; injection hr with hr; subst hr; exact ⟨hv, fun e c h => by cases h⟩
    · cases hr
  · injection hr with hr; subst hr; exact ⟨hv, fun e c h => by cases h⟩
  · injection hr with hr; subst hr; exact ⟨hv, fun e c h => by cases h⟩
  · injection hr with hr
    subst hr
    have hv' : u = .slice none 0 0 := hv
    subst hv'
    exact ⟨⟨[], World.ownsRow_nil w base _ _, fun j y hj => by simp at hj⟩, fun e c _ => .inl rfl⟩
  · rename_i e c id
    split at hr
    · rename_i e' f c' xs hg
      split at hr
      · rename_i hc
        obtain ⟨rfl, rfl⟩ := hc
        obtain ⟨rfl, rfl⟩ := castRow_some hr
        obtain ⟨inner, ho, ha⟩ := hH.blk id _ hg
        have hu : u = ρ id := hv.2.1
        subst hu
        refine ⟨⟨inner, ho, fun j y hj => ?_⟩, fun _ _ _ => .inr ⟨id, by simp [ownsOf], by rw [hg]; simp, rfl⟩⟩
        obtain ⟨cs, e1, e2⟩ := ha j y hj
        exact ⟨cs, e1.tr ⟨Nat.le_refl _, fun k hk _ => ⟨rfl, hok' k hk.1 (hk.2 rfl), hk.2⟩⟩, e2⟩
      · cases hr
    · cases hr
  · refine ⟨?_, fun e c h => by cases h⟩
    exact (castRow_V hr (show SlR w _ _ _ u from hv)).tr ⟨Nat.le_refl _, fun k hk _ => ⟨rfl, hok k hk.1⟩⟩
  · injection hr with hr
    subst hr
    have hv' : u = .slice none 0 0 := hv
    exact ⟨⟨none, 0, hv', Nat.le_refl _, Nat.zero_le _, fun hx => absurd rfl hx⟩, fun e c h => by cases h⟩
  · injection hr with hr
    subst hr
    obtain ⟨A, hv'⟩ := (show ∃ A, u = .slice A 0 0 from hv)
    exact ⟨⟨A, 0, hv', Nat.le_refl _, Nat.zero_le _, fun hx => absurd rfl hx⟩, fun e c h => by cases h⟩
  · cases hr
theorem apartB_spec : ∀ {l : List Nat}, apartB l = true → l.Nodup
  | [], _ => List.nodup_nil
  | i :: is, h => by
    simp only [apartB, Bool.and_eq_true] at h
    exact List.nodup_cons.2 ⟨by simpa using h.1, apartB_spec h.2⟩
theorem rowsV_cons {r : RS} {rs : List RS} {u : Value} {us : List Value} : (rowsV (r :: rs) (u :: us) = rowsV rs us ∧ ∀ e c, r ≠ .row e c) ∨ (rowsV (r :: rs) (u :: us) = u :: rowsV rs us ∧ ∃ e c, r = .row e c) := by
  cases r
  case row e c => exact .inr ⟨rfl, e, c, rfl⟩
  all_goals exact .inl ⟨rfl, fun e c h => by cases h⟩
theorem resCs_V (hH : HRel (mine pin base) w base ρ h) {okr okv : Nat → Prop} (hok : ∀ k, okOf ρ h k → okv k) (hok' : ∀ k, okOf ρ h k → base ≤ k → okr k) : ∀ {rs : List RS} {x : Ts rs} {ps : List PV} {us : List Value}, resCs h rs ps = some x → F2 (V (vw w base ρ h)) ps us →
    OutsR w base okr okv rs x us
  | [], x, [], us, hr, hf => by cases hf; exact rfl
  | [a], x, [p], us, hr, hf => by
    cases hf with
    | cons hp hps => cases hps; exact ⟨_, rfl, (resC_V hH hok hok' hr hp).1⟩
  | a :: b :: as, x, p :: q :: ps, us, hr, hf => by
    simp only [resCs] at hr
    obtain ⟨x1, h1, hr⟩ := Option.bind_eq_some_iff.1 hr
    obtain ⟨x2, h2, hr⟩ := Option.bind_eq_some_iff.1 hr
    injection hr with hr
    subst hr
    cases hf with
    | cons hp hps => exact ⟨_, _, rfl, (resC_V hH hok hok' h1 hp).1, resCs_V hH hok hok' h2 hps⟩
  | [], x, _ :: _, us, hr, hf => by simp [resCs] at hr
  | [a], x, [], us, hr, hf => by simp [resCs] at hr
  | [a], x, _ :: _ :: _, us, hr, hf => by simp [resCs] at hr
  | _ :: _ :: _, x, [], us, hr, hf => by simp [resCs] at hr
  | _ :: _ :: _, x, [_], us, hr, hf => by simp [resCs] at hr
theorem resCs_rows (hH : HRel (mine pin base) w base ρ h) : ∀ {rs : List RS} {x : Ts rs} {ps : List PV} {us : List Value}, resCs h rs ps = some x → F2 (V (vw w base ρ h)) ps us →
    (∀ u ∈ rowsV rs us, RowOf ρ h (ps.flatMap ownsOf) u) ∧ ((ps.flatMap ownsOf).Nodup → ∀ (i j : Nat) u u' g, (rowsV rs us)[i]? = some u → (rowsV rs us)[j]? = some u' → blkOf u = some g → blkOf u' = some g → i = j) := by
  have step : ∀ (r : RS) (rs : List RS) (x : r.T) (p : PV) (ps : List PV) (u : Value) (us : List Value), resC h r p = some x → V (vw w base ρ h) p u →
      ((∀ u ∈ rowsV rs us, RowOf ρ h (ps.flatMap ownsOf) u) ∧ ((ps.flatMap ownsOf).Nodup → ∀ (i j : Nat) u u' g, (rowsV rs us)[i]? = some u → (rowsV rs us)[j]? = some u' → blkOf u = some g → blkOf u' = some g → i = j)) →
      (∀ u' ∈ rowsV (r :: rs) (u :: us), RowOf ρ h ((p :: ps).flatMap ownsOf) u') ∧ (((p :: ps).flatMap ownsOf).Nodup → ∀ (i j : Nat) u1 u' g, (rowsV (r :: rs) (u :: us))[i]? = some u1 → (rowsV (r :: rs) (u :: us))[j]? = some u' → blkOf u1 = some g → blkOf u' = some g → i = j) := by
    intro r rs x p ps u us hr hv ⟨A, B⟩
    have up : ∀ u', RowOf ρ h (ps.flatMap ownsOf) u' → RowOf ρ h ((p :: ps).flatMap ownsOf) u' := by
      rintro u' (h1 | ⟨id, h1, h2⟩)
      · exact .inl h1
      · exact .inr ⟨id, by simp only [List.flatMap_cons, List.mem_append]; exact .inr h1, h2⟩
    have hR := (resC_V hH (okr := fun _ => True) (okv := fun _ => True) (fun _ _ => trivial) (fun _ _ _ => trivial) hr hv).2
    rcases rowsV_cons (r := r) (rs := rs) (u := u) (us := us) with ⟨e1, _⟩ | ⟨e1, e, c, hrow⟩
    · rw [e1]
      refine ⟨fun u' hu' => up u' (A u' hu'), fun hn => B ?_⟩
      simp only [List.flatMap_cons] at hn
      exact (List.nodup_append.1 hn).2.1
    · rw [e1]
      have hu := hR e c hrow
      refine ⟨fun u' hu' => ?_, fun hn i j u1 u' g hi hj hg hg' => ?_⟩
      · rcases List.mem_cons.1 hu' with rfl | hu'
        · rcases hu with h1 | ⟨id, h1, h2⟩
          · exact .inl h1
          · exact .inr ⟨id, by simp only [List.flatMap_cons, List.mem_append]; exact .inl h1, h2⟩
        · exact up u' (A u' hu')
      · simp only [List.flatMap_cons] at hn
        have hn' := List.nodup_append.1 hn
        have cross : ∀ (j : Nat) u', (rowsV rs us)[j]? = some u' → blkOf u = some g → blkOf u' = some g → False := by
          intro j2 u2 hj2 h1 h2
          rcases hu with h3 | ⟨id, a1, a2, rfl⟩
          · rw [h3] at h1; cases h1
          · rcases A u2 (List.mem_of_getElem? hj2) with h3 | ⟨id', b1, b2, rfl⟩
            · rw [h3] at h2; cases h2
            · have := hH.inj id id' a2 b2 g h1 h2
              subst this
              exact hn'.2.2 id a1 id b1 rfl
        cases i with
        | zero =>
          simp at hi
          subst hi
          cases j with
          | zero => rfl
          | succ j => simp at hj; exact (cross j u' hj hg hg').elim
        | succ i =>
          simp at hi
          cases j with
          | zero => simp at hj; subst hj; exact (cross i u1 hi hg' hg).elim
          | succ j => simp at hj; rw [B hn'.2.1 i j u1 u' g hi hj hg hg']
  intro rs
  induction rs with
  | nil =>
    intro x ps us hr hf
    have : ∀ us, rowsV [] us = [] := fun us => by cases us <;> rfl
    rw [this]
    exact ⟨fun u hu => by simp at hu, fun _ i j u u' g hi => by simp at hi⟩
  | cons a as ih =>
    intro x ps us hr hf
    cases as with
    | nil =>
      cases ps with
      | nil => simp [resCs] at hr
      | cons p ps =>
        cases ps with
        | cons => simp [resCs] at hr
        | nil =>
          cases hf with
          | cons hp hps =>
            cases hps
            exact step a [] x p [] _ [] hr hp ⟨fun u hu => by simp [rowsV] at hu, fun _ i j u u' g hi => by simp [rowsV] at hi⟩
    | cons b as =>
      cases ps with
      | nil => simp [resCs] at hr
      | cons p ps =>
        cases ps with
        | nil => simp [resCs] at hr
        | cons q ps =>
          simp only [resCs] at hr
          obtain ⟨x1, h1, hr⟩ := Option.bind_eq_some_iff.1 hr
          obtain ⟨x2, h2, hr⟩ := Option.bind_eq_some_iff.1 hr
          cases hf with
          | cons hp hps => exact step a (b :: as) x1 p (q :: ps) _ _ h1 hp (ih h2 hps)
end
end FN
namespace FN
open Go Go.RowKit
section
variable [Gl] {P : Program} {E : Env'} {pin : Pn} {base : Nat} {rv : Option Value} {w : World} {ρ : Rh} {h : Hp} {v : Vw}
def resV (a : Act) : ResultVar → Sem Value
  | .tmp t => pure (a.tmps.getD t undef)
  | .cell c t => do loadVar t (← asAddr (a.tmps.getD c undef))
theorem mapM_cons_run {f : ResultVar → Sem Value} {x : ResultVar} {l : List ResultVar} {z : Value} {zs : List Value} (h1 : (f x).run P w = .ok z w) (h2 : (l.mapM f).run P w = .ok zs w) : ((x :: l).mapM f).run P w = .ok (z :: zs) w := by
  simp only [List.mapM_cons, Sem.run_bind, h1, Result.andThen_ok, h2, Sem.run_pure]
theorem resPs_V {s : St} {a : Act} (hS : StR pin base rv w ρ s a) : ∀ {l : List ResultVar} {ps : List PV}, resPs P s l = some ps →
    ∃ vs, F2 (V (vw w base ρ s.h)) ps vs ∧ (l.mapM (resV a)).run P w = .ok vs w
  | [], ps, hr => by
    simp only [resPs] at hr
    injection hr with hr
    subst hr
    exact ⟨[], .nil, by simp⟩
  | .tmp t :: l, ps, hr => by
    simp only [resPs] at hr
    obtain ⟨ps', h1, rfl⟩ := Option.map_eq_some_iff.1 hr
    obtain ⟨vs, e1, e2⟩ := resPs_V hS h1
    exact ⟨_ :: vs, .cons (hS.tm t) e1, mapM_cons_run (by simp only [resV, Sem.run_pure]) e2⟩
  | .cell c t :: l, ps, hr => by
    simp only [resPs] at hr
    obtain ⟨p, h1, _, z, h3, h4⟩ := loadK_sound (K := fun p => (resPs P s l).map (p :: ·)) hS.H hr (hS.tm c)
    obtain ⟨ps', h5, rfl⟩ := Option.map_eq_some_iff.1 h1
    obtain ⟨vs, e1, e2⟩ := resPs_V hS h5
    refine ⟨z :: vs, .cons (V_of_V2 h3) e1, mapM_cons_run ?_ e2⟩
    simp only [resV]
    replace h4 := h4 w (Grows.refl w)
    generalize a.tmps.getD c undef = u at h4 ⊢
    cases u
    case pointer A =>
      cases A with
      | some ad => simpa [Instr.loadAt, Instr.sureAddr, asAddr] using h4
      | none => simp [Instr.loadAt, Instr.sureAddr, stuck] at h4
    all_goals simp [Instr.loadAt, Instr.sureAddr, stuck] at h4
theorem results_V {s : St} {a : Act} {fn : Func} {ps : List PV} (hS : StR pin base rv w ρ s a) (hr : resPs P s fn.results.toList = some ps) :
    ∃ vs, F2 (V (vw w base ρ s.h)) ps vs ∧ (results fn a.tmps).run P w = .ok (tupV vs) w := by
  obtain ⟨vs, e1, e2⟩ := resPs_V hS hr
  refine ⟨vs, e1, ?_⟩
  have e3 : (fn.results.mapM (resV a)).run P w = .ok vs.toArray w := by
    rw [Array.mapM_eq_mapM_toList, map_eq_pure_bind]
    simp only [Sem.run_bind, e2, Result.andThen_ok, Sem.run_pure]
  have e4 : results fn a.tmps = (do
      let vs ← fn.results.mapM (resV a)
      pure (if h : vs.size = 1 then vs[0] else .tuple vs)) := by
    unfold results
    congr 2
  rw [e4]
  simp only [Sem.run_bind, e3, Result.andThen_ok, Sem.run_pure]
  congr 1
  match vs with
  | [] => rfl
  | [v] => rfl
  | _ :: _ :: _ => simp [tupV]
end
end FN
namespace FN
open Go Go.RowKit
theorem inP_V {v v' : Vw} (hW : v'.W = v.W) (hok : ∀ k, v.ok k → v'.ok k) {r : RS} {x : r.T} {u : Value} (hv : V1 v (inP r x) u) : V1 v' (inP r x) u := by
  cases r
  case row e c => exact SlR.tr ⟨by rw [hW]; exact Nat.le_refl _, fun k hk _ => ⟨by rw [hW], hok k hk.1, fun e => by cases e⟩⟩ (show SlR v.W (v.okf false) c x u from hv)
  case view c => exact SlR.tr ⟨by rw [hW]; exact Nat.le_refl _, fun k hk _ => ⟨by rw [hW], hok k hk.1, fun e => by cases e⟩⟩ (show SlR v.W (v.okf false) c x u from hv)
  all_goals exact hv
theorem inPs_V {v v' : Vw} (hW : v'.W = v.W) (hok : ∀ k, v.ok k → v'.ok k) : ∀ {rs : List RS} {x : Ts rs} {us : List Value}, F2 (V1 v) (inPs rs x) us → F2 (V1 v') (inPs rs x) us
  | [], x, us, h => by cases h; exact .nil
  | [a], x, us, h => by
    cases h with
    | cons h1 h2 => cases h2; exact .cons (inP_V hW hok h1) .nil
  | a :: b :: as, x, us, h => by
    cases h with
    | cons h1 h2 => exact .cons (inP_V hW hok h1) (inPs_V hW hok h2)
section
variable [Gl] {P : Program} {pin : Pn} {base : Nat} {rv : Option Value} {w w' : World} {ρ : Rh}
/-- The first temporaries. -/
theorem tm_init {v : Vw} {ts : List PV} {args : Array Value} {n : Nat} (h : F2 (V v) ts args.toList) (i : Nat) :
    V v ((ts ++ List.replicate (n - ts.length) PV.junk).getD i .junk) ((args ++ Array.replicate (n - args.size) undef).getD i undef) := by
  have hl : ts.length = args.size := by simpa using h.len
  by_cases hi : i < ts.length
  · obtain ⟨u, hu, hv⟩ := h.get (List.getElem?_eq_getElem hi)
    have e1 : (ts ++ List.replicate (n - ts.length) PV.junk).getD i .junk = ts[i] := by
      rw [List.getD_eq_getElem?_getD, List.getElem?_append_left hi, List.getElem?_eq_getElem hi]; rfl
    have e2 : (args ++ Array.replicate (n - args.size) undef).getD i undef = u := by
      rw [Array.getD_eq_getD_getElem?, Array.getElem?_append_left (by omega)]
      have : args[i]? = some u := by simpa using hu
      rw [this]; rfl
    rw [e1, e2]; exact hv
  · have e1 : (ts ++ List.replicate (n - ts.length) PV.junk).getD i .junk = .junk := by
      rw [List.getD_eq_getElem?_getD, List.getElem?_append_right (by omega), List.getElem?_replicate]
      split <;> rfl
    rw [e1]; trivial
/-- What the end of the code tells. -/
theorem F2.V1_of {v : Vw} : ∀ {ps : List PV} {us : List Value}, ps.all oneP = true → F2 (V v) ps us → F2 (V1 v) ps us
  | _, _, _, .nil => .nil
  | _, _, h, .cons h1 h2 => by
    simp only [List.all_cons, Bool.and_eq_true] at h
    exact .cons (V1_of_V h1 h.1) (F2.V1_of h.2 h2)
theorem ret_sound {E : Env'} {fn : Func} {sig : Sig} {e : AX} {s : St} {r : Ts sig.rc} {a : Act} {okc : Nat → Prop} {bx : Option (Nat × List Int)}
    (hr : retK P E fn sig e s = some r) (hS : StR ⟨fun k => ∃ b, bx = some (k, b), fun k => okc k ∨ w.heap.size ≤ k⟩ w.heap.size rv w' ρ s a)
    (hbx0 : sig.rd = none → ∀ g b, bx ≠ some (g, b)) (hrd : sig.rd.isSome = true → ∃ g, bx = some (g, E.rdb) ∧ rv = some (.pointer (some ⟨g, 0, none⟩))) :
    ∃ v, (results fn a.tmps).run P w' = .ok v w' ∧ RetR sig w w' okc bx r v := by
  have hup : ∀ k, okOf ρ s.h k → okc k ∨ w.heap.size ≤ k := fun k hk => hS.H.up k hk.1
  have hr' : ((resPs P s fn.results.toList).bind fun ps => match sig.rd, sig.nw with
    | none, none => (flat sig.rs ps).bind fun cs => if sig.sh = true then (if cs.all oneP = true ∧ apartB ((frzs s.h cs).1.flatMap ownsOf) = true then resCs (frzs s.h cs).2 sig.rc (frzs s.h cs).1 else none) else if apartB (cs.flatMap ownsOf) then resCs s.h sig.rc cs else none
    | none, some t => match ps with
      | [.ptr id 0] => match s.h.get id with
        | some (.box t' [p, q]) => if t' = t ∧ apartB ([p, q].flatMap ownsOf) = true then resCs s.h sig.rc [p, q] else none
        | _ => none
      | _ => none
    | some t, none => match s.h.get 0 with
      | some (.box t' [p, q]) => match inC (.view .u8) p with
        | some b => if t' = t ∧ b = E.rdb then (flat sig.rs ps).bind fun cs => if apartB ((cs ++ [q]).flatMap ownsOf) then resCs s.h sig.rc (cs ++ [q]) else none else none
        | none => none
      | _ => none
    | _, _ => none) = some r := by
    cases e with
    | norm => exact hr
    | ret => exact hr
    | ex i => simp [retK] at hr
  obtain ⟨ps, hps, hr'⟩ := Option.bind_eq_some_iff.1 hr'
  obtain ⟨vs, hvs, hrun⟩ := results_V hS hps
  refine ⟨tupV vs, hrun, ?_⟩
  cases hd : sig.rd with
  | none =>
    cases hn : sig.nw with
    | none =>
      simp only [hd, hn] at hr'
      obtain ⟨cs, hcs, hr'⟩ := Option.bind_eq_some_iff.1 hr'
      split at hr'
      · split at hr'
        · rename_i hone
          obtain ⟨hone, hap⟩ := hone
          obtain ⟨us, e1, e2⟩ := flat_V' hcs hvs
          obtain ⟨ρ1, H1, L1, F1, _, _⟩ := frzs_sound hS.H (qs := (frzs s.h cs).1) (H' := (frzs s.h cs).2) rfl (F2.V1_of hone e2)
          have e3 : F2 (V (vw w' w.heap.size ρ1 (frzs s.h cs).2)) (frzs s.h cs).1 us := F1.imp fun _ _ => V_of_V1
          obtain ⟨hrow, hinj⟩ := resCs_rows H1 hr' e3
          have hrows : ∀ k, okOf ρ1 (frzs s.h cs).2 k → ∀ u ∈ rowsV sig.rc us, blkOf u ≠ some k := by
            intro k hk u hu hb
            rcases hrow u hu with h1 | ⟨id, _, h2, rfl⟩
            · rw [h1] at hb; cases hb
            · exact hk.2 id h2 hb
          refine ⟨us, fun _ => False, resCs_V H1 (fun k hk => ⟨H1.up k hk.1, hrows k hk, fun h => h⟩) (fun k hk _ => hrows k hk) hr' e3, hinj (apartB_spec hap), ?_⟩
          simp only [hd, hn]
          exact ⟨fun _ h => h, vs, e1, rfl⟩
        · cases hr'
      split at hr'
      · rename_i hap
        obtain ⟨us, e1, e2⟩ := flat_V' hcs hvs
        obtain ⟨hrow, hinj⟩ := resCs_rows hS.H hr' e2
        have hrows : ∀ k, okOf ρ s.h k → ∀ u ∈ rowsV sig.rc us, blkOf u ≠ some k := by
          intro k hk u hu hb
          rcases hrow u hu with h1 | ⟨id, _, h2, rfl⟩
          · rw [h1] at hb; cases hb
          · exact hk.2 id h2 hb
        refine ⟨us, fun _ => False, resCs_V hS.H (fun k hk => ⟨hup k hk, hrows k hk, fun h => h⟩) (fun k hk _ => hrows k hk) hr' e2, hinj (apartB_spec hap), ?_⟩
        simp only [hd, hn]
        exact ⟨fun _ h => h, vs, e1, rfl⟩
      · cases hr'
    | some t =>
      simp only [hd, hn] at hr'
      split at hr'
      · rename_i id
        split at hr'
        · rename_i t' p q hg
          split at hr'
          · rename_i ht
            obtain ⟨rfl, hap⟩ := ht
            cases hvs with
            | cons hv0 hv1 =>
              cases hv1
              obtain ⟨g, cur, hρ, hmine, hcell, hcs⟩ := hS.H.blk id _ hg
              rename_i u0
              have hu0 : u0 = .pointer (some ⟨g, 0, none⟩) := by
                obtain ⟨_, g', a1, a2⟩ := hv0
                have a1' : ρ id = .pointer (some ⟨g', 0, none⟩) := a1
                rw [hρ] at a1'
                injection a1' with a1'
                injection a1' with a1'
                injection a1' with a1'
                rw [a2, a1']
              have two : ∀ l : List Value, F2 (V1 (vw w' w.heap.size ρ s.h)) [p, q] l → ∃ u u', l = [u, u'] := by
                intro l hl
                cases hl with
                | cons h1 h2 => cases h2 with
                  | cons h3 h4 => cases h4; exact ⟨_, _, rfl⟩
              obtain ⟨u1, u2, ecur⟩ := two _ hcs
              have hcur : cur = #[u1, u2] := by rw [← Array.toArray_toList (xs := cur), ecur]
              subst hcur
              have e3 : F2 (V (vw w' w.heap.size ρ s.h)) [p, q] [u1, u2] := hcs.imp fun _ _ => V_of_V1
              obtain ⟨hrow, hinj⟩ := resCs_rows hS.H hr' e3
              have hrows : ∀ k, okOf ρ s.h k → ∀ u ∈ rowsV sig.rc [u1, u2], blkOf u ≠ some k := by
                intro k hk u hu hb
                rcases hrow u hu with h1 | ⟨id', _, h2, rfl⟩
                · rw [h1] at hb; cases hb
                · exact hk.2 id' h2 hb
              have hng : ∀ k, okOf ρ s.h k → ¬ (k = g) := by
                rintro k hk rfl
                exact hk.2 id (by rw [hg]; simp) (by rw [hρ]; rfl)
              refine ⟨[u1, u2], fun k => k = g, resCs_V hS.H (fun k hk => ⟨hup k hk, hrows k hk, hng k hk⟩) (fun k hk _ => hrows k hk) hr' e3, hinj (apartB_spec hap), ?_⟩
              simp only [hd, hn]
              refine ⟨g, u1, u2, rfl, ?_, ?_, hcell, fun k => Iff.rfl⟩
              · rw [hu0]; rfl
              · rcases hmine with hm | ⟨b, hm⟩
                · exact hm
                · exact absurd hm (hbx0 hd g b)
          · cases hr'
        · cases hr'
      · cases hr'
  | some t =>
    obtain ⟨g, hbx, hrv⟩ := hrd (by rw [hd]; rfl)
    obtain ⟨hρ0, h0l⟩ := hS.k0 _ hrv
    cases hn : sig.nw with
    | some t' => simp only [hd, hn] at hr'; cases hr'
    | none =>
      simp only [hd, hn] at hr'
      split at hr'
      · rename_i t' p q hg
        split at hr'
        · rename_i b hb
          split at hr'
          · rename_i hc
            obtain ⟨rfl, rfl⟩ := hc
            obtain ⟨cs, hcs, hr'⟩ := Option.bind_eq_some_iff.1 hr'
            split at hr'
            · rename_i hap
              obtain ⟨us0, e1, e2⟩ := flat_V' hcs hvs
              obtain ⟨g', cur, hρ, hmine, hcell, hbox⟩ := hS.H.blk 0 _ hg
              have hgg : g' = g := by
                rw [hρ0] at hρ
                injection hρ with hρ
                injection hρ with hρ
                injection hρ with hρ
                exact hρ.symm
              subst hgg
              have two : ∀ l : List Value, F2 (V1 (vw w' w.heap.size ρ s.h)) [p, q] l → ∃ u u', l = [u, u'] ∧ V1 (vw w' w.heap.size ρ s.h) p u ∧ V1 (vw w' w.heap.size ρ s.h) q u' := by
                intro l hl
                cases hl with
                | cons h1 h2 => cases h2 with
                  | cons h3 h4 => cases h4; exact ⟨_, _, rfl, h1, h3⟩
              obtain ⟨u', q', ecur, hp', hq'⟩ := two _ hbox
              have hcur : cur = #[u', q'] := by rw [← Array.toArray_toList (xs := cur), ecur]
              subst hcur
              have e3 : F2 (V (vw w' w.heap.size ρ s.h)) (cs ++ [q]) (us0 ++ [q']) := e2.app (.cons (V_of_V1 hq') .nil)
              obtain ⟨hrow, hinj⟩ := resCs_rows hS.H hr' e3
              have hrows : ∀ k, okOf ρ s.h k → ∀ u ∈ rowsV sig.rc (us0 ++ [q']), blkOf u ≠ some k := by
                intro k hk u hu hb
                rcases hrow u hu with h1 | ⟨id, _, h2, rfl⟩
                · rw [h1] at hb; cases hb
                · exact hk.2 id h2 hb
              have hng : ∀ k, okOf ρ s.h k → ¬ (k = g') := by
                rintro k hk rfl
                exact hk.2 0 (by rw [hg]; simp) (by rw [hρ]; rfl)
              refine ⟨us0 ++ [q'], fun k => k = g', resCs_V hS.H (fun k hk => ⟨hup k hk, hrows k hk, hng k hk⟩) (fun k hk _ => hrows k hk) hr' e3, hinj ?_, ?_⟩
              · exact apartB_spec hap
              · simp only [hd, hn]
                refine ⟨g', E.rdb, u', q', us0, vs, hbx, rfl, e1, rfl, hcell, ?_, fun k => Iff.rfl⟩
                have hV := inC_V hb (V2_of_V1 hp')
                exact SlR.tr ⟨Nat.le_refl _, fun k hk _ => ⟨rfl, hup k hk.1, hrows k hk.1, hng k hk.1⟩⟩ (show SlR w' ((vw w' w.heap.size ρ s.h).okf false) .u8 E.rdb u' from hV)
            · cases hr'
          · cases hr'
        · cases hr'
      · cases hr'
theorem f2_unflat {v : Vw} {ps : List (Option Nat)} {vs us : List Value} {qs : List PV} (h : flatV ps vs = some us) (hf : F2 (V1 v) qs us) : F2 (V v) (unflat ps qs) vs :=
  (unflat_V h hf).imp fun _ _ => V_of_V2
/-- A function's run is its contract. -/
theorem ctr_of {f : FuncId} {fn : Func} {sig : Sig} (hf : P.funcs[f]? = some fn) (hb : fn.body.isSome = true) (E : Ts sig.pc → Env') (hE : ∀ x, EnvOk P (E x))
    (hk : sig.rd.isSome = true → ∀ x, (E x).keep = [0] ∧ ∀ b ps, inPs sig.pc x = .row false .u8 b :: ps → (E x).rdb = b) (hm : P.follows .mixedOrders = true) (hrt : ∀ t, sig.rd = some t → Gl.rd t) :
    CtrOk P f ⟨sig, fun x => runFn P (E x) fn sig x⟩ := by
  intro w okc args bx x r hI hA hr
  obtain ⟨c, hc⟩ := Option.isSome_iff_exists.1 hb
  have hr' : exCode P (E x) c (initS fn sig x) (retK P (E x) fn sig) = some r := by simpa [runFn, hc] using hr
  refine calls_of_wp hf hc ?_
  let pin : Pn := ⟨fun k => ∃ b, bx = some (k, b), fun k => okc k ∨ w.heap.size ≤ k⟩
  have init : ∃ ρ rv, StR pin w.heap.size rv w ρ (initS fn sig x) { tmps := args ++ Array.replicate (fn.ntmps - args.size) undef, defers := [] } ∧ (rv.isSome = true → (E x).keep = [0]) ∧
      (sig.rd = none → ∀ g b, bx ≠ some (g, b)) ∧ (sig.rd.isSome = true → ∃ g, bx = some (g, (E x).rdb) ∧ rv = some (.pointer (some ⟨g, 0, none⟩))) := by
    unfold ArgR at hA
    cases hd : sig.rd with
    | none =>
      simp only [hd] at hA
      obtain ⟨hbx, fl, h1, h2⟩ := hA
      let ρ : Rh := ⟨fun _ => undef, fun k => okc k ∨ w.heap.size ≤ k⟩
      have h3 : F2 (V1 (vw w w.heap.size ρ [])) (inPs sig.pc x) fl := inPs_V (v := av w okc) (v' := vw w w.heap.size ρ []) rfl (fun k hk => ⟨.inl hk, fun i hi => absurd rfl hi⟩) h2
      have h4 := f2_unflat h1 h3
      have hin : initS fn sig x = ⟨unflat sig.ps (inPs sig.pc x) ++ List.replicate (fn.ntmps - (unflat sig.ps (inPs sig.pc x)).length) .junk, []⟩ := by simp [initS, hd]
      rw [hin]
      refine ⟨ρ, none, ⟨⟨Nat.le_refl _, fun i b hb => by simp [Hp.get] at hb, fun i j hi => absurd rfl hi, fun k hk => .inr hk, fun k hk => hk⟩, fun i => tm_init h4 i, ?_, rfl, fun v hv => (by cases hv), fun w' hk => Gl.keep none hI hk.size (fun k hk1 _ => hk.block k hk1 (by rintro ⟨b, hb⟩; rw [hbx] at hb; cases hb)) (fun k hk => by cases hk)⟩, fun h => (by simp at h), fun _ g b h => (by rw [hbx] at h; cases h), fun h => (by simp at h)⟩
      have := h4.len
      simp at this ⊢
      omega
    | some t =>
      simp only [hd] at hA
      obtain ⟨g, b, u, p, rest, fl, ps, hbx, hargs, hcell, hng, hfl, hin0, h2⟩ := hA
      obtain ⟨hkeep, hrdb⟩ := hk (by rw [hd]; rfl) x
      have hb' := hrdb b ps hin0
      rw [hin0] at h2
      cases h2 with
      | cons h3 h4 =>
        cases h4 with
        | @cons q _ qs _ h5 h6 =>
          let ρ : Rh := ⟨fun _ => .pointer (some ⟨g, 0, none⟩), fun k => okc k ∨ w.heap.size ≤ k⟩
          let h0 : Hp := [some (.box t [.row false .u8 b, q])]
          have hgl : g < w.heap.size := (Array.getElem?_eq_some_iff.1 hcell).1
          have hok : ∀ k, (av w okc).ok k → (vw w w.heap.size ρ h0).ok k := fun k hk' => ⟨.inl hk', fun i hi hb => by
            have : g = k := by simpa [ρ, blkOf] using hb
            subst this
            exact hng hk'⟩
          have hall : F2 (V1 (vw w w.heap.size ρ h0)) (inPs sig.pc x) (u :: p :: fl) := inPs_V (v := av w okc) (v' := vw w w.heap.size ρ h0) rfl hok (by rw [hin0]; exact .cons h3 (.cons h5 h6))
          rw [hin0] at hall
          cases hall with
          | cons g3 g4 =>
            cases g4 with
            | cons g5 g6 =>
              have g7 := f2_unflat hfl g6
              have hin : initS fn sig x = ⟨.ptr 0 0 :: unflat sig.ps qs ++ List.replicate (fn.ntmps - ((unflat sig.ps qs).length + 1)) .junk, h0⟩ := by simp [initS, hd, hin0, h0]
              rw [hin]
              have hts : F2 (V (vw w w.heap.size ρ h0)) (.ptr 0 0 :: unflat sig.ps qs) args.toList := by
                rw [hargs]
                exact .cons ⟨by simp [vw, h0], g, rfl, rfl⟩ g7
              refine ⟨ρ, some (.pointer (some ⟨g, 0, none⟩)), ⟨⟨Nat.le_refl _, fun i bb hbb => ?_, fun i j hi hj g' hgi hgj => ?_, fun k hk => .inr hk, fun k hk => hk⟩, fun i => tm_init hts i, ?_, rfl, fun v hv => ?_, fun w' hk => Gl.keep (some g) hI hk.size (fun k hk1 hk2 => hk.block k hk1 (by rintro ⟨b', hb'⟩; rw [hbx] at hb'; injection hb' with hb'; injection hb' with hb' _; exact hk2 (by rw [hb']))) (fun k hk => by injection hk with hk; subst hk; exact ⟨u, p, t, hrt t hd, hcell⟩)⟩, fun _ => hkeep, fun h => (by cases h), fun _ => ⟨g, by rw [hb']; exact hbx, rfl⟩⟩
              · cases i with
                | succ i => simp [Hp.get, h0] at hbb
                | zero =>
                  simp [Hp.get, h0] at hbb
                  subst hbb
                  exact ⟨g, #[u, p], rfl, .inr ⟨b, hbx⟩, hcell, .cons g3 (.cons g5 .nil)⟩
              · have hi' := Hp.get_lt hi
                have hj' := Hp.get_lt hj
                simp [h0] at hi' hj'
                omega
              · have := hts.len
                simp at this ⊢
                omega
              · injection hv with hv
                exact ⟨hv, by simp [h0]⟩
  obtain ⟨ρ, rv, hS, hkeep, hbx0, hrd⟩ := init
  refine wp_mono (exCode_sound (hE x) hkeep hm c hr' hS (Kp.refl _ _ _)) fun e a w' hq => ?_
  have fin : ∀ (e : AX) (s : St) (ρ : Rh), retK P (E x) fn sig e s = some r → StR pin w.heap.size rv w' ρ s a → Kp pin w.heap.size w w' →
      a.defers = [] ∧ ∃ v, (results fn a.tmps).run P w' = .ok v w' ∧ ∃ v', Ending.returned v = .returned v' ∧ RetR sig w w' okc bx r v' ∧ Kp ⟨fun k => ∃ b, bx = some (k, b), fun _ => True⟩ w.heap.size w w' := by
    intro e s ρ h1 h2 h3
    obtain ⟨v, h4, h5⟩ := ret_sound h1 h2 hbx0 hrd
    exact ⟨h2.df, v, h4, v, rfl, h5, ⟨h3.os, h3.tape, h3.output, h3.size, h3.block⟩⟩
  cases e with
  | normal => obtain ⟨s, ρ', h1, h2, h3⟩ := hq; exact fin _ s ρ' h1 h2 h3
  | ret => obtain ⟨s, ρ', h1, h2, h3⟩ := hq; exact fin _ s ρ' h1 h2 h3
  | exit i => obtain ⟨s, ρ', h1, h2, h3⟩ := hq; simp [retK] at h1
  | panic c => exact hq.elim
  | goto l => exact hq.elim
  | outgrown => exact hq.elim
end
end FN
namespace FN
open Go Go.RowKit
section
variable [Gl] {P : Program}
theorem exRegs_D (E : Env') : ∀ (c : Code) (t : List PV) (h : Hp), D fun R (K : List PV × Hp → Option R) => exRegs P E c t h fun t h => K (t, h)
  | .region id ops d, t, h => by
    simp only [exRegs]
    split
    · rename_i l _
      exact exOps_D P E ops l t h
    · exact D.none_
  | .seq x y, t, h => by
    simp only [exRegs]
    exact D.bind (exRegs_D E x t h) (G := fun a R K => exRegs P E y a.1 a.2 fun t h => K (t, h)) fun a => exRegs_D E y a.1 a.2
  | .skip, t, h => by simp only [exRegs]; exact D.now _
  | .cond .., t, h => by simp only [exRegs]; exact D.none_
  | .block .., t, h => by simp only [exRegs]; exact D.none_
  | .loop .., t, h => by simp only [exRegs]; exact D.none_
  | .exit .., t, h => by simp only [exRegs]; exact D.none_
  | .ret, t, h => by simp only [exRegs]; exact D.none_
  | .label _, t, h => by simp only [exRegs]; exact D.none_
  | .goto _, t, h => by simp only [exRegs]; exact D.none_
  | .rangeFunc .., t, h => by simp only [exRegs]; exact D.none_
  | .scope .., t, h => by simp only [exRegs]; exact D.none_
  | .refuse .., t, h => by simp only [exRegs]; exact D.none_
theorem inlRun_D (E : Env') (fn : Func) (ps : List PV) (h : Hp) : D fun R (K : Hp → Option R) => inlRun P E fn ps h K := by
  unfold inlRun
  split
  · rename_i c _
    intro R K r hk
    obtain ⟨a, h1, h2⟩ := exRegs_D (P := P) E c (ps ++ List.replicate (fn.ntmps - ps.length) .junk) h R (fun x => K x.2) r hk
    exact ⟨a.2, h1, fun R' K' => h2 R' fun x => K' x.2⟩
  · exact D.none_
/-- One closure that is entered in place. -/
def withClo (E : Env') (P : Program) (f : FuncId) (fn : Func) : Env' :=
  { E with clo := fun R g ps h K => if g = f then inlRun P E fn ps h K else none
           cloD := fun g ps h => D.ite (fun _ => inlRun_D E fn ps h) (fun _ => D.none_) }
variable {E : Env'} {pin : Pn} {base : Nat}
theorem exRegs_sound (hE : EnvOk P E) (hm : P.follows .mixedOrders = true) : ∀ (c : Code) {R : Type} {K : List PV → Hp → Option R} {r : R} {w0 w : World} {v0 : Vw} {ρ : Rh} {t : List PV} {h : Hp} {a : Act}, exRegs P E c t h K = some r → StR pin base none w ρ ⟨t, h⟩ a → Kp pin base w0 w → v0.Le (vw w base ρ h) →
    c.wp P (fun e a' w' => e = .normal ∧ PostR pin base none K r w0 v0 a' w') a w
  | .region id ops d, R, K, r, w0, w, v0, ρ, t, h, a, hk, hS, hp, hv => by
    simp only [exRegs] at hk
    split at hk
    · rename_i l hl
      exact region_sound hE hm (s := ⟨t, h⟩) (fun a' w' ⟨t', h', ρ', g1, g2, g3, g4⟩ => ⟨rfl, t', h', ρ', g1, g2, g3, hv.trans g4⟩) (fun c a w hh => by cases hh.1) hl hk hS hp
    · cases hk
  | .seq x y, R, K, r, w0, w, v0, ρ, t, h, a, hk, hS, hp, hv => by
    simp only [exRegs] at hk
    refine wp_seq (wp_mono (exRegs_sound hE hm x hk hS hp hv) fun e a' w' hq => ?_)
    obtain ⟨rfl, t', h', ρ', g1, g2, g3, g4⟩ := hq
    exact exRegs_sound hE hm y g1 g2 g3 g4
  | .skip, R, K, r, w0, w, v0, ρ, t, h, a, hk, hS, hp, hv => by
    simp only [exRegs] at hk
    exact wp_skip ⟨rfl, t, h, ρ, hk, hS, hp, hv⟩
  | .cond .., _, _, _, _, _, _, _, _, _, _, hk, _, _, _ => by simp [exRegs] at hk
  | .block .., _, _, _, _, _, _, _, _, _, _, hk, _, _, _ => by simp [exRegs] at hk
  | .loop .., _, _, _, _, _, _, _, _, _, _, hk, _, _, _ => by simp [exRegs] at hk
  | .exit .., _, _, _, _, _, _, _, _, _, _, hk, _, _, _ => by simp [exRegs] at hk
  | .ret, _, _, _, _, _, _, _, _, _, _, hk, _, _, _ => by simp [exRegs] at hk
  | .label _, _, _, _, _, _, _, _, _, _, _, hk, _, _, _ => by simp [exRegs] at hk
  | .goto _, _, _, _, _, _, _, _, _, _, _, hk, _, _, _ => by simp [exRegs] at hk
  | .rangeFunc .., _, _, _, _, _, _, _, _, _, _, hk, _, _, _ => by simp [exRegs] at hk
  | .scope .., _, _, _, _, _, _, _, _, _, _, hk, _, _, _ => by simp [exRegs] at hk
  | .refuse .., _, _, _, _, _, _, _, _, _, _, hk, _, _, _ => by simp [exRegs] at hk
theorem withClo_ok {f : FuncId} {fn : Func} (hf : P.funcs[f]? = some fn) (hname : (fn.name == "runtime.NumGoroutine") = false) (hb : fn.body.isSome = true) (hres : fn.results = #[]) (hE : EnvOk P E) (hm : P.follows .mixedOrders = true) : EnvOk P (withClo E P f fn) := by
  refine ⟨hE.1, ?_⟩
  intro g ps h h' pin base w ρ args hclo hI hH hargs
  have hclo' : (if g = f then inlRun P E fn ps h (some : Hp → Option Hp) else none) = some h' := hclo
  split at hclo'
  · rename_i hg
    subst hg
    obtain ⟨c, hc⟩ := Option.isSome_iff_exists.1 hb
    refine ⟨⟨fn, hf, hname, hb⟩, calls_of_wp hf hc ?_⟩
    have hk : exRegs P E c (ps ++ List.replicate (fn.ntmps - ps.length) .junk) h (fun _ h => some h) = some h' := by simpa [inlRun, hc] using hclo'
    have hv4 : F2 (V (vw w base ρ h)) ps args.toList := hargs.imp fun _ _ => V_of_V1
    have hS : StR pin base none w ρ ⟨ps ++ List.replicate (fn.ntmps - ps.length) .junk, h⟩ { tmps := args ++ Array.replicate (fn.ntmps - args.size) undef, defers := [] } := by
      refine ⟨hH, fun i => tm_init hv4 i, ?_, rfl, fun v hv => (by cases hv), hI⟩
      have := hv4.len
      simp at this ⊢
      omega
    refine wp_mono (exRegs_sound hE hm c hk hS (Kp.refl _ _ _) (Vw.Le.refl _)) fun e a w' hq => ?_
    obtain ⟨rfl, t', h2, ρ', g1, g2, g3, g4⟩ := hq
    injection g1 with g1
    subst g1
    refine ⟨g2.df, .tuple #[], ?_, rfl, ρ', g2.H, g4, g3⟩
    simp [results, hres]
  · cases hclo'
end
end FN
