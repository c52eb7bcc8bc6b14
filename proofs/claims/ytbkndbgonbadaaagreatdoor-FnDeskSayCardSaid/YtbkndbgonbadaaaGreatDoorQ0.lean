/- Texts of the proof, joined: parts -/
import Derived.Deep.Slices
import Derived.OpenShut
import Derived.ShutString
import Derived.WideShapes
import Derived.Below
import Derived.Carry
import Derived.Handed
import Derived.SizedLaws
import Derived.Shelf.Vars
import Derived.MakeChecks
import Derived.LaidLaws
import Derived.Lib.LaidTab
import Derived.Lib.ItoaNum
import Derived.Test.YtbkndbgonbadaaaGreatDoorA1
import Derived.Test.YtbkndbgonbadaaaGreatDoorJ0
set_option linter.unusedVariables false
set_option linter.unusedSimpArgs false
set_option linter.unusedSectionVars false
/-! What comes in, opened: typed values with their bounds. -/
namespace FN
open Go Go.RowKit
def okI (n : Int) : Prop := -9223372036854775808 ≤ n ∧ n ≤ 9223372036854775807
def okL (l : List Int) : Prop := l.length ≤ maxLen ∧ ∀ y ∈ l, okI y
def WfE : (c : CK) → c.T → Prop
  | .i64, x => okI x
  | .u8, x => 0 ≤ x ∧ x ≤ 255
  | .str, s => s.size ≤ maxLen
  | .intss, l => okL l
  | .place, x => okL x.1 ∧ okI x.2.1 ∧ okL x.2.2
  | .deed, x => okI x.1 ∧ okI x.2.1 ∧ okI x.2.2
  | .bool, _ => True
  | .pair, x => okI x.1 ∧ okI x.2
def WfR : (r : RS) → r.T → Prop
  | .int k, n => (Lit.int k n).wf = true
  | .bool, _ => True
  | .str, s => s.size ≤ maxLen
  | .row _ _, _ => False
  | .view c, xs => xs.length ≤ maxLen ∧ ∀ x ∈ xs, WfE c x
  | .any, _ => False
  | .fview _, _ => False
  | .nil, _ => False
def WfTs : (rs : List RS) → Ts rs → Prop
  | [], _ => True
  | [a], x => WfR a x
  | a :: b :: az, x => WfR a x.1 ∧ WfTs (b :: az) x.2
theorem wf_i64 {n : Int} (h : (Lit.int .i64 n).wf = true) : okI n := by
  simp [Lit.wf, IntKind.min, IntKind.max, IntKind.bits, IntKind.signed] at h
  unfold okI; omega
theorem wf_u8 {n : Int} (h : (Lit.int .u8 n).wf = true) : 0 ≤ n ∧ n ≤ 255 := by
  simp [Lit.wf, IntKind.min, IntKind.max, IntKind.bits, IntKind.signed] at h
  omega
theorem list_of {α : Type} {p : Nat → α → Prop} : ∀ n, (∀ i, i < n → ∃ x, p i x) → ∃ xs : List α, xs.length = n ∧ ∀ (i : Nat) x, xs[i]? = some x → p i x := by
  intro n
  induction n with
  | zero => intro _; exact ⟨[], rfl, fun i x h => by simp at h⟩
  | succ n ih =>
    intro h
    obtain ⟨xs, h1, h2⟩ := ih fun i hi => h i (by omega)
    obtain ⟨x, hx⟩ := h n (by omega)
    refine ⟨xs ++ [x], by simp [h1], fun i y hy => ?_⟩
    rcases Nat.lt_or_ge i xs.length with hl | hl
    · rw [List.getElem?_append_left hl] at hy; exact h2 i y hy
    · rw [List.getElem?_append_right hl] at hy
      have : i = n := by
        have := (List.getElem?_eq_some_iff.1 hy).1
        simp at this; omega
      subst this
      simp [h1] at hy
      subst hy; exact hx
section
variable {H : Type} {enc : TypeId × Value → H} {P : Program} {w : World} {sp : Nat → Bool} {held : Bool}
def okT (w : World) : Nat → Prop := (av w fun _ => True).okf false
theorem okT_all (w : World) (k : Nat) : okT w k := ⟨trivial, fun h => by cases h⟩
theorem trod_int' {t : TypeId} {k : IntKind} {n : Nat} {cs : List Value} {y : DataW H × List MemPlace} (ht : P.underlying t = some (.int k)) (h : DataW.trod enc P w 0 sp held n t cs = some y) : ∃ m, cs = [.int k m] ∧ (Lit.int k m).wf = true := by
  cases n with
  | zero => simp [DataW.trod] at h
  | succ n =>
    simp only [DataW.trod, ht] at h
    split at h <;> try (simp_all; done)
theorem trod_bool' {t : TypeId} {n : Nat} {cs : List Value} {y : DataW H × List MemPlace} (ht : P.underlying t = some .bool) (h : DataW.trod enc P w 0 sp held n t cs = some y) : ∃ b, cs = [.bool b] := by
  cases n with
  | zero => simp [DataW.trod] at h
  | succ n =>
    simp only [DataW.trod, ht] at h
    split at h <;> first | (exact ⟨_, rfl⟩) | (simp_all; done)
theorem trod_str' {t : TypeId} {n : Nat} {cs : List Value} {y : DataW H × List MemPlace} (ht : P.underlying t = some .string) (h : DataW.trod enc P w 0 sp held n t cs = some y) : ∃ s, cs = [.string s] ∧ s.size ≤ maxLen := by
  cases n with
  | zero => simp [DataW.trod] at h
  | succ n =>
    simp only [DataW.trod, ht] at h
    split at h <;> try (simp_all; done)
theorem open_sl {t e : TypeId} {c : CK} (ht : P.underlying t = some (.slice e)) (hsz : P.cellsOf e = c.sz)
    (hel : ∀ (n : Nat) (cs : List Value) (y : DataW H × List MemPlace), DataW.trod enc P w 0 sp held n e cs = some y → ∃ x : c.T, ElR w (okT w) c x cs ∧ WfE c x) {n : Nat} {cs : List Value} {y : DataW H × List MemPlace}
    (h : DataW.trod enc P w 0 sp held n t cs = some y) : ∃ v xs, cs = [v] ∧ SlR w (okT w) c xs v ∧ xs.length ≤ maxLen ∧ ∀ x ∈ xs, WfE c x := by
  rcases Go.Deep.open_slice ht h with ⟨rfl, _⟩ | ⟨a, len, cap, m, k, D, Pl, rfl, _, hl, hm, hmm, _, hx⟩
  · exact ⟨_, [], rfl, ⟨none, 0, rfl, Nat.le_refl _, Nat.zero_le _, fun h => absurd rfl h⟩, Nat.zero_le _, fun x hx => by simp at hx⟩
  · have hlm : len ≤ m := by rw [hmm]; split <;> omega
    obtain ⟨xs, e1, e2⟩ := list_of (p := fun i (x : c.T) => ∃ cs', w.cells? 0 (a.add (i * P.cellsOf e)) (P.cellsOf e) = some cs' ∧ ElR w (okT w) c x cs' ∧ WfE c x) len (fun i hi => by
      obtain ⟨cs', h1, h2⟩ := hx i (by omega)
      obtain ⟨x, h3, h4⟩ := hel _ _ _ h2
      exact ⟨x, cs', h1, h3, h4⟩)
    subst e1
    refine ⟨_, xs, rfl, ⟨some a, cap, rfl, hl, by omega, fun hne => ⟨a, rfl, okT_all w _, ?_, fun j x hj => ?_⟩⟩, by omega, fun x hx => ?_⟩
    · cases xs with
      | nil => exact absurd rfl hne
      | cons x xs =>
        obtain ⟨cs', h1, h3, _⟩ := e2 0 x rfl
        obtain ⟨_, h5, h6⟩ := World.cells?_some h1
        have hpos := c.sz_pos
        have := h6 0 (by omega)
        have hl0 : 0 < cs'.length := by omega
        rw [List.getElem?_eq_getElem hl0] at this
        have := World.block_lt_of_cell? w _ this
        rwa [Addr.add_block, Addr.add_block] at this
    · obtain ⟨cs', h1, h3, _⟩ := e2 j x hj
      obtain ⟨_, h5, h6⟩ := World.cells?_some h1
      refine ⟨cs', h3, fun i u hi => ?_⟩
      have hil := (List.getElem?_eq_some_iff.1 hi).1
      have := h6 i (by omega)
      rw [Addr.add_add, hsz] at this
      rw [this, hi]
    · obtain ⟨i, hi⟩ := List.getElem?_of_mem hx
      obtain ⟨_, _, _, h4⟩ := e2 i x hi
      exact h4
theorem open_slI {t e : TypeId} (ht : P.underlying t = some (.slice e)) (he : P.underlying e = some (.int .i64)) (hsz : P.cellsOf e = 1) {n : Nat} {cs : List Value} {y : DataW H × List MemPlace}
    (h : DataW.trod enc P w 0 sp held n t cs = some y) : ∃ v xs, cs = [v] ∧ SlI w (okT w) xs v ∧ okL xs := by
  obtain ⟨v, xs, h1, h2, h3, h4⟩ := open_sl (c := .i64) ht hsz (fun n cs y h => by
    obtain ⟨m, rfl, hm⟩ := trod_int' he h
    exact ⟨m, rfl, wf_i64 hm⟩) h
  exact ⟨v, xs, h1, slI_iff.1 h2, h3, h4⟩
theorem trod_struct' {t : TypeId} {fs : Array Field} {n : Nat} {cs : List Value} {y : DataW H × List MemPlace} (ht : P.underlying t = some (.struct fs)) (h : DataW.trod enc P w 0 sp held n t cs = some y) :
    cs.length = P.cellsOf t ∧ ∃ m, ∀ f ∈ fs.toList, ∃ z, DataW.trod enc P w 0 sp held m f.type ((cs.drop f.offset).take (P.cellsOf f.type)) = some z := by
  cases n with
  | zero => simp [DataW.trod] at h
  | succ n =>
    have h' : (if cs.length = P.cellsOf t then (fs.toList.mapM fun f => DataW.trod enc P w 0 sp held n f.type ((cs.drop f.offset).take (P.cellsOf f.type))).map fun xs => (DataW.agg (xs.map (·.1)), xs.flatMap (·.2)) else none) = some y := by
      rw [← h]
      simp only [DataW.trod, ht]
    split at h'
    · rename_i hl
      obtain ⟨xs, h1, _⟩ := Option.map_eq_some_iff.1 h'
      refine ⟨hl, n, fun f hf => ?_⟩
      have key : ∀ (l : List Field) (xs : List (DataW H × List MemPlace)), (l.mapM fun f => DataW.trod enc P w 0 sp held n f.type ((cs.drop f.offset).take (P.cellsOf f.type))) = some xs → ∀ f ∈ l, ∃ z, DataW.trod enc P w 0 sp held n f.type ((cs.drop f.offset).take (P.cellsOf f.type)) = some z := by
        intro l
        induction l with
        | nil => intro _ _ f hf; cases hf
        | cons g l ih =>
          intro xs hx f hf
          rw [List.mapM_cons] at hx
          obtain ⟨z, hz, hx⟩ := Option.bind_eq_some_iff.1 hx
          obtain ⟨zs, hzs, _⟩ := Option.bind_eq_some_iff.1 hx
          cases hf with
          | head => exact ⟨z, hz⟩
          | tail _ hf => exact ih zs hzs f hf
      exact key _ _ h1 f hf
    · cases h'
end
end FN

/-! From a law's contract to its call; arguments. -/
namespace FN
open Go Go.RowKit
theorem law_calls [Gl] {P : Program} {f : FuncId} {ps : List (Option Nat)} {pc : List RS} {run : Ts pc → Option (Ts [RS.bool])} (hc : CtrOk P f ⟨{ ps := ps, pc := pc, rs := [none], rc := [.bool] }, run⟩) {w : World} (hI : Gl.I w) {args : Array Value} {x : Ts pc} {fl : List Value}
    (h1 : flatV ps args.toList = some fl) (h2 : F2 (V1 (av w fun _ => True)) (inPs pc x) fl) (hr : run x = some true) : Calls P f args w fun e w' => e = .returned (.bool true) ∧ Below w.heap.size w w' := by
  refine (hc w (fun _ => True) args none x true hI ⟨rfl, fl, h1, h2⟩ hr).mono fun e w' hh => ?_
  obtain ⟨v, rfl, ⟨us, sp, ho, _, hsh⟩, hk⟩ := hh
  obtain ⟨_, _, vs, hvs, rfl⟩ := hsh
  obtain ⟨u, rfl, hu⟩ := ho
  have hu' : u = .bool true := hu
  subst hu'
  refine ⟨?_, hk.os, hk.tape, hk.output, hk.size, fun k hlt => hk.block k hlt (by rintro ⟨b, hb⟩; cases hb)⟩
  cases vs with
  | nil => simp [flatV] at hvs
  | cons v vs =>
    cases vs with
    | nil =>
      simp only [flatV, Option.map_some] at hvs
      injection hvs with hvs
      injection hvs with hvs
      subst hvs
      rfl
    | cons v' vs => simp [flatV] at hvs
/-- A row of numbers that came in. -/
def IsRow (k : IntKind) (w : World) (a : Option Addr) (len cap : Nat) (zs : List Int) : Prop :=
  (a = none ∧ len = 0 ∧ cap = 0 ∧ zs = []) ∨
  ∃ x, a = some x ∧ len ≤ cap ∧ cap ≤ maxLen ∧ zs.length = cap ∧ (∀ i, i < zs.length → w.cell? (x.add i) = some (.int k (zs.getD i 0))) ∧ ∀ n ∈ zs, (Lit.int k n).wf = true
theorem IsRow.bytes {w : World} {a : Option Addr} {len cap : Nat} {zs : List Int} (h : IsRow .u8 w a len cap zs) : V1 (av w fun _ => True) (.row false .u8 (zs.take len)) (.slice a len cap) ∧ ∀ x ∈ zs.take len, 0 ≤ x ∧ x ≤ 255 := by
  rcases h with ⟨rfl, rfl, rfl, rfl⟩ | ⟨x, rfl, hl, hm, hz, hc, hw⟩
  · exact ⟨⟨none, 0, rfl, Nat.le_refl _, Nat.zero_le _, fun h => absurd rfl h⟩, fun x hx => by simp at hx⟩
  · have hlen : (zs.take len).length = len := by rw [List.length_take]; omega
    refine ⟨⟨some x, cap, by rw [hlen], by omega, by omega, fun hne => ⟨x, rfl, ⟨trivial, fun h => by cases h⟩, (by
      have hz0 : 0 < zs.length := by
        cases zs with
        | nil => simp at hne
        | cons z zs => simp
      have := World.block_lt_of_cell? w _ (hc 0 hz0)
      rwa [Addr.add_block] at this), fun j y hj => ⟨[.int .u8 y], rfl, fun i u hi => ?_⟩⟩⟩, fun y hy => ?_⟩
    · cases i with
      | succ i => simp at hi
      | zero =>
        simp at hi
        subst hi
        rw [List.getElem?_take] at hj
        split at hj
        · have hjl := (List.getElem?_eq_some_iff.1 hj).1
          have := hc j hjl
          rw [List.getD_eq_getElem?_getD, hj] at this
          show w.cell? (x.add (j * 1 + 0)) = _
          simpa using this
        · cases hj
    · have := hw y (List.mem_of_mem_take hy)
      simp [Lit.wf, IntKind.min, IntKind.max, IntKind.bits, IntKind.signed] at this
      omega
end FN

/-! A law's arguments, opened by the program's own table of types. -/
namespace FN
open Go Go.RowKit
def isI (P : Program) (t : TypeId) : Bool := match P.underlying t with | some (.int .i64) => P.cellsOf t == 1 | _ => false
def isIs (P : Program) (t : TypeId) : Bool := match P.underlying t with | some (.slice e) => isI P e && P.cellsOf t == 1 | _ => false
def elCK (P : Program) (e : TypeId) : Option CK := match P.underlying e with
  | some (.int .i64) => some .i64
  | some (.int .u8) => some .u8
  | some .string => some .str
  | some .bool => some .bool
  | some (.slice q) => if isI P q then some .intss else none
  | some (.struct fs) => match fs.toList with
    | [a, b, c] => if a.offset = 0 ∧ b.offset = 1 ∧ c.offset = 2 then
        (if isI P a.type ∧ isI P b.type ∧ isI P c.type then some .deed else if isIs P a.type ∧ isI P b.type ∧ isIs P c.type then some .place else none) else none
    | [a, b] => if a.offset = 0 ∧ b.offset = 1 ∧ isI P a.type ∧ isI P b.type then some .pair else none
    | _ => none
  | _ => none
mutual
def tyRS (P : Program) : Nat → TypeId → Option (List RS)
  | 0, _ => none
  | n + 1, t => match P.underlying t with
    | some (.int k) => some [.int k]
    | some .bool => some [.bool]
    | some .string => some [.str]
    | some (.slice e) => match elCK P e with
      | some c => if P.cellsOf e = c.sz then some [.view c] else none
      | none => none
    | some (.struct fs) => match fsRS P n fs.toList 0 with
      | some rs => if P.cellsOf t = rs.length then some rs else none
      | none => none
    | _ => none
def fsRS (P : Program) : Nat → List Field → Nat → Option (List RS)
  | _, [], _ => some []
  | 0, _, _ => none
  | n + 1, f :: fs, o => match tyRS P n f.type, fsRS P n fs (o + P.cellsOf f.type) with
    | some a, some b => if f.offset = o ∧ P.cellsOf f.type = a.length then some (a ++ b) else none
    | _, _ => none
end
def sigRS (P : Program) : List TypeId → Option (List (Option Nat) × List RS)
  | [] => some ([], [])
  | t :: ts => match tyRS P 20 t, sigRS P ts with
    | some a, some b => match P.underlying t with
      | some (.struct _) => some (some a.length :: b.1, a ++ b.2)
      | _ => if a.length = 1 then some (none :: b.1, a ++ b.2) else none
    | _, _ => none
section
variable {H : Type} {enc : TypeId × Value → H} {P : Program} {w : World} {sp : Nat → Bool} {held : Bool}
theorem isI_spec {t : TypeId} (h : isI P t = true) : P.underlying t = some (.int .i64) ∧ P.cellsOf t = 1 := by
  unfold isI at h
  split at h
  · rename_i hu; exact ⟨hu, by simpa using h⟩
  · cases h
theorem isIs_spec {t : TypeId} (h : isIs P t = true) : ∃ e, P.underlying t = some (.slice e) ∧ P.underlying e = some (.int .i64) ∧ P.cellsOf e = 1 ∧ P.cellsOf t = 1 := by
  unfold isIs at h
  split at h
  · rename_i e hu
    simp only [Bool.and_eq_true] at h
    obtain ⟨h1, h2⟩ := isI_spec h.1
    exact ⟨e, hu, h1, h2, by simpa using h.2⟩
  · cases h
theorem len3 {cs : List Value} (h : cs.length = 3) : ∃ a b c, cs = [a, b, c] := by
  match cs, h with
  | [a, b, c], _ => exact ⟨a, b, c, rfl⟩
theorem len2 {cs : List Value} (h : cs.length = 2) : ∃ a b, cs = [a, b] := by
  match cs, h with
  | [a, b], _ => exact ⟨a, b, rfl⟩
theorem open_el {e : TypeId} {c : CK} (h : elCK P e = some c) (hsz : P.cellsOf e = c.sz) {n : Nat} {cs : List Value} {y : DataW H × List MemPlace} (hT : DataW.trod enc P w 0 sp held n e cs = some y) : ∃ x : c.T, ElR w (okT w) c x cs ∧ WfE c x := by
  unfold elCK at h
  split at h
  · rename_i hu
    injection h with h; subst h
    obtain ⟨m, rfl, hm⟩ := trod_int' hu hT
    exact ⟨m, rfl, wf_i64 hm⟩
  · rename_i hu
    injection h with h; subst h
    obtain ⟨m, rfl, hm⟩ := trod_int' hu hT
    exact ⟨m, rfl, wf_u8 hm⟩
  · rename_i hu
    injection h with h; subst h
    obtain ⟨s, rfl, hs⟩ := trod_str' hu hT
    exact ⟨s, rfl, hs⟩
  · rename_i hu
    injection h with h; subst h
    obtain ⟨b, rfl⟩ := trod_bool' hu hT
    exact ⟨b, rfl, trivial⟩
  · rename_i q hu
    split at h
    · rename_i hq
      injection h with h; subst h
      obtain ⟨h1, h2⟩ := isI_spec hq
      obtain ⟨v, xs, rfl, hs, hok⟩ := open_slI hu h1 h2 hT
      exact ⟨xs, ⟨v, rfl, hs⟩, hok⟩
    · cases h
  · rename_i fs hu
    obtain ⟨hl, m, hf⟩ := trod_struct' hu hT
    split at h
    · rename_i a b c' hfs
      rw [hfs] at hf
      split at h
      · rename_i ho
        obtain ⟨oa, ob, oc⟩ := ho
        obtain ⟨za, ha⟩ := hf a (by simp)
        obtain ⟨zb, hb⟩ := hf b (by simp)
        obtain ⟨zc, hc⟩ := hf c' (by simp)
        rw [oa] at ha; rw [ob] at hb; rw [oc] at hc
        split at h
        · rename_i hi
          injection h with h; subst h
          obtain ⟨u1, u2, u3, rfl⟩ := len3 (hl.trans hsz)
          obtain ⟨a1, a2⟩ := isI_spec hi.1
          obtain ⟨b1, b2⟩ := isI_spec hi.2.1
          obtain ⟨c1, c2⟩ := isI_spec hi.2.2
          rw [a2] at ha; rw [b2] at hb; rw [c2] at hc
          obtain ⟨m1, e1, w1⟩ := trod_int' a1 ha
          obtain ⟨m2, e2, w2⟩ := trod_int' b1 hb
          obtain ⟨m3, e3, w3⟩ := trod_int' c1 hc
          simp at e1 e2 e3
          subst e1; subst e2; subst e3
          exact ⟨(m1, m2, m3), rfl, wf_i64 w1, wf_i64 w2, wf_i64 w3⟩
        · split at h
          · rename_i hi
            injection h with h; subst h
            obtain ⟨u1, u2, u3, rfl⟩ := len3 (hl.trans hsz)
            obtain ⟨ea, a1, a2, a3, a4⟩ := isIs_spec hi.1
            obtain ⟨b1, b2⟩ := isI_spec hi.2.1
            obtain ⟨ec, c1, c2, c3, c4⟩ := isIs_spec hi.2.2
            rw [a4] at ha; rw [b2] at hb; rw [c4] at hc
            obtain ⟨v1, xs1, e1, s1, k1⟩ := open_slI a1 a2 a3 ha
            obtain ⟨m2, e2, w2⟩ := trod_int' b1 hb
            obtain ⟨v3, xs3, e3, s3, k3⟩ := open_slI c1 c2 c3 hc
            simp at e1 e2 e3
            subst e1; subst e2; subst e3
            exact ⟨(xs1, m2, xs3), ⟨_, _, rfl, s1, s3⟩, k1, wf_i64 w2, k3⟩
          · cases h
      · cases h
    · rename_i a b hfs
      rw [hfs] at hf
      split at h
      · rename_i ho
        obtain ⟨oa, ob, ia, ib⟩ := ho
        injection h with h; subst h
        obtain ⟨za, ha⟩ := hf a (by simp)
        obtain ⟨zb, hb⟩ := hf b (by simp)
        rw [oa] at ha; rw [ob] at hb
        obtain ⟨u1, u2, rfl⟩ := len2 (hl.trans hsz)
        obtain ⟨a1, a2⟩ := isI_spec ia
        obtain ⟨b1, b2⟩ := isI_spec ib
        rw [a2] at ha; rw [b2] at hb
        obtain ⟨m1, e1, w1⟩ := trod_int' a1 ha
        obtain ⟨m2, e2, w2⟩ := trod_int' b1 hb
        simp at e1 e2
        subst e1; subst e2
        exact ⟨(m1, m2), rfl, wf_i64 w1, wf_i64 w2⟩
      · cases h
    · cases h
  · cases h
/-- Typed cells, one behind the other. -/
theorem ts_app {v : Vw} : ∀ {az bs : List RS} {cs ds : List Value}, (∃ x : Ts az, F2 (V1 v) (inPs az x) cs ∧ WfTs az x) → (∃ y : Ts bs, F2 (V1 v) (inPs bs y) ds ∧ WfTs bs y) → ∃ z : Ts (az ++ bs), F2 (V1 v) (inPs (az ++ bs) z) (cs ++ ds) ∧ WfTs (az ++ bs) z
  | [], bs, cs, ds, ⟨x, h1, _⟩, h => by
    simp only [inPs] at h1
    cases h1
    exact h
  | [a], [], cs, ds, ⟨x, h1, h2⟩, ⟨y, h3, _⟩ => by
    simp only [inPs] at h3
    cases h3
    exact ⟨x, by simpa using h1, h2⟩
  | [a], b :: bs, cs, ds, ⟨x, h1, h2⟩, ⟨y, h3, h4⟩ => ⟨(x, y), F2.app h1 h3, h2, h4⟩
  | a :: b :: az, bs, cs, ds, ⟨x, h1, h2⟩, h => by
    simp only [inPs] at h1
    cases h1 with
    | @cons _ u _ us e1 e2 =>
      obtain ⟨z, h3, h4⟩ := ts_app (az := b :: az) ⟨x.2, e2, h2.2⟩ h
      exact ⟨(x.1, z), .cons e1 h3, h2.1, h4⟩
theorem inPs_len {v : Vw} {rs : List RS} {x : Ts rs} {cs : List Value} (h : F2 (V1 v) (inPs rs x) cs) : cs.length = rs.length := by
  have : ∀ (rs : List RS) (x : Ts rs), (inPs rs x).length = rs.length := by
    intro rs
    induction rs with
    | nil => intro x; rfl
    | cons a az ih =>
      cases az with
      | nil => intro x; rfl
      | cons b bs => intro x; simp only [inPs, List.length_cons]; rw [ih]; simp
  rw [← h.len, this]
mutual
theorem open_ty : ∀ (k : Nat) {t : TypeId} {rs : List RS} {n : Nat} {cs : List Value} {y : DataW H × List MemPlace}, tyRS P k t = some rs → DataW.trod enc P w 0 sp held n t cs = some y → ∃ x : Ts rs, F2 (V1 (av w fun _ => True)) (inPs rs x) cs ∧ WfTs rs x
  | 0, t, rs, n, cs, y, h, hT => by simp [tyRS] at h
  | k + 1, t, rs, n, cs, y, h, hT => by
    simp only [tyRS] at h
    split at h
    · rename_i kk hu
      injection h with h; subst h
      obtain ⟨m, rfl, hm⟩ := trod_int' hu hT
      exact ⟨m, .cons rfl .nil, hm⟩
    · rename_i hu
      injection h with h; subst h
      obtain ⟨b, rfl⟩ := trod_bool' hu hT
      exact ⟨b, .cons rfl .nil, trivial⟩
    · rename_i hu
      injection h with h; subst h
      obtain ⟨s, rfl, hs⟩ := trod_str' hu hT
      exact ⟨s, .cons rfl .nil, hs⟩
    · rename_i e hu
      split at h
      · rename_i c hc
        split at h
        · rename_i hsz
          injection h with h; subst h
          obtain ⟨v, xs, rfl, h1, h2, h3⟩ := open_sl hu hsz (fun n cs y => open_el hc hsz) hT
          exact ⟨xs, .cons h1 .nil, h2, h3⟩
        · cases h
      · cases h
    · rename_i fs hu
      split at h
      · rename_i rs' hrs
        split at h
        · rename_i hl
          injection h with h; subst h
          obtain ⟨hlen, m, hf⟩ := trod_struct' hu hT
          have := open_fs k (o := 0) (cs := cs) hrs (by omega) (fun f hf' => ⟨m, hf f hf'⟩)
          simpa using this
        · cases h
      · cases h
    · cases h
theorem open_fs : ∀ (k : Nat) {fs : List Field} {rs : List RS} {o : Nat} {cs : List Value}, fsRS P k fs o = some rs → cs.length = o + rs.length → (∀ f ∈ fs, ∃ m z, DataW.trod enc P w 0 sp held m f.type ((cs.drop f.offset).take (P.cellsOf f.type)) = some z) →
    ∃ x : Ts rs, F2 (V1 (av w fun _ => True)) (inPs rs x) (cs.drop o) ∧ WfTs rs x
  | k, [], rs, o, cs, h, hl, _ => by
    have : rs = [] := by cases k <;> simp [fsRS] at h <;> exact h
    subst this
    rw [List.drop_eq_nil_of_le (by simp at hl; omega)]
    exact ⟨(), .nil, trivial⟩
  | 0, _ :: _, rs, o, cs, h, hl, _ => by simp [fsRS] at h
  | k + 1, f :: fs, rs, o, cs, h, hl, hf => by
    simp only [fsRS] at h
    split at h
    · rename_i a b ha hb
      split at h
      · rename_i hc
        injection h with h; subst h
        obtain ⟨h1, h2⟩ := hc
        obtain ⟨m, z, hz⟩ := hf f (by simp)
        rw [h1] at hz
        have hx := open_ty k ha hz
        rw [h2] at hb hz hx
        simp only [List.length_append] at hl
        have hy := open_fs k (cs := cs) hb (by omega) (fun g hg => hf g (by simp [hg]))
        have := ts_app hx hy
        have e : (cs.drop o).take a.length ++ cs.drop (o + a.length) = cs.drop o := by
          rw [← List.drop_drop, List.take_append_drop]
        rwa [e] at this
      · cases h
    · cases h
end
theorem open_args : ∀ {ts : List TypeId} {vs : List Value} {ds : List (DataW H)} {p : List MemPlace} {ps : List (Option Nat)} {rs : List RS} {base : Nat}, DataW.TrodAll enc P w 0 sp held ts vs ds p →
    (∀ (j : Nat) t v, ts[j]? = some t → vs[j]? = some v → Value.okWide P w .any base t v) → sigRS P ts = some (ps, rs) → ∃ fl, flatV ps vs = some fl ∧ ∃ x : Ts rs, F2 (V1 (av w fun _ => True)) (inPs rs x) fl ∧ WfTs rs x
  | [], vs, ds, p, ps, rs, base, hA, _, hs => by
    obtain ⟨rfl, rfl, rfl⟩ := Go.ChangeShapes.trodAll_nil hA
    simp only [sigRS] at hs
    injection hs with hs
    injection hs with h1 h2
    subst h1; subst h2
    exact ⟨[], rfl, (), .nil, trivial⟩
  | t :: ts, vs, ds, p, ps, rs, base, hA, hok, hs => by
    obtain ⟨v, vs', d, ds', p', q', rfl, rfl, rfl, h0, hA'⟩ := Go.ChangeShapes.trodAll_cons hA
    simp only [sigRS] at hs
    split at hs
    · rename_i a b ha hb
      obtain ⟨fl, hfl, hy⟩ := open_args (ps := b.1) (rs := b.2) hA' (fun j t v hj hv => hok (j + 1) t v (by simpa using hj) (by simpa using hv)) hb
      obtain ⟨m, hm⟩ := h0
      have hx := open_ty 20 ha hm
      have hv := hok 0 t v rfl rfl
      split at hs
      · rename_i fs hu
        injection hs with hs
        injection hs with h1 h2
        subst h1; subst h2
        obtain ⟨cs, rfl, hcs⟩ := Go.WideShapes.okWide_struct hu hv
        have hlen : cs.size = a.length := by
          obtain ⟨x, h1, _⟩ := hx
          have := inPs_len h1
          simpa [Value.cells] using this
        exact ⟨cs.toList ++ fl, by simp [flatV, hlen, hfl], ts_app (by simpa [Value.cells] using hx) hy⟩
      · rename_i hu
        split at hs
        · rename_i hl1
          injection hs with hs
          injection hs with h1 h2
          subst h1; subst h2
          have hcell : v.cells.toList = [v] := by
            unfold tyRS at ha
            split at ha
            · rename_i k hk; obtain ⟨n, rfl⟩ := Go.WideShapes.okWide_int hk hv; rfl
            · rename_i hk; obtain ⟨n, rfl⟩ := Go.WideShapes.okWide_bool hk hv; rfl
            · rename_i hk; obtain ⟨n, rfl⟩ := Go.WideShapes.okWide_string hk hv; rfl
            · rename_i e hk; obtain ⟨n, l, c, rfl⟩ := Go.WideShapes.okWide_slice hk hv; rfl
            · rename_i fs hk; exact absurd hk (hu fs)
            · cases ha
          rw [hcell] at hx
          exact ⟨v :: fl, by simp [flatV, hfl], ts_app hx hy⟩
        · cases hs
    · cases hs
/-- The arguments read az they read before. -/
theorem args_keep {w' : World} (hl : laidOutB P = true) (hb : Below w.heap.size w w') : ∀ {ts : List TypeId} {vs : List Value} {ds : List (DataW H)} {p : List MemPlace}, (∀ t ∈ ts, P.readableRec t = true ∧ t < P.types.size) → DataW.TrodAll enc P w 0 (fun _ => true) true ts vs ds p →
    ∃ p', DataW.TrodAll enc P w' 0 (fun b => decide (b < w.heap.size)) true ts vs ds p'
  | [], vs, ds, p, _, hA => by
    obtain ⟨rfl, rfl, rfl⟩ := Go.ChangeShapes.trodAll_nil hA
    exact ⟨[], Go.ChangeShapes.trodAll_mk0⟩
  | t :: ts, vs, ds, p, hr, hA => by
    obtain ⟨v, vs', d, ds', p', q', rfl, rfl, rfl, h0, hA'⟩ := Go.ChangeShapes.trodAll_cons hA
    obtain ⟨q, hq⟩ := args_keep hl hb (fun t ht => hr t (by simp [ht])) hA'
    have lt0 : ∀ x ∈ p', x.block < w.heap.size := by obtain ⟨m, hm⟩ := h0; exact DataW.trod_lt m _ _ _ hm
    exact ⟨p' ++ q, trodAll_cons_mk (Below.trod hl (hr t (by simp)).1 (hr t (by simp)).2 h0 hb lt0) hq⟩
end
end FN
namespace FN
open Go
theorem TrodAll_len {H : Type} {enc : TypeId × Value → H} {P : Program} {w : World} {base : Nat} {sp : Nat → Bool} {held : Bool} : ∀ {ts : List TypeId} {vs : List Value} {ds : List (DataW H)} {p : List MemPlace}, DataW.TrodAll enc P w base sp held ts vs ds p → ds.length = ts.length
  | [], vs, ds, p, h => by
    obtain ⟨rfl, rfl, rfl⟩ := Go.ChangeShapes.trodAll_nil h
    rfl
  | t :: ts, vs, ds, p, h => by
    obtain ⟨v, vs', d, ds', p', q', rfl, rfl, rfl, _, h'⟩ := Go.ChangeShapes.trodAll_cons h
    simp [TrodAll_len h']
end FN

/-! The world's shape, kept for a law's walk. -/
namespace FN
open Go Go.Proofs Go.RowKit
theorem gl_of_shaped {P : Program} {w : World} {g : Nat} {t : TypeId} {zero : Array Value} {k : IntKind} (h : w.ShapedOpen P) (hg : g < P.globals.size)
    (h0 : ((begin P (fun _ _ => 0) default).world.heap[g]?).bind Obj.row? = some (zero, t)) (hz : zero.size = 1)
    (hb : P.buildable t = true) (hc : P.cellTypes P.depth t = some [t]) (hu : P.underlying t = some (.int k)) : ∃ m t' fz, w.heap[g]? = some (.cells #[.int k m] t' fz) := by
  obtain ⟨m, hm⟩ := cell_of_shapedOpen_int h hg h0 hz hb hc hu
  obtain ⟨cs, hh, hs, _⟩ := h.1 g zero t hg h0
  have h1 : cs.size = 1 := by omega
  have h2 : cs[0]? = some (.int k m) := by simpa [World.cell?, hh] using hm
  have : cs = #[.int k m] := by
    apply Array.ext_getElem?
    intro i
    cases i with
    | zero => simpa using h2
    | succ i => simp [h1]
  exact ⟨m, t, (0, 0), by rw [hh, this]⟩
theorem change_and_shaped {H : Type} {enc : TypeId × Value → H} {a : Assume} {C : Checked} {os : Os} {f : FuncId} {fn : Func} {s : ChangeSpec} {conds : List PathCond} {apart fresh handsOn again : Bool} {X : World → Array Value → Prop}
    (hX : ∀ (w w' : World) (args : Array Value), w.heap = w'.heap → X w args → X w' args)
    (own : ownKnob C.prog.godebug = none) (started : os.Started) (noInit : C.prog.inits.idxOf? f = none) (hfn : C.prog.funcs[f]? = some fn)
    (witness : ∃ (w : World) (tape : Tape) (i : Input), w.os = os ∧ (w.forCall tape i).Shaped C.prog ∧ i.vars = [] ∧ Input.okWide C.prog (w.forCall tape i) .any w.heap.size f i ∧
      ((s.pre enc C.prog fn conds apart (w.forCall tape i).memory i.args ∧ X (w.forCall tape i).memory i.args) ∧ sizedMet enc C.prog fn (OpenSpec.ofChange s) apart (w.forCall tape i).memory i.args) ∧ a.holds C.prog (lone (Frame.enter C.prog f i.args .normal) [] (w.forCall tape i)))
    (contract : ∀ (W : World) (base : Nat) (args : Array Value) (ds gs : List (DataW H)) (before : List MemPlace),
      (∀ (j : Nat) t v, fn.params[j]? = some t → args[j]? = some v → Value.okWide C.prog W .any base t v) →
      DataW.Whole enc C.prog fn.params.toList s.vars apart W args.toList ds gs before →
      conds.all (PathCond.test C.prog ⟨fn.params.toList, ds, s.plain.varTypes C.prog, gs⟩) = true →
      (DataW.weightsEach C.prog (fn.params.toList ++ s.plain.varTypes C.prog) (ds ++ gs)).all (· ≤ reachBytes) = true → X W args → W.ShapedOpen C.prog →
      Calls C.prog f args W fun e W' => ∃ v, e = .returned v ∧ s.post enc C.prog fn apart fresh handsOn again W args v W') :
    ReturnsInHanded a C os f .any (fun w args => (s.pre enc C.prog fn conds apart w args ∧ X w args) ∧ sizedMet enc C.prog fn (OpenSpec.ofChange s) apart w args) (s.post enc C.prog fn apart fresh handsOn again) := by
  refine returnsInHanded_of_calls own started noInit witness ?_
  intro w tape i _ hsh _ hok hpre _
  obtain ⟨_, _, _, fn', hfn', _, _, _, _, hval⟩ := hok
  have e : fn' = fn := Option.some.inj (hfn'.symm.trans hfn)
  subst e
  obtain ⟨⟨⟨ds, gs, before, hw, hc⟩, hx⟩, hz⟩ := hpre
  have hw' := DataW.Whole.of_heap (w' := w.forCall tape i) (by rfl) hw
  refine (contract (w.forCall tape i) w.heap.size i.args ds gs before hval hw' hc (hz.weights hw) (hX _ _ _ (by rfl) hx) hsh).mono fun e W' ⟨v, he, hp⟩ => ?_
  subst he
  exact ChangeSpec.post_blind hp
end FN

/-! A listed variable that holds an interface value. -/
namespace FN
open Go Go.Proofs Go.RowKit
theorem laid_mem {P : Program} {W : World} : ∀ {laid : List (String × DataW Unit)} {ps : List MemPlace}, DataW.LaidVars P W laid ps → ∀ n d, (n, d) ∈ laid →
    ∃ g t cs fuel p, P.globalNamed n = some g ∧ (P.globals[g]?).map (·.type) = some t ∧ W.var? P n = some cs ∧ DataW.trod (fun _ => ()) P W 0 (fun _ => true) false fuel t cs.toList = some (d, p)
  | [], _, _, n, d, hm => by cases hm
  | (n0, d0) :: r, ps, h, n, d, hm => by
    obtain ⟨g, t, cs, fuel, p, q, h1, h2, h3, h4, h5, _⟩ := h
    rcases List.mem_cons.1 hm with hm | hm
    · injection hm with e1 e2
      subst e1; subst e2
      exact ⟨g, t, cs, fuel, p, h1, h2, h3, h4⟩
    · exact laid_mem h5 n d hm
theorem laid_iface {P : Program} {W : World} {laid : List (String × DataW Unit)} (h : laidMetH P laid W) (hp : (laid.all fun x => x.2.handleName?.isNone) = true) {n : String} {nm : String} {d : DataW Unit} (hm : (n, DataW.iface nm d) ∈ laid) {g : Nat} {t : TypeId} {ms : Array (String × TypeId)} (hg : P.globalNamed n = some g) (ht : (P.globals[g]?).map (·.type) = some t) (hi : P.underlying t = some (.interface ms)) :
    ∃ ev t' fz, W.heap[g]? = some (.cells #[ev] t' fz) ∧ (ev = .nilIface ∨ ∃ te pe, ev = .iface te pe) := by
  rw [MakeChecks.laidMetH_plain _ _ _ hp] at h
  obtain ⟨ps, hv, _, _⟩ := h
  obtain ⟨g', t', cs, fuel, p, h1, h2, h3, h4⟩ := laid_mem hv n _ hm
  obtain rfl := Option.some.inj (hg.symm.trans h1)
  obtain rfl := Option.some.inj (ht.symm.trans h2)
  obtain ⟨_, u, v, e, _, _⟩ := iface_of_trod hi h4
  have hcs : cs = #[.iface u v] := by apply Array.ext'; simpa using e
  subst hcs
  unfold World.var? at h3
  rw [hg] at h3
  simp only [Option.bind_some] at h3
  split at h3
  · rename_i hh
    exact ⟨.iface u v, _, _, by first | (injection h3 with h3; rw [h3] at hh; exact hh) | (cases h3; exact hh), .inr ⟨u, v, rfl⟩⟩
  · cases h3
end FN

/-! A listed variable that is a table of numbers. -/
namespace FN
open Go Go.Proofs Go.RowKit
theorem laid_tab {P : Program} {W : World} {laid : List (String × DataW Unit)} (h : laidMetH P laid W) (hp : (laid.all fun x => x.2.handleName?.isNone) = true) {n : String} {k : IntKind} {zs : List Int} {d : DataW Unit} (hm : (n, d) ∈ laid) (hd : d = Lib.tabData k zs) {g : Nat} {t e : TypeId} {N : Nat} (hg : P.globalNamed n = some g) (ht : (P.globals[g]?).map (·.type) = some t) (hu : P.underlying t = some (.array N e)) (he : P.underlying e = some (.int k)) (hce : P.cellsOf e = 1) (hct : P.cellsOf t = N) :
    ∃ t' fz, W.heap[g]? = some (.cells (zs.map fun z => Value.int k z).toArray t' fz) := by
  rw [MakeChecks.laidMetH_plain _ _ _ hp] at h
  obtain ⟨ps, hv, _, _⟩ := h
  obtain ⟨g', t', cs, fuel, p, h1, h2, h3, h4⟩ := laid_mem hv n _ hm
  obtain rfl := Option.some.inj (hg.symm.trans h1)
  obtain rfl := Option.some.inj (ht.symm.trans h2)
  rw [hd] at h4
  have hcs := Lib.cells_of_tab hu he hce hct h4
  unfold World.var? at h3
  rw [hg] at h3
  simp only [Option.bind_some] at h3
  split at h3
  · rename_i cs' el fz hh
    injection h3 with h3
    subst h3
    have e : cs' = (zs.map fun z => Value.int k z).toArray := by
      apply Array.ext'
      simpa using hcs
    exact ⟨el, fz, by rw [← e]; exact hh⟩
  · cases h3
end FN

/-! Numbers and lists: what the equations' proofs use. -/
namespace FN
open Go
theorem i64w {n : Int} (h0 : -9223372036854775808 ≤ n) (h1 : n ≤ 9223372036854775807) : IntKind.i64.wrap n = n := by
  simp [IntKind.wrap, IntKind.bits, IntKind.signed]
  split <;> omega
theorem cnd_t {p : Prop} [Decidable p] {α : Type} {a b : α} (h : p) : cond (decide p) a b = a := by rw [decide_eq_true h]; rfl
theorem cnd_f {p : Prop} [Decidable p] {α : Type} {a b : α} (h : ¬ p) : cond (decide p) a b = b := by rw [decide_eq_false h]; rfl
theorem beq_t {x y : Int} {α : Type} {a b : α} (h : x = y) : cond (x == y) a b = a := by rw [h]; simp
theorem beq_f {x y : Int} {α : Type} {a b : α} (h : x ≠ y) : cond (x == y) a b = b := by rw [beq_false_of_ne h]; rfl
theorem bne_t {x y : Int} {α : Type} {a b : α} (h : x ≠ y) : cond (x != y) a b = a := by rw [bne_iff_ne.2 h]; rfl
theorem bne_f {x y : Int} {α : Type} {a b : α} (h : x = y) : cond (x != y) a b = b := by rw [h]; simp
theorem bits_nat {a b : Nat} (ha : a < 9223372036854775808) (hb : b < 9223372036854775808) :
    Go.bits .and .i64 (a : Int) (b : Int) = ((a &&& b : Nat) : Int) ∧ Go.bits .or .i64 (a : Int) (b : Int) = ((a ||| b : Nat) : Int) ∧ Go.bits .xor .i64 (a : Int) (b : Int) = ((a ^^^ b : Nat) : Int) := by
  have ha' : a < 2 ^ 63 := ha
  have hb' : b < 2 ^ 63 := hb
  have e1 : (BitVec.ofInt 64 (a : Int)).toNat = a := by rw [BitVec.ofInt_natCast, BitVec.toNat_ofNat]; exact Nat.mod_eq_of_lt (by omega)
  have e2 : (BitVec.ofInt 64 (b : Int)).toNat = b := by rw [BitVec.ofInt_natCast, BitVec.toNat_ofNat]; exact Nat.mod_eq_of_lt (by omega)
  have h1 : a &&& b < 2 ^ 63 := Nat.and_lt_two_pow _ hb'
  have h2 : a ||| b < 2 ^ 63 := Nat.or_lt_two_pow ha' hb'
  have h3 : a ^^^ b < 2 ^ 63 := Nat.xor_lt_two_pow ha' hb'
  refine ⟨?_, ?_, ?_⟩
  · show IntKind.i64.wrap ((BitVec.ofInt 64 (a : Int) &&& BitVec.ofInt 64 (b : Int) : BitVec 64).toNat : Int) = _
    rw [BitVec.toNat_and, e1, e2]
    exact i64w (by omega) (by omega)
  · show IntKind.i64.wrap ((BitVec.ofInt 64 (a : Int) ||| BitVec.ofInt 64 (b : Int) : BitVec 64).toNat : Int) = _
    rw [BitVec.toNat_or, e1, e2]
    exact i64w (by omega) (by omega)
  · show IntKind.i64.wrap ((BitVec.ofInt 64 (a : Int) ^^^ BitVec.ofInt 64 (b : Int) : BitVec 64).toNat : Int) = _
    rw [BitVec.toNat_xor, e1, e2]
    exact i64w (by omega) (by omega)
theorem xor_nn {x y : Int} (hx : 0 ≤ x) (hx' : x < 9223372036854775808) (hy : 0 ≤ y) (hy' : y < 9223372036854775808) : 0 ≤ Go.bits .xor .i64 x y := by
  obtain ⟨a, rfl⟩ := Int.eq_ofNat_of_zero_le hx
  obtain ⟨b, rfl⟩ := Int.eq_ofNat_of_zero_le hy
  rw [(bits_nat (a := a) (b := b) (by omega) (by omega)).2.2]
  omega
/-- The bytes of a code. -/
def Bytes (l : List Int) : Prop := ∀ x ∈ l, 0 ≤ x ∧ x ≤ 255
theorem Bytes.get {l : List Int} (h : Bytes l) (i : Nat) : 0 ≤ l.getD i 0 ∧ l.getD i 0 ≤ 255 := by
  rw [List.getD_eq_getElem?_getD]
  cases hx : l[i]? with
  | none => simp
  | some x => exact h x (List.mem_of_getElem? hx)
end FN

/-! Loops, bits, truths. -/
namespace FN
open Go
theorem advN {P : Nat → Prop} {n : Nat} (hn : P n) (h : ∀ i, i < n → P (i + 1) → P i) : ∀ a, a ≤ n → P a := by
  intro a ha
  obtain ⟨d, rfl⟩ : ∃ d, n = a + d := ⟨n - a, by omega⟩
  induction d generalizing a with
  | zero => exact hn
  | succ d ih => exact h a (by omega) (ih (a + 1) (by rw [show a + 1 + d = a + (d + 1) by omega]; exact hn) (fun i hi => h i (by omega)) (by omega))
theorem w1 {i n : Nat} (h : i < n) (hn : n ≤ 4611686018427387904) : IntKind.i64.wrap ((i : Int) + 1) = ((i + 1 : Nat) : Int) := by
  rw [i64w (n := (i : Int) + 1) (by omega) (by omega)]; omega
theorem wsub {i : Int} (h : -4611686018427387904 ≤ i) (h' : i ≤ 4611686018427387904) : IntKind.i64.wrap (i - 1) = i - 1 := i64w (by omega) (by omega)
theorem gN {l : List Int} (i : Nat) : List.getD l ((i : Int)).toNat 0 = l.getD i 0 := by simp
theorem inN {i n : Nat} (h : i < n) : (0 : Int) ≤ (i : Int) ∧ (i : Int) < (n : Int) := ⟨by omega, by omega⟩
theorem and1 (y : Int) : Go.bits .and .i64 y 1 = y % 2 := by
  show IntKind.i64.wrap ((BitVec.ofInt 64 y &&& BitVec.ofInt 64 1 : BitVec 64).toNat : Int) = _
  rw [BitVec.toNat_and, BitVec.toNat_ofInt]
  have h1 : (BitVec.ofInt 64 1).toNat = 1 := by decide
  rw [h1, Nat.and_one_is_mod]
  rw [i64w (n := (((y % (2 ^ 64 : Nat)).toNat % 2 : Nat) : Int)) (by omega) (by omega)]
  omega
/-- A bit of a number. -/
def bt (x : Int) (i : Nat) : Int := x / 2 ^ i % 2
theorem bt01 (x : Int) (i : Nat) : bt x i = 0 ∨ bt x i = 1 := by unfold bt; omega
theorem fd (x : Int) {i : Nat} (h : i ≤ 64) : Int.fdiv x (2 ^ min ((i : Int)).toNat IntKind.i64.bits) = x / 2 ^ i := by
  rw [Int.toNat_natCast, show min i IntKind.i64.bits = i from Nat.min_eq_left h]
  exact Int.fdiv_eq_ediv_of_nonneg _ (Int.le_of_lt (Int.pow_pos (by omega)))
theorem bit_and (x : Int) {i : Nat} (h : i ≤ 64) : Go.bits .and .i64 (Int.fdiv x (2 ^ min ((i : Int)).toNat IntKind.i64.bits)) 1 = bt x i := by
  rw [fd x h, and1]; rfl
theorem bit_mod {x : Int} (hx : 0 ≤ x) {i : Nat} (h : i ≤ 64) : Int.tmod (Int.fdiv x (2 ^ min ((i : Int)).toNat IntKind.i64.bits)) 2 = bt x i := by
  rw [fd x h]
  have : 0 ≤ x / 2 ^ i := Int.ediv_nonneg hx (Int.le_of_lt (Int.pow_pos (by omega)))
  rw [Int.tmod_eq_emod_of_nonneg this]; rfl
theorem sh1 {n : Nat} (h : n ≤ 62) : IntKind.i64.wrap (1 * 2 ^ min ((n : Int)).toNat IntKind.i64.bits) = 2 ^ n := by
  rw [Int.toNat_natCast, show min n IntKind.i64.bits = n from Nat.min_eq_left (by show n ≤ 64; omega), Int.one_mul]
  have : (2 : Int) ^ n ≤ 2 ^ 62 := by
    have := Nat.pow_le_pow_right (show 0 < 2 by omega) h
    exact_mod_cast this
  have : (0 : Int) < 2 ^ n := Int.pow_pos (by omega)
  exact i64w (by omega) (by omega)
theorem pow6 {n : Nat} (h : n ≤ 6) : (2 : Int) ^ n ≤ 64 ∧ 1 ≤ (2 : Int) ^ n := by
  obtain rfl | rfl | rfl | rfl | rfl | rfl | rfl : n = 0 ∨ n = 1 ∨ n = 2 ∨ n = 3 ∨ n = 4 ∨ n = 5 ∨ n = 6 := by omega
  all_goals decide
/-- It comes to a truth, that of Q. -/
def Tells (g : Option Bool) (Q : Prop) : Prop := ∃ r, g = some r ∧ (r = true ↔ Q)
theorem Tells.iff {g : Option Bool} {Q Q' : Prop} (k : Tells g Q) (h : Q ↔ Q') : Tells g Q' := by
  obtain ⟨r, h1, h2⟩ := k
  exact ⟨r, h1, h2.trans h⟩
theorem Tells.eq {g f : Option Bool} {Q : Prop} (h : g = f) (k : Tells f Q) : Tells g Q := h ▸ k
theorem Tells.no {Q : Prop} (h : ¬ Q) : Tells (some false) Q := ⟨false, rfl, by simp [h]⟩
theorem Tells.yes {Q : Prop} (h : Q) : Tells (some true) Q := ⟨true, rfl, by simp [h]⟩
theorem Tells.now {b : Bool} : Tells (some b) (b = true) := ⟨b, rfl, Iff.rfl⟩
theorem Tells.dec {Q : Prop} [Decidable Q] : Tells (some (decide Q)) Q := ⟨_, rfl, by simp⟩
theorem Tells.val {g : Option Bool} {Q : Prop} [Decidable Q] (k : Tells g Q) : g = some (decide Q) := by
  obtain ⟨r, h1, h2⟩ := k
  have : r = decide Q := by rw [Bool.eq_iff_iff]; simpa using h2
  exact this ▸ h1
theorem l1In_val (n a b : Int) : s_l1In_f (n, a, b) = some (decide (a ≤ n ∧ n ≤ b)) := by
  rw [s_l1In_f_eq]
  by_cases h : a ≤ n
  · rw [cnd_t h]; simp [h]
  · rw [cnd_f h]; simp [h]
end FN

/-! Numerals of two digits. -/
namespace FN
open Go
/-- The one-digit text; the last digit. -/
def dg1 (n : Int) : ByteArray := strOfNums ([(IntKind.u8.wrap (IntKind.i64.wrap (48 + (if 0 > n then 0 else n))))] : List (Int))
def dgL (n : Int) : ByteArray := strOfNums ([(IntKind.u8.wrap (IntKind.i64.wrap (48 + (Int.tmod n 10))))] : List (Int))
theorem ba_ext {a b : ByteArray} (h : a.data.toList = b.data.toList) : a = b := by
  cases a; cases b; congr 1; exact Array.ext' h
theorem dg_all : (List.range 100).all (fun n => (if n < 10 then decide ((dg1 (n : Int)).data.toList = (itoaS (n : Int)).data.toList) else decide ((dg1 (IntKind.i64.wrap (Int.tdiv (n : Int) 10)) ++ dgL (n : Int)).data.toList = (itoaS (n : Int)).data.toList)) && decide ((itoaS (n : Int)).size ≤ 2) && decide ((dg1 (IntKind.i64.wrap (Int.tdiv (n : Int) 10))).size + (dgL (n : Int)).size ≤ 10)) = true := by kernel_rfl
theorem dg_at {n : Int} (h0 : 0 ≤ n) (h1 : n < 100) : (if n < 10 then dg1 n = itoaS n else dg1 (IntKind.i64.wrap (Int.tdiv n 10)) ++ dgL n = itoaS n) ∧ (itoaS n).size ≤ 2 ∧ (dg1 (IntKind.i64.wrap (Int.tdiv n 10))).size + (dgL n).size ≤ 10 := by
  obtain ⟨m, rfl⟩ : ∃ m : Nat, n = m := ⟨n.toNat, by omega⟩
  have h := List.all_eq_true.1 dg_all m (List.mem_range.2 (by omega))
  simp only [Bool.and_eq_true, decide_eq_true_eq] at h
  obtain ⟨⟨h2, h3⟩, h4⟩ := h
  refine ⟨?_, h3, h4⟩
  by_cases c : m < 10
  · rw [if_pos c] at h2; rw [if_pos (by omega)]; exact ba_ext (of_decide_eq_true h2)
  · rw [if_neg c] at h2; rw [if_neg (by omega)]; exact ba_ext (of_decide_eq_true h2)
theorem num_g0 (x : Int) : s_l1Number_g 0 x = none := rfl
theorem num_low (k : Nat) {n : Int} (h : n < 10) : s_l1Number_g (k + 1) n = some (dg1 n) := by
  rw [s_l1Number_g_eq, cnd_t h]
  rfl
theorem num_two (k : Nat) {n : Int} (h0 : 10 ≤ n) (h1 : n < 100) : s_l1Number_g (k + 2) n = some (dg1 (IntKind.i64.wrap (Int.tdiv n 10)) ++ dgL n) := by
  have hd : IntKind.i64.wrap (Int.tdiv n 10) < 10 := by
    rw [Int.tdiv_eq_ediv_of_nonneg (by omega), i64w (by omega) (by omega)]
    omega
  rw [s_l1Number_g_eq, cnd_f (by omega), num_low k hd, Option.bind_some]
  have := (dg_at (show 0 ≤ n by omega) h1).2.2
  exact if_pos (show (dg1 (IntKind.i64.wrap (Int.tdiv n 10))).size + (dgL n).size ≤ 9223372036854775807 by omega)
theorem num_val {n : Int} (h0 : 0 ≤ n) (h1 : n < 100) : s_l1Number_f n = some (itoaS n) := by
  have ha := (dg_at h0 h1).1
  by_cases c : n < 10
  · rw [if_pos c] at ha
    refine lim_of ⟨1, (num_low 0 c).trans (by rw [ha])⟩ fun k r hk => ?_
    cases k with
    | zero => rw [num_g0] at hk; cases hk
    | succ k => rw [num_low k c, ha] at hk; exact (Option.some.inj hk).symm
  · rw [if_neg c] at ha
    refine lim_of ⟨2, (num_two 0 (by omega) h1).trans (by rw [ha])⟩ fun k r hk => ?_
    match k with
    | 0 => rw [num_g0] at hk; cases hk
    | 1 =>
      rw [s_l1Number_g_eq, cnd_f c, num_g0] at hk
      cases hk
    | k + 2 => rw [num_two k (by omega) h1, ha] at hk; exact (Option.some.inj hk).symm
theorem itoa_size {n : Int} (h0 : 0 ≤ n) (h1 : n < 100) : (itoaS n).size ≤ 2 := (dg_at h0 h1).2.1
theorem itoa_val {n : Int} (h0 : 0 ≤ n) (h1 : n < 100) : x_strconv_Itoa_f n = some (itoaS n) := if_pos ⟨h0, h1⟩
end FN

