/- Texts of the proof, joined: Plain laws of numbers and lists. -/
import Derived.Deep.Slices
import Derived.OpenShut
import Derived.ShutString
import Derived.WideShapes
import Derived.Below
import Derived.Carry
import Derived.Handed
import Derived.SizedLaws
import Derived.Shelf.Vars
import Derived.MakeChecks
import Derived.LaidLaws
import Derived.Lib.LaidTab
import Derived.Lib.ItoaNum
import Derived.Lib.SplitLaws
import Derived.Lib.AtoiTie
import Derived.Lib.AtoiAllCases
import Derived.Lib.ItoaMem
import Derived.Lib.ItoaLen
import Derived.Test.YtbkndbgonbadaaaGreatDoorH0
set_option linter.unusedVariables false
set_option linter.unusedSimpArgs false
set_option linter.unusedSectionVars false
/-! What comes in, opened: typed values with their bounds. -/
namespace FN
open Go Go.RowKit
def okI (n : Int) : Prop := -9223372036854775808 ≤ n ∧ n ≤ 9223372036854775807
def okL (l : List Int) : Prop := l.length ≤ maxLen ∧ ∀ y ∈ l, okI y
def WfE : (c : CK) → c.T → Prop
  | .i64, x => okI x
  | .u8, x => 0 ≤ x ∧ x ≤ 255
  | .str, s => s.size ≤ maxLen
  | .intss, l => okL l
  | .place, x => okL x.1 ∧ okI x.2.1 ∧ okL x.2.2
  | .deed, x => okI x.1 ∧ okI x.2.1 ∧ okI x.2.2
  | .bool, _ => True
  | .pair, x => okI x.1 ∧ okI x.2
def WfR : (r : RS) → r.T → Prop
  | .int k, n => (Lit.int k n).wf = true
  | .bool, _ => True
  | .str, s => s.size ≤ maxLen
  | .row _ _, _ => False
  | .view c, xs => xs.length ≤ maxLen ∧ ∀ x ∈ xs, WfE c x
  | .any, _ => False
  | .fview _, _ => False
  | .nil, _ => False
def WfTs : (rs : List RS) → Ts rs → Prop
  | [], _ => True
  | [a], x => WfR a x
  | a :: b :: az, x => WfR a x.1 ∧ WfTs (b :: az) x.2
theorem wf_i64 {n : Int} (h : (Lit.int .i64 n).wf = true) : okI n := by
  simp [Lit.wf, IntKind.min, IntKind.max, IntKind.bits, IntKind.signed] at h
  unfold okI; omega
theorem wf_u8 {n : Int} (h : (Lit.int .u8 n).wf = true) : 0 ≤ n ∧ n ≤ 255 := by
  simp [Lit.wf, IntKind.min, IntKind.max, IntKind.bits, IntKind.signed] at h
  omega
theorem list_of {α : Type} {p : Nat → α → Prop} : ∀ n, (∀ i, i < n → ∃ x, p i x) → ∃ xs : List α, xs.length = n ∧ ∀ (i : Nat) x, xs[i]? = some x → p i x := by
  intro n
  induction n with
  | zero => intro _; exact ⟨[], rfl, fun i x h => by simp at h⟩
  | succ n ih =>
    intro h
    obtain ⟨xs, h1, h2⟩ := ih fun i hi => h i (by omega)
    obtain ⟨x, hx⟩ := h n (by omega)
    refine ⟨xs ++ [x], by simp [h1], fun i y hy => ?_⟩
    rcases Nat.lt_or_ge i xs.length with hl | hl
    · rw [List.getElem?_append_left hl] at hy; exact h2 i y hy
    · rw [List.getElem?_append_right hl] at hy
      have : i = n := by
        have := (List.getElem?_eq_some_iff.1 hy).1
        simp at this; omega
      subst this
      simp [h1] at hy
      subst hy; exact hx
section
variable {H : Type} {enc : TypeId × Value → H} {P : Program} {w : World} {sp : Nat → Bool} {held : Bool}
def okT (w : World) : Nat → Prop := (av w fun _ => True).okf false
theorem okT_all (w : World) (k : Nat) : okT w k := ⟨trivial, fun h => by cases h⟩
theorem trod_int' {t : TypeId} {k : IntKind} {n : Nat} {cs : List Value} {y : DataW H × List MemPlace} (ht : P.underlying t = some (.int k)) (h : DataW.trod enc P w 0 sp held n t cs = some y) : ∃ m, cs = [.int k m] ∧ (Lit.int k m).wf = true := by
  cases n with
  | zero => simp [DataW.trod] at h
  | succ n =>
    simp only [DataW.trod, ht] at h
    split at h <;> try (simp_all; done)
theorem trod_bool' {t : TypeId} {n : Nat} {cs : List Value} {y : DataW H × List MemPlace} (ht : P.underlying t = some .bool) (h : DataW.trod enc P w 0 sp held n t cs = some y) : ∃ b, cs = [.bool b] := by
  cases n with
  | zero => simp [DataW.trod] at h
  | succ n =>
    simp only [DataW.trod, ht] at h
    split at h <;> first | (exact ⟨_, rfl⟩) | (simp_all; done)
theorem trod_str' {t : TypeId} {n : Nat} {cs : List Value} {y : DataW H × List MemPlace} (ht : P.underlying t = some .string) (h : DataW.trod enc P w 0 sp held n t cs = some y) : ∃ s, cs = [.string s] ∧ s.size ≤ maxLen := by
  cases n with
  | zero => simp [DataW.trod] at h
  | succ n =>
    simp only [DataW.trod, ht] at h
    split at h <;> try (simp_all; done)
theorem open_sl {t e : TypeId} {c : CK} (ht : P.underlying t = some (.slice e)) (hsz : P.cellsOf e = c.sz)
    (hel : ∀ (n : Nat) (cs : List Value) (y : DataW H × List MemPlace), DataW.trod enc P w 0 sp held n e cs = some y → ∃ x : c.T, ElR w (okT w) c x cs ∧ WfE c x) {n : Nat} {cs : List Value} {y : DataW H × List MemPlace}
    (h : DataW.trod enc P w 0 sp held n t cs = some y) : ∃ v xs, cs = [v] ∧ SlR w (okT w) c xs v ∧ xs.length ≤ maxLen ∧ ∀ x ∈ xs, WfE c x := by
  rcases Go.Deep.open_slice ht h with ⟨rfl, _⟩ | ⟨a, len, cap, m, k, D, Pl, rfl, _, hl, hm, hmm, _, hx⟩
  · exact ⟨_, [], rfl, ⟨none, 0, rfl, Nat.le_refl _, Nat.zero_le _, fun h => absurd rfl h⟩, Nat.zero_le _, fun x hx => by simp at hx⟩
  · have hlm : len ≤ m := by rw [hmm]; split <;> omega
    obtain ⟨xs, e1, e2⟩ := list_of (p := fun i (x : c.T) => ∃ cs', w.cells? 0 (a.add (i * P.cellsOf e)) (P.cellsOf e) = some cs' ∧ ElR w (okT w) c x cs' ∧ WfE c x) len (fun i hi => by
      obtain ⟨cs', h1, h2⟩ := hx i (by omega)
      obtain ⟨x, h3, h4⟩ := hel _ _ _ h2
      exact ⟨x, cs', h1, h3, h4⟩)
    subst e1
    refine ⟨_, xs, rfl, ⟨some a, cap, rfl, hl, by omega, fun hne => ⟨a, rfl, okT_all w _, ?_, fun j x hj => ?_⟩⟩, by omega, fun x hx => ?_⟩
    · cases xs with
      | nil => exact absurd rfl hne
      | cons x xs =>
        obtain ⟨cs', h1, h3, _⟩ := e2 0 x rfl
        obtain ⟨_, h5, h6⟩ := World.cells?_some h1
        have hpos := c.sz_pos
        have := h6 0 (by omega)
        have hl0 : 0 < cs'.length := by omega
        rw [List.getElem?_eq_getElem hl0] at this
        have := World.block_lt_of_cell? w _ this
        rwa [Addr.add_block, Addr.add_block] at this
    · obtain ⟨cs', h1, h3, _⟩ := e2 j x hj
      obtain ⟨_, h5, h6⟩ := World.cells?_some h1
      refine ⟨cs', h3, fun i u hi => ?_⟩
      have hil := (List.getElem?_eq_some_iff.1 hi).1
      have := h6 i (by omega)
      rw [Addr.add_add, hsz] at this
      rw [this, hi]
    · obtain ⟨i, hi⟩ := List.getElem?_of_mem hx
      obtain ⟨_, _, _, h4⟩ := e2 i x hi
      exact h4
theorem open_slI {t e : TypeId} (ht : P.underlying t = some (.slice e)) (he : P.underlying e = some (.int .i64)) (hsz : P.cellsOf e = 1) {n : Nat} {cs : List Value} {y : DataW H × List MemPlace}
    (h : DataW.trod enc P w 0 sp held n t cs = some y) : ∃ v xs, cs = [v] ∧ SlI w (okT w) xs v ∧ okL xs := by
  obtain ⟨v, xs, h1, h2, h3, h4⟩ := open_sl (c := .i64) ht hsz (fun n cs y h => by
    obtain ⟨m, rfl, hm⟩ := trod_int' he h
    exact ⟨m, rfl, wf_i64 hm⟩) h
  exact ⟨v, xs, h1, slI_iff.1 h2, h3, h4⟩
theorem trod_struct' {t : TypeId} {fs : Array Field} {n : Nat} {cs : List Value} {y : DataW H × List MemPlace} (ht : P.underlying t = some (.struct fs)) (h : DataW.trod enc P w 0 sp held n t cs = some y) :
    cs.length = P.cellsOf t ∧ ∃ m, ∀ f ∈ fs.toList, ∃ z, DataW.trod enc P w 0 sp held m f.type ((cs.drop f.offset).take (P.cellsOf f.type)) = some z := by
  cases n with
  | zero => simp [DataW.trod] at h
  | succ n =>
    have h' : (if cs.length = P.cellsOf t then (fs.toList.mapM fun f => DataW.trod enc P w 0 sp held n f.type ((cs.drop f.offset).take (P.cellsOf f.type))).map fun xs => (DataW.agg (xs.map (·.1)), xs.flatMap (·.2)) else none) = some y := by
      rw [← h]
      simp only [DataW.trod, ht]
    split at h'
    · rename_i hl
      obtain ⟨xs, h1, _⟩ := Option.map_eq_some_iff.1 h'
      refine ⟨hl, n, fun f hf => ?_⟩
      have key : ∀ (l : List Field) (xs : List (DataW H × List MemPlace)), (l.mapM fun f => DataW.trod enc P w 0 sp held n f.type ((cs.drop f.offset).take (P.cellsOf f.type))) = some xs → ∀ f ∈ l, ∃ z, DataW.trod enc P w 0 sp held n f.type ((cs.drop f.offset).take (P.cellsOf f.type)) = some z := by
        intro l
        induction l with
        | nil => intro _ _ f hf; cases hf
        | cons g l ih =>
          intro xs hx f hf
          rw [List.mapM_cons] at hx
          obtain ⟨z, hz, hx⟩ := Option.bind_eq_some_iff.1 hx
          obtain ⟨zs, hzs, _⟩ := Option.bind_eq_some_iff.1 hx
          cases hf with
          | head => exact ⟨z, hz⟩
          | tail _ hf => exact ih zs hzs f hf
      exact key _ _ h1 f hf
    · cases h'
end
end FN

/-! From a law's contract to its call; arguments. -/
namespace FN
open Go Go.RowKit
theorem law_calls [Gl] {P : Program} {f : FuncId} {ps : List (Option Nat)} {pc : List RS} {run : Ts pc → Option (Ts [RS.bool])} (hc : CtrOk P f ⟨{ ps := ps, pc := pc, rs := [none], rc := [.bool] }, run⟩) {w : World} (hI : Gl.I w) {args : Array Value} {x : Ts pc} {fl : List Value}
    (h1 : flatV ps args.toList = some fl) (h2 : F2 (V1 (av w fun _ => True)) (inPs pc x) fl) (hr : run x = some true) : Calls P f args w fun e w' => e = .returned (.bool true) ∧ Below w.heap.size w w' := by
  refine (hc w (fun _ => True) args none x true hI ⟨rfl, fl, h1, h2⟩ hr).mono fun e w' hh => ?_
  obtain ⟨v, rfl, ⟨us, sp, ho, _, hsh⟩, hk⟩ := hh
  obtain ⟨_, _, vs, hvs, rfl⟩ := hsh
  obtain ⟨u, rfl, hu⟩ := ho
  have hu' : u = .bool true := hu
  subst hu'
  refine ⟨?_, hk.os, hk.tape, hk.output, hk.size, fun k hlt => hk.block k hlt (by rintro ⟨b, hb⟩; cases hb)⟩
  cases vs with
  | nil => simp [flatV] at hvs
  | cons v vs =>
    cases vs with
    | nil =>
      simp only [flatV, Option.map_some] at hvs
      injection hvs with hvs
      injection hvs with hvs
      subst hvs
      rfl
    | cons v' vs => simp [flatV] at hvs
/-- A row of numbers that came in. -/
def IsRow (k : IntKind) (w : World) (a : Option Addr) (len cap : Nat) (zs : List Int) : Prop :=
  (a = none ∧ len = 0 ∧ cap = 0 ∧ zs = []) ∨
  ∃ x, a = some x ∧ len ≤ cap ∧ cap ≤ maxLen ∧ zs.length = cap ∧ (∀ i, i < zs.length → w.cell? (x.add i) = some (.int k (zs.getD i 0))) ∧ ∀ n ∈ zs, (Lit.int k n).wf = true
theorem IsRow.bytes {w : World} {a : Option Addr} {len cap : Nat} {zs : List Int} (h : IsRow .u8 w a len cap zs) : V1 (av w fun _ => True) (.row false .u8 (zs.take len)) (.slice a len cap) ∧ ∀ x ∈ zs.take len, 0 ≤ x ∧ x ≤ 255 := by
  rcases h with ⟨rfl, rfl, rfl, rfl⟩ | ⟨x, rfl, hl, hm, hz, hc, hw⟩
  · exact ⟨⟨none, 0, rfl, Nat.le_refl _, Nat.zero_le _, fun h => absurd rfl h⟩, fun x hx => by simp at hx⟩
  · have hlen : (zs.take len).length = len := by rw [List.length_take]; omega
    refine ⟨⟨some x, cap, by rw [hlen], by omega, by omega, fun hne => ⟨x, rfl, ⟨trivial, fun h => by cases h⟩, (by
      have hz0 : 0 < zs.length := by
        cases zs with
        | nil => simp at hne
        | cons z zs => simp
      have := World.block_lt_of_cell? w _ (hc 0 hz0)
      rwa [Addr.add_block] at this), fun j y hj => ⟨[.int .u8 y], rfl, fun i u hi => ?_⟩⟩⟩, fun y hy => ?_⟩
    · cases i with
      | succ i => simp at hi
      | zero =>
        simp at hi
        subst hi
        rw [List.getElem?_take] at hj
        split at hj
        · have hjl := (List.getElem?_eq_some_iff.1 hj).1
          have := hc j hjl
          rw [List.getD_eq_getElem?_getD, hj] at this
          show w.cell? (x.add (j * 1 + 0)) = _
          simpa using this
        · cases hj
    · have := hw y (List.mem_of_mem_take hy)
      simp [Lit.wf, IntKind.min, IntKind.max, IntKind.bits, IntKind.signed] at this
      omega
end FN

/-! A law's arguments, opened by the program's own table of types. -/
namespace FN
open Go Go.RowKit
def isI (P : Program) (t : TypeId) : Bool := match P.underlying t with | some (.int .i64) => P.cellsOf t == 1 | _ => false
def isIs (P : Program) (t : TypeId) : Bool := match P.underlying t with | some (.slice e) => isI P e && P.cellsOf t == 1 | _ => false
def elCK (P : Program) (e : TypeId) : Option CK := match P.underlying e with
  | some (.int .i64) => some .i64
  | some (.int .u8) => some .u8
  | some .string => some .str
  | some .bool => some .bool
  | some (.slice q) => if isI P q then some .intss else none
  | some (.struct fs) => match fs.toList with
    | [a, b, c] => if a.offset = 0 ∧ b.offset = 1 ∧ c.offset = 2 then
        (if isI P a.type ∧ isI P b.type ∧ isI P c.type then some .deed else if isIs P a.type ∧ isI P b.type ∧ isIs P c.type then some .place else none) else none
    | [a, b] => if a.offset = 0 ∧ b.offset = 1 ∧ isI P a.type ∧ isI P b.type then some .pair else none
    | _ => none
  | _ => none
mutual
def tyRS (P : Program) : Nat → TypeId → Option (List RS)
  | 0, _ => none
  | n + 1, t => match P.underlying t with
    | some (.int k) => some [.int k]
    | some .bool => some [.bool]
    | some .string => some [.str]
    | some (.slice e) => match elCK P e with
      | some c => if P.cellsOf e = c.sz then some [.view c] else none
      | none => none
    | some (.struct fs) => match fsRS P n fs.toList 0 with
      | some rs => if P.cellsOf t = rs.length then some rs else none
      | none => none
    | _ => none
def fsRS (P : Program) : Nat → List Field → Nat → Option (List RS)
  | _, [], _ => some []
  | 0, _, _ => none
  | n + 1, f :: fs, o => match tyRS P n f.type, fsRS P n fs (o + P.cellsOf f.type) with
    | some a, some b => if f.offset = o ∧ P.cellsOf f.type = a.length then some (a ++ b) else none
    | _, _ => none
end
def sigRS (P : Program) : List TypeId → Option (List (Option Nat) × List RS)
  | [] => some ([], [])
  | t :: ts => match tyRS P 20 t, sigRS P ts with
    | some a, some b => match P.underlying t with
      | some (.struct _) => some (some a.length :: b.1, a ++ b.2)
      | _ => if a.length = 1 then some (none :: b.1, a ++ b.2) else none
    | _, _ => none
section
variable {H : Type} {enc : TypeId × Value → H} {P : Program} {w : World} {sp : Nat → Bool} {held : Bool}
theorem isI_spec {t : TypeId} (h : isI P t = true) : P.underlying t = some (.int .i64) ∧ P.cellsOf t = 1 := by
  unfold isI at h
  split at h
  · rename_i hu; exact ⟨hu, by simpa using h⟩
  · cases h
theorem isIs_spec {t : TypeId} (h : isIs P t = true) : ∃ e, P.underlying t = some (.slice e) ∧ P.underlying e = some (.int .i64) ∧ P.cellsOf e = 1 ∧ P.cellsOf t = 1 := by
  unfold isIs at h
  split at h
  · rename_i e hu
    simp only [Bool.and_eq_true] at h
    obtain ⟨h1, h2⟩ := isI_spec h.1
    exact ⟨e, hu, h1, h2, by simpa using h.2⟩
  · cases h
theorem len3 {cs : List Value} (h : cs.length = 3) : ∃ a b c, cs = [a, b, c] := by
  match cs, h with
  | [a, b, c], _ => exact ⟨a, b, c, rfl⟩
theorem len2 {cs : List Value} (h : cs.length = 2) : ∃ a b, cs = [a, b] := by
  match cs, h with
  | [a, b], _ => exact ⟨a, b, rfl⟩
theorem open_el {e : TypeId} {c : CK} (h : elCK P e = some c) (hsz : P.cellsOf e = c.sz) {n : Nat} {cs : List Value} {y : DataW H × List MemPlace} (hT : DataW.trod enc P w 0 sp held n e cs = some y) : ∃ x : c.T, ElR w (okT w) c x cs ∧ WfE c x := by
  unfold elCK at h
  split at h
  · rename_i hu
    injection h with h; subst h
    obtain ⟨m, rfl, hm⟩ := trod_int' hu hT
    exact ⟨m, rfl, wf_i64 hm⟩
  · rename_i hu
    injection h with h; subst h
    obtain ⟨m, rfl, hm⟩ := trod_int' hu hT
    exact ⟨m, rfl, wf_u8 hm⟩
  · rename_i hu
    injection h with h; subst h
    obtain ⟨s, rfl, hs⟩ := trod_str' hu hT
    exact ⟨s, rfl, hs⟩
  · rename_i hu
    injection h with h; subst h
    obtain ⟨b, rfl⟩ := trod_bool' hu hT
    exact ⟨b, rfl, trivial⟩
  · rename_i q hu
    split at h
    · rename_i hq
      injection h with h; subst h
      obtain ⟨h1, h2⟩ := isI_spec hq
      obtain ⟨v, xs, rfl, hs, hok⟩ := open_slI hu h1 h2 hT
      exact ⟨xs, ⟨v, rfl, hs⟩, hok⟩
    · cases h
  · rename_i fs hu
    obtain ⟨hl, m, hf⟩ := trod_struct' hu hT
    split at h
    · rename_i a b c' hfs
      rw [hfs] at hf
      split at h
      · rename_i ho
        obtain ⟨oa, ob, oc⟩ := ho
        obtain ⟨za, ha⟩ := hf a (by simp)
        obtain ⟨zb, hb⟩ := hf b (by simp)
        obtain ⟨zc, hc⟩ := hf c' (by simp)
        rw [oa] at ha; rw [ob] at hb; rw [oc] at hc
        split at h
        · rename_i hi
          injection h with h; subst h
          obtain ⟨u1, u2, u3, rfl⟩ := len3 (hl.trans hsz)
          obtain ⟨a1, a2⟩ := isI_spec hi.1
          obtain ⟨b1, b2⟩ := isI_spec hi.2.1
          obtain ⟨c1, c2⟩ := isI_spec hi.2.2
          rw [a2] at ha; rw [b2] at hb; rw [c2] at hc
          obtain ⟨m1, e1, w1⟩ := trod_int' a1 ha
          obtain ⟨m2, e2, w2⟩ := trod_int' b1 hb
          obtain ⟨m3, e3, w3⟩ := trod_int' c1 hc
          simp at e1 e2 e3
          subst e1; subst e2; subst e3
          exact ⟨(m1, m2, m3), rfl, wf_i64 w1, wf_i64 w2, wf_i64 w3⟩
        · split at h
          · rename_i hi
            injection h with h; subst h
            obtain ⟨u1, u2, u3, rfl⟩ := len3 (hl.trans hsz)
            obtain ⟨ea, a1, a2, a3, a4⟩ := isIs_spec hi.1
            obtain ⟨b1, b2⟩ := isI_spec hi.2.1
            obtain ⟨ec, c1, c2, c3, c4⟩ := isIs_spec hi.2.2
            rw [a4] at ha; rw [b2] at hb; rw [c4] at hc
            obtain ⟨v1, xs1, e1, s1, k1⟩ := open_slI a1 a2 a3 ha
            obtain ⟨m2, e2, w2⟩ := trod_int' b1 hb
            obtain ⟨v3, xs3, e3, s3, k3⟩ := open_slI c1 c2 c3 hc
            simp at e1 e2 e3
            subst e1; subst e2; subst e3
            exact ⟨(xs1, m2, xs3), ⟨_, _, rfl, s1, s3⟩, k1, wf_i64 w2, k3⟩
          · cases h
      · cases h
    · rename_i a b hfs
      rw [hfs] at hf
      split at h
      · rename_i ho
        obtain ⟨oa, ob, ia, ib⟩ := ho
        injection h with h; subst h
        obtain ⟨za, ha⟩ := hf a (by simp)
        obtain ⟨zb, hb⟩ := hf b (by simp)
        rw [oa] at ha; rw [ob] at hb
        obtain ⟨u1, u2, rfl⟩ := len2 (hl.trans hsz)
        obtain ⟨a1, a2⟩ := isI_spec ia
        obtain ⟨b1, b2⟩ := isI_spec ib
        rw [a2] at ha; rw [b2] at hb
        obtain ⟨m1, e1, w1⟩ := trod_int' a1 ha
        obtain ⟨m2, e2, w2⟩ := trod_int' b1 hb
        simp at e1 e2
        subst e1; subst e2
        exact ⟨(m1, m2), rfl, wf_i64 w1, wf_i64 w2⟩
      · cases h
    · cases h
  · cases h
/-- Typed cells, one behind the other. -/
theorem ts_app {v : Vw} : ∀ {az bs : List RS} {cs ds : List Value}, (∃ x : Ts az, F2 (V1 v) (inPs az x) cs ∧ WfTs az x) → (∃ y : Ts bs, F2 (V1 v) (inPs bs y) ds ∧ WfTs bs y) → ∃ z : Ts (az ++ bs), F2 (V1 v) (inPs (az ++ bs) z) (cs ++ ds) ∧ WfTs (az ++ bs) z
  | [], bs, cs, ds, ⟨x, h1, _⟩, h => by
    simp only [inPs] at h1
    cases h1
    exact h
  | [a], [], cs, ds, ⟨x, h1, h2⟩, ⟨y, h3, _⟩ => by
    simp only [inPs] at h3
    cases h3
    exact ⟨x, by simpa using h1, h2⟩
  | [a], b :: bs, cs, ds, ⟨x, h1, h2⟩, ⟨y, h3, h4⟩ => ⟨(x, y), F2.app h1 h3, h2, h4⟩
  | a :: b :: az, bs, cs, ds, ⟨x, h1, h2⟩, h => by
    simp only [inPs] at h1
    cases h1 with
    | @cons _ u _ us e1 e2 =>
      obtain ⟨z, h3, h4⟩ := ts_app (az := b :: az) ⟨x.2, e2, h2.2⟩ h
      exact ⟨(x.1, z), .cons e1 h3, h2.1, h4⟩
theorem inPs_len {v : Vw} {rs : List RS} {x : Ts rs} {cs : List Value} (h : F2 (V1 v) (inPs rs x) cs) : cs.length = rs.length := by
  have : ∀ (rs : List RS) (x : Ts rs), (inPs rs x).length = rs.length := by
    intro rs
    induction rs with
    | nil => intro x; rfl
    | cons a az ih =>
      cases az with
      | nil => intro x; rfl
      | cons b bs => intro x; simp only [inPs, List.length_cons]; rw [ih]; simp
  rw [← h.len, this]
mutual
theorem open_ty : ∀ (k : Nat) {t : TypeId} {rs : List RS} {n : Nat} {cs : List Value} {y : DataW H × List MemPlace}, tyRS P k t = some rs → DataW.trod enc P w 0 sp held n t cs = some y → ∃ x : Ts rs, F2 (V1 (av w fun _ => True)) (inPs rs x) cs ∧ WfTs rs x
  | 0, t, rs, n, cs, y, h, hT => by simp [tyRS] at h
  | k + 1, t, rs, n, cs, y, h, hT => by
    simp only [tyRS] at h
    split at h
    · rename_i kk hu
      injection h with h; subst h
      obtain ⟨m, rfl, hm⟩ := trod_int' hu hT
      exact ⟨m, .cons rfl .nil, hm⟩
    · rename_i hu
      injection h with h; subst h
      obtain ⟨b, rfl⟩ := trod_bool' hu hT
      exact ⟨b, .cons rfl .nil, trivial⟩
    · rename_i hu
      injection h with h; subst h
      obtain ⟨s, rfl, hs⟩ := trod_str' hu hT
      exact ⟨s, .cons rfl .nil, hs⟩
    · rename_i e hu
      split at h
      · rename_i c hc
        split at h
        · rename_i hsz
          injection h with h; subst h
          obtain ⟨v, xs, rfl, h1, h2, h3⟩ := open_sl hu hsz (fun n cs y => open_el hc hsz) hT
          exact ⟨xs, .cons h1 .nil, h2, h3⟩
        · cases h
      · cases h
    · rename_i fs hu
      split at h
      · rename_i rs' hrs
        split at h
        · rename_i hl
          injection h with h; subst h
          obtain ⟨hlen, m, hf⟩ := trod_struct' hu hT
          have := open_fs k (o := 0) (cs := cs) hrs (by omega) (fun f hf' => ⟨m, hf f hf'⟩)
          simpa using this
        · cases h
      · cases h
    · cases h
theorem open_fs : ∀ (k : Nat) {fs : List Field} {rs : List RS} {o : Nat} {cs : List Value}, fsRS P k fs o = some rs → cs.length = o + rs.length → (∀ f ∈ fs, ∃ m z, DataW.trod enc P w 0 sp held m f.type ((cs.drop f.offset).take (P.cellsOf f.type)) = some z) →
    ∃ x : Ts rs, F2 (V1 (av w fun _ => True)) (inPs rs x) (cs.drop o) ∧ WfTs rs x
  | k, [], rs, o, cs, h, hl, _ => by
    have : rs = [] := by cases k <;> simp [fsRS] at h <;> exact h
    subst this
    rw [List.drop_eq_nil_of_le (by simp at hl; omega)]
    exact ⟨(), .nil, trivial⟩
  | 0, _ :: _, rs, o, cs, h, hl, _ => by simp [fsRS] at h
  | k + 1, f :: fs, rs, o, cs, h, hl, hf => by
    simp only [fsRS] at h
    split at h
    · rename_i a b ha hb
      split at h
      · rename_i hc
        injection h with h; subst h
        obtain ⟨h1, h2⟩ := hc
        obtain ⟨m, z, hz⟩ := hf f (by simp)
        rw [h1] at hz
        have hx := open_ty k ha hz
        rw [h2] at hb hz hx
        simp only [List.length_append] at hl
        have hy := open_fs k (cs := cs) hb (by omega) (fun g hg => hf g (by simp [hg]))
        have := ts_app hx hy
        have e : (cs.drop o).take a.length ++ cs.drop (o + a.length) = cs.drop o := by
          rw [← List.drop_drop, List.take_append_drop]
        rwa [e] at this
      · cases h
    · cases h
end
theorem open_args : ∀ {ts : List TypeId} {vs : List Value} {ds : List (DataW H)} {p : List MemPlace} {ps : List (Option Nat)} {rs : List RS} {base : Nat}, DataW.TrodAll enc P w 0 sp held ts vs ds p →
    (∀ (j : Nat) t v, ts[j]? = some t → vs[j]? = some v → Value.okWide P w .any base t v) → sigRS P ts = some (ps, rs) → ∃ fl, flatV ps vs = some fl ∧ ∃ x : Ts rs, F2 (V1 (av w fun _ => True)) (inPs rs x) fl ∧ WfTs rs x
  | [], vs, ds, p, ps, rs, base, hA, _, hs => by
    obtain ⟨rfl, rfl, rfl⟩ := Go.ChangeShapes.trodAll_nil hA
    simp only [sigRS] at hs
    injection hs with hs
    injection hs with h1 h2
    subst h1; subst h2
    exact ⟨[], rfl, (), .nil, trivial⟩
  | t :: ts, vs, ds, p, ps, rs, base, hA, hok, hs => by
    obtain ⟨v, vs', d, ds', p', q', rfl, rfl, rfl, h0, hA'⟩ := Go.ChangeShapes.trodAll_cons hA
    simp only [sigRS] at hs
    split at hs
    · rename_i a b ha hb
      obtain ⟨fl, hfl, hy⟩ := open_args (ps := b.1) (rs := b.2) hA' (fun j t v hj hv => hok (j + 1) t v (by simpa using hj) (by simpa using hv)) hb
      obtain ⟨m, hm⟩ := h0
      have hx := open_ty 20 ha hm
      have hv := hok 0 t v rfl rfl
      split at hs
      · rename_i fs hu
        injection hs with hs
        injection hs with h1 h2
        subst h1; subst h2
        obtain ⟨cs, rfl, hcs⟩ := Go.WideShapes.okWide_struct hu hv
        have hlen : cs.size = a.length := by
          obtain ⟨x, h1, _⟩ := hx
          have := inPs_len h1
          simpa [Value.cells] using this
        exact ⟨cs.toList ++ fl, by simp [flatV, hlen, hfl], ts_app (by simpa [Value.cells] using hx) hy⟩
      · rename_i hu
        split at hs
        · rename_i hl1
          injection hs with hs
          injection hs with h1 h2
          subst h1; subst h2
          have hcell : v.cells.toList = [v] := by
            unfold tyRS at ha
            split at ha
            · rename_i k hk; obtain ⟨n, rfl⟩ := Go.WideShapes.okWide_int hk hv; rfl
            · rename_i hk; obtain ⟨n, rfl⟩ := Go.WideShapes.okWide_bool hk hv; rfl
            · rename_i hk; obtain ⟨n, rfl⟩ := Go.WideShapes.okWide_string hk hv; rfl
            · rename_i e hk; obtain ⟨n, l, c, rfl⟩ := Go.WideShapes.okWide_slice hk hv; rfl
            · rename_i fs hk; exact absurd hk (hu fs)
            · cases ha
          rw [hcell] at hx
          exact ⟨v :: fl, by simp [flatV, hfl], ts_app hx hy⟩
        · cases hs
    · cases hs
/-- The arguments read az they read before. -/
theorem args_keep {w' : World} (hl : laidOutB P = true) (hb : Below w.heap.size w w') : ∀ {ts : List TypeId} {vs : List Value} {ds : List (DataW H)} {p : List MemPlace}, (∀ t ∈ ts, P.readableRec t = true ∧ t < P.types.size) → DataW.TrodAll enc P w 0 (fun _ => true) true ts vs ds p →
    ∃ p', DataW.TrodAll enc P w' 0 (fun b => decide (b < w.heap.size)) true ts vs ds p'
  | [], vs, ds, p, _, hA => by
    obtain ⟨rfl, rfl, rfl⟩ := Go.ChangeShapes.trodAll_nil hA
    exact ⟨[], Go.ChangeShapes.trodAll_mk0⟩
  | t :: ts, vs, ds, p, hr, hA => by
    obtain ⟨v, vs', d, ds', p', q', rfl, rfl, rfl, h0, hA'⟩ := Go.ChangeShapes.trodAll_cons hA
    obtain ⟨q, hq⟩ := args_keep hl hb (fun t ht => hr t (by simp [ht])) hA'
    have lt0 : ∀ x ∈ p', x.block < w.heap.size := by obtain ⟨m, hm⟩ := h0; exact DataW.trod_lt m _ _ _ hm
    exact ⟨p' ++ q, trodAll_cons_mk (Below.trod hl (hr t (by simp)).1 (hr t (by simp)).2 h0 hb lt0) hq⟩
end
end FN
namespace FN
open Go
theorem TrodAll_len {H : Type} {enc : TypeId × Value → H} {P : Program} {w : World} {base : Nat} {sp : Nat → Bool} {held : Bool} : ∀ {ts : List TypeId} {vs : List Value} {ds : List (DataW H)} {p : List MemPlace}, DataW.TrodAll enc P w base sp held ts vs ds p → ds.length = ts.length
  | [], vs, ds, p, h => by
    obtain ⟨rfl, rfl, rfl⟩ := Go.ChangeShapes.trodAll_nil h
    rfl
  | t :: ts, vs, ds, p, h => by
    obtain ⟨v, vs', d, ds', p', q', rfl, rfl, rfl, _, h'⟩ := Go.ChangeShapes.trodAll_cons h
    simp [TrodAll_len h']
end FN

/-! The world's shape, kept for a law's walk. -/
namespace FN
open Go Go.Proofs Go.RowKit
theorem gl_of_shaped {P : Program} {w : World} {g : Nat} {t : TypeId} {zero : Array Value} {k : IntKind} (h : w.ShapedOpen P) (hg : g < P.globals.size)
    (h0 : ((begin P (fun _ _ => 0) default).world.heap[g]?).bind Obj.row? = some (zero, t)) (hz : zero.size = 1)
    (hb : P.buildable t = true) (hc : P.cellTypes P.depth t = some [t]) (hu : P.underlying t = some (.int k)) : ∃ m t' fz, w.heap[g]? = some (.cells #[.int k m] t' fz) := by
  obtain ⟨m, hm⟩ := cell_of_shapedOpen_int h hg h0 hz hb hc hu
  obtain ⟨cs, hh, hs, _⟩ := h.1 g zero t hg h0
  have h1 : cs.size = 1 := by omega
  have h2 : cs[0]? = some (.int k m) := by simpa [World.cell?, hh] using hm
  have : cs = #[.int k m] := by
    apply Array.ext_getElem?
    intro i
    cases i with
    | zero => simpa using h2
    | succ i => simp [h1]
  exact ⟨m, t, (0, 0), by rw [hh, this]⟩
theorem change_and_shaped {H : Type} {enc : TypeId × Value → H} {a : Assume} {C : Checked} {os : Os} {f : FuncId} {fn : Func} {s : ChangeSpec} {conds : List PathCond} {apart fresh handsOn again : Bool} {X : World → Array Value → Prop}
    (hX : ∀ (w w' : World) (args : Array Value), w.heap = w'.heap → X w args → X w' args)
    (own : ownKnob C.prog.godebug = none) (started : os.Started) (noInit : C.prog.inits.idxOf? f = none) (hfn : C.prog.funcs[f]? = some fn)
    (witness : ∃ (w : World) (tape : Tape) (i : Input), w.os = os ∧ (w.forCall tape i).Shaped C.prog ∧ i.vars = [] ∧ Input.okWide C.prog (w.forCall tape i) .any w.heap.size f i ∧
      ((s.pre enc C.prog fn conds apart (w.forCall tape i).memory i.args ∧ X (w.forCall tape i).memory i.args) ∧ sizedMet enc C.prog fn (OpenSpec.ofChange s) apart (w.forCall tape i).memory i.args) ∧ a.holds C.prog (lone (Frame.enter C.prog f i.args .normal) [] (w.forCall tape i)))
    (contract : ∀ (W : World) (base : Nat) (args : Array Value) (ds gs : List (DataW H)) (before : List MemPlace),
      (∀ (j : Nat) t v, fn.params[j]? = some t → args[j]? = some v → Value.okWide C.prog W .any base t v) →
      DataW.Whole enc C.prog fn.params.toList s.vars apart W args.toList ds gs before →
      conds.all (PathCond.test C.prog ⟨fn.params.toList, ds, s.plain.varTypes C.prog, gs⟩) = true →
      (DataW.weightsEach C.prog (fn.params.toList ++ s.plain.varTypes C.prog) (ds ++ gs)).all (· ≤ reachBytes) = true → X W args → W.ShapedOpen C.prog →
      Calls C.prog f args W fun e W' => ∃ v, e = .returned v ∧ s.post enc C.prog fn apart fresh handsOn again W args v W') :
    ReturnsInHanded a C os f .any (fun w args => (s.pre enc C.prog fn conds apart w args ∧ X w args) ∧ sizedMet enc C.prog fn (OpenSpec.ofChange s) apart w args) (s.post enc C.prog fn apart fresh handsOn again) := by
  refine returnsInHanded_of_calls own started noInit witness ?_
  intro w tape i _ hsh _ hok hpre _
  obtain ⟨_, _, _, fn', hfn', _, _, _, _, hval⟩ := hok
  have e : fn' = fn := Option.some.inj (hfn'.symm.trans hfn)
  subst e
  obtain ⟨⟨⟨ds, gs, before, hw, hc⟩, hx⟩, hz⟩ := hpre
  have hw' := DataW.Whole.of_heap (w' := w.forCall tape i) (by rfl) hw
  refine (contract (w.forCall tape i) w.heap.size i.args ds gs before hval hw' hc (hz.weights hw) (hX _ _ _ (by rfl) hx) hsh).mono fun e W' ⟨v, he, hp⟩ => ?_
  subst he
  exact ChangeSpec.post_blind hp
end FN

/-! A listed variable that holds an interface value. -/
namespace FN
open Go Go.Proofs Go.RowKit
theorem laid_mem {P : Program} {W : World} : ∀ {laid : List (String × DataW Unit)} {ps : List MemPlace}, DataW.LaidVars P W laid ps → ∀ n d, (n, d) ∈ laid →
    ∃ g t cs fuel p, P.globalNamed n = some g ∧ (P.globals[g]?).map (·.type) = some t ∧ W.var? P n = some cs ∧ DataW.trod (fun _ => ()) P W 0 (fun _ => true) false fuel t cs.toList = some (d, p)
  | [], _, _, n, d, hm => by cases hm
  | (n0, d0) :: r, ps, h, n, d, hm => by
    obtain ⟨g, t, cs, fuel, p, q, h1, h2, h3, h4, h5, _⟩ := h
    rcases List.mem_cons.1 hm with hm | hm
    · injection hm with e1 e2
      subst e1; subst e2
      exact ⟨g, t, cs, fuel, p, h1, h2, h3, h4⟩
    · exact laid_mem h5 n d hm
theorem laid_iface {P : Program} {W : World} {laid : List (String × DataW Unit)} (h : laidMetH P laid W) (hp : (laid.all fun x => x.2.handleName?.isNone) = true) {n : String} {nm : String} {d : DataW Unit} (hm : (n, DataW.iface nm d) ∈ laid) {g : Nat} {t : TypeId} {ms : Array (String × TypeId)} (hg : P.globalNamed n = some g) (ht : (P.globals[g]?).map (·.type) = some t) (hi : P.underlying t = some (.interface ms)) :
    ∃ ev t' fz, W.heap[g]? = some (.cells #[ev] t' fz) ∧ (ev = .nilIface ∨ ∃ te pe, ev = .iface te pe) := by
  rw [MakeChecks.laidMetH_plain _ _ _ hp] at h
  obtain ⟨ps, hv, _, _⟩ := h
  obtain ⟨g', t', cs, fuel, p, h1, h2, h3, h4⟩ := laid_mem hv n _ hm
  obtain rfl := Option.some.inj (hg.symm.trans h1)
  obtain rfl := Option.some.inj (ht.symm.trans h2)
  obtain ⟨_, u, v, e, _, _⟩ := iface_of_trod hi h4
  have hcs : cs = #[.iface u v] := by apply Array.ext'; simpa using e
  subst hcs
  unfold World.var? at h3
  rw [hg] at h3
  simp only [Option.bind_some] at h3
  split at h3
  · rename_i hh
    exact ⟨.iface u v, _, _, by first | (injection h3 with h3; rw [h3] at hh; exact hh) | (cases h3; exact hh), .inr ⟨u, v, rfl⟩⟩
  · cases h3
end FN

/-! A listed variable that is a table of numbers. -/
namespace FN
open Go Go.Proofs Go.RowKit
theorem laid_tab {P : Program} {W : World} {laid : List (String × DataW Unit)} (h : laidMetH P laid W) (hp : (laid.all fun x => x.2.handleName?.isNone) = true) {n : String} {k : IntKind} {zs : List Int} {d : DataW Unit} (hm : (n, d) ∈ laid) (hd : d = Lib.tabData k zs) {g : Nat} {t e : TypeId} {N : Nat} (hg : P.globalNamed n = some g) (ht : (P.globals[g]?).map (·.type) = some t) (hu : P.underlying t = some (.array N e)) (he : P.underlying e = some (.int k)) (hce : P.cellsOf e = 1) (hct : P.cellsOf t = N) :
    ∃ t' fz, W.heap[g]? = some (.cells (zs.map fun z => Value.int k z).toArray t' fz) := by
  rw [MakeChecks.laidMetH_plain _ _ _ hp] at h
  obtain ⟨ps, hv, _, _⟩ := h
  obtain ⟨g', t', cs, fuel, p, h1, h2, h3, h4⟩ := laid_mem hv n _ hm
  obtain rfl := Option.some.inj (hg.symm.trans h1)
  obtain rfl := Option.some.inj (ht.symm.trans h2)
  rw [hd] at h4
  have hcs := Lib.cells_of_tab hu he hce hct h4
  unfold World.var? at h3
  rw [hg] at h3
  simp only [Option.bind_some] at h3
  split at h3
  · rename_i cs' el fz hh
    injection h3 with h3
    subst h3
    have e : cs' = (zs.map fun z => Value.int k z).toArray := by
      apply Array.ext'
      simpa using hcs
    exact ⟨el, fz, by rw [← e]; exact hh⟩
  · cases h3
end FN

/-! Numbers and lists: what the equations' proofs use. -/
namespace FN
open Go
theorem i64w {n : Int} (h0 : -9223372036854775808 ≤ n) (h1 : n ≤ 9223372036854775807) : IntKind.i64.wrap n = n := by
  simp [IntKind.wrap, IntKind.bits, IntKind.signed]
  split <;> omega
theorem cnd_t {p : Prop} [Decidable p] {α : Type} {a b : α} (h : p) : cond (decide p) a b = a := by rw [decide_eq_true h]; rfl
theorem cnd_f {p : Prop} [Decidable p] {α : Type} {a b : α} (h : ¬ p) : cond (decide p) a b = b := by rw [decide_eq_false h]; rfl
theorem beq_t {x y : Int} {α : Type} {a b : α} (h : x = y) : cond (x == y) a b = a := by rw [h]; simp
theorem beq_f {x y : Int} {α : Type} {a b : α} (h : x ≠ y) : cond (x == y) a b = b := by rw [beq_false_of_ne h]; rfl
theorem bne_t {x y : Int} {α : Type} {a b : α} (h : x ≠ y) : cond (x != y) a b = a := by rw [bne_iff_ne.2 h]; rfl
theorem bne_f {x y : Int} {α : Type} {a b : α} (h : x = y) : cond (x != y) a b = b := by rw [h]; simp
theorem bits_nat {a b : Nat} (ha : a < 9223372036854775808) (hb : b < 9223372036854775808) :
    Go.bits .and .i64 (a : Int) (b : Int) = ((a &&& b : Nat) : Int) ∧ Go.bits .or .i64 (a : Int) (b : Int) = ((a ||| b : Nat) : Int) ∧ Go.bits .xor .i64 (a : Int) (b : Int) = ((a ^^^ b : Nat) : Int) := by
  have ha' : a < 2 ^ 63 := ha
  have hb' : b < 2 ^ 63 := hb
  have e1 : (BitVec.ofInt 64 (a : Int)).toNat = a := by rw [BitVec.ofInt_natCast, BitVec.toNat_ofNat]; exact Nat.mod_eq_of_lt (by omega)
  have e2 : (BitVec.ofInt 64 (b : Int)).toNat = b := by rw [BitVec.ofInt_natCast, BitVec.toNat_ofNat]; exact Nat.mod_eq_of_lt (by omega)
  have h1 : a &&& b < 2 ^ 63 := Nat.and_lt_two_pow _ hb'
  have h2 : a ||| b < 2 ^ 63 := Nat.or_lt_two_pow ha' hb'
  have h3 : a ^^^ b < 2 ^ 63 := Nat.xor_lt_two_pow ha' hb'
  refine ⟨?_, ?_, ?_⟩
  · show IntKind.i64.wrap ((BitVec.ofInt 64 (a : Int) &&& BitVec.ofInt 64 (b : Int) : BitVec 64).toNat : Int) = _
    rw [BitVec.toNat_and, e1, e2]
    exact i64w (by omega) (by omega)
  · show IntKind.i64.wrap ((BitVec.ofInt 64 (a : Int) ||| BitVec.ofInt 64 (b : Int) : BitVec 64).toNat : Int) = _
    rw [BitVec.toNat_or, e1, e2]
    exact i64w (by omega) (by omega)
  · show IntKind.i64.wrap ((BitVec.ofInt 64 (a : Int) ^^^ BitVec.ofInt 64 (b : Int) : BitVec 64).toNat : Int) = _
    rw [BitVec.toNat_xor, e1, e2]
    exact i64w (by omega) (by omega)
theorem xor_nn {x y : Int} (hx : 0 ≤ x) (hx' : x < 9223372036854775808) (hy : 0 ≤ y) (hy' : y < 9223372036854775808) : 0 ≤ Go.bits .xor .i64 x y := by
  obtain ⟨a, rfl⟩ := Int.eq_ofNat_of_zero_le hx
  obtain ⟨b, rfl⟩ := Int.eq_ofNat_of_zero_le hy
  rw [(bits_nat (a := a) (b := b) (by omega) (by omega)).2.2]
  omega
/-- The bytes of a code. -/
def Bytes (l : List Int) : Prop := ∀ x ∈ l, 0 ≤ x ∧ x ≤ 255
theorem Bytes.get {l : List Int} (h : Bytes l) (i : Nat) : 0 ≤ l.getD i 0 ∧ l.getD i 0 ≤ 255 := by
  rw [List.getD_eq_getElem?_getD]
  cases hx : l[i]? with
  | none => simp
  | some x => exact h x (List.mem_of_getElem? hx)
end FN

/-! Loops, bits, truths. -/
namespace FN
open Go
theorem advN {P : Nat → Prop} {n : Nat} (hn : P n) (h : ∀ i, i < n → P (i + 1) → P i) : ∀ a, a ≤ n → P a := by
  intro a ha
  obtain ⟨d, rfl⟩ : ∃ d, n = a + d := ⟨n - a, by omega⟩
  induction d generalizing a with
  | zero => exact hn
  | succ d ih => exact h a (by omega) (ih (a + 1) (by rw [show a + 1 + d = a + (d + 1) by omega]; exact hn) (fun i hi => h i (by omega)) (by omega))
theorem w1 {i n : Nat} (h : i < n) (hn : n ≤ 4611686018427387904) : IntKind.i64.wrap ((i : Int) + 1) = ((i + 1 : Nat) : Int) := by
  rw [i64w (n := (i : Int) + 1) (by omega) (by omega)]; omega
theorem wsub {i : Int} (h : -4611686018427387904 ≤ i) (h' : i ≤ 4611686018427387904) : IntKind.i64.wrap (i - 1) = i - 1 := i64w (by omega) (by omega)
theorem gN {l : List Int} (i : Nat) : List.getD l ((i : Int)).toNat 0 = l.getD i 0 := by simp
theorem inN {i n : Nat} (h : i < n) : (0 : Int) ≤ (i : Int) ∧ (i : Int) < (n : Int) := ⟨by omega, by omega⟩
theorem and1 (y : Int) : Go.bits .and .i64 y 1 = y % 2 := by
  show IntKind.i64.wrap ((BitVec.ofInt 64 y &&& BitVec.ofInt 64 1 : BitVec 64).toNat : Int) = _
  rw [BitVec.toNat_and, BitVec.toNat_ofInt]
  have h1 : (BitVec.ofInt 64 1).toNat = 1 := by decide
  rw [h1, Nat.and_one_is_mod]
  rw [i64w (n := (((y % (2 ^ 64 : Nat)).toNat % 2 : Nat) : Int)) (by omega) (by omega)]
  omega
/-- A bit of a number. -/
def bt (x : Int) (i : Nat) : Int := x / 2 ^ i % 2
theorem bt01 (x : Int) (i : Nat) : bt x i = 0 ∨ bt x i = 1 := by unfold bt; omega
theorem fd (x : Int) {i : Nat} (h : i ≤ 64) : Int.fdiv x (2 ^ min ((i : Int)).toNat IntKind.i64.bits) = x / 2 ^ i := by
  rw [Int.toNat_natCast, show min i IntKind.i64.bits = i from Nat.min_eq_left h]
  exact Int.fdiv_eq_ediv_of_nonneg _ (Int.le_of_lt (Int.pow_pos (by omega)))
theorem bit_and (x : Int) {i : Nat} (h : i ≤ 64) : Go.bits .and .i64 (Int.fdiv x (2 ^ min ((i : Int)).toNat IntKind.i64.bits)) 1 = bt x i := by
  rw [fd x h, and1]; rfl
theorem bit_mod {x : Int} (hx : 0 ≤ x) {i : Nat} (h : i ≤ 64) : Int.tmod (Int.fdiv x (2 ^ min ((i : Int)).toNat IntKind.i64.bits)) 2 = bt x i := by
  rw [fd x h]
  have : 0 ≤ x / 2 ^ i := Int.ediv_nonneg hx (Int.le_of_lt (Int.pow_pos (by omega)))
  rw [Int.tmod_eq_emod_of_nonneg this]; rfl
theorem sh1 {n : Nat} (h : n ≤ 62) : IntKind.i64.wrap (1 * 2 ^ min ((n : Int)).toNat IntKind.i64.bits) = 2 ^ n := by
  rw [Int.toNat_natCast, show min n IntKind.i64.bits = n from Nat.min_eq_left (by show n ≤ 64; omega), Int.one_mul]
  have : (2 : Int) ^ n ≤ 2 ^ 62 := by
    have := Nat.pow_le_pow_right (show 0 < 2 by omega) h
    exact_mod_cast this
  have : (0 : Int) < 2 ^ n := Int.pow_pos (by omega)
  exact i64w (by omega) (by omega)
theorem pow6 {n : Nat} (h : n ≤ 6) : (2 : Int) ^ n ≤ 64 ∧ 1 ≤ (2 : Int) ^ n := by
  obtain rfl | rfl | rfl | rfl | rfl | rfl | rfl : n = 0 ∨ n = 1 ∨ n = 2 ∨ n = 3 ∨ n = 4 ∨ n = 5 ∨ n = 6 := by omega
  all_goals decide
/-- It comes to a truth, that of Q. -/
def Tells (g : Option Bool) (Q : Prop) : Prop := ∃ r, g = some r ∧ (r = true ↔ Q)
theorem Tells.iff {g : Option Bool} {Q Q' : Prop} (k : Tells g Q) (h : Q ↔ Q') : Tells g Q' := by
  obtain ⟨r, h1, h2⟩ := k
  exact ⟨r, h1, h2.trans h⟩
theorem Tells.eq {g f : Option Bool} {Q : Prop} (h : g = f) (k : Tells f Q) : Tells g Q := h ▸ k
theorem Tells.no {Q : Prop} (h : ¬ Q) : Tells (some false) Q := ⟨false, rfl, by simp [h]⟩
theorem Tells.yes {Q : Prop} (h : Q) : Tells (some true) Q := ⟨true, rfl, by simp [h]⟩
theorem Tells.now {b : Bool} : Tells (some b) (b = true) := ⟨b, rfl, Iff.rfl⟩
theorem Tells.dec {Q : Prop} [Decidable Q] : Tells (some (decide Q)) Q := ⟨_, rfl, by simp⟩
theorem Tells.val {g : Option Bool} {Q : Prop} [Decidable Q] (k : Tells g Q) : g = some (decide Q) := by
  obtain ⟨r, h1, h2⟩ := k
  have : r = decide Q := by rw [Bool.eq_iff_iff]; simpa using h2
  exact this ▸ h1
theorem l1In_val (n a b : Int) : s_l1In_f (n, a, b) = some (decide (a ≤ n ∧ n ≤ b)) := by
  rw [s_l1In_f_eq]
  by_cases h : a ≤ n
  · rw [cnd_t h]; simp [h]
  · rw [cnd_f h]; simp [h]
end FN

/-! Numerals of two digits. -/
namespace FN
open Go
/-- The one-digit text; the last digit. -/
def dg1 (n : Int) : ByteArray := strOfNums ([(IntKind.u8.wrap (IntKind.i64.wrap (48 + (if 0 > n then 0 else n))))] : List (Int))
def dgL (n : Int) : ByteArray := strOfNums ([(IntKind.u8.wrap (IntKind.i64.wrap (48 + (Int.tmod n 10))))] : List (Int))
theorem ba_ext {a b : ByteArray} (h : a.data.toList = b.data.toList) : a = b := by
  cases a; cases b; congr 1; exact Array.ext' h
theorem dg_all : (List.range 100).all (fun n => (if n < 10 then decide ((dg1 (n : Int)).data.toList = (itoaS (n : Int)).data.toList) else decide ((dg1 (IntKind.i64.wrap (Int.tdiv (n : Int) 10)) ++ dgL (n : Int)).data.toList = (itoaS (n : Int)).data.toList)) && decide ((itoaS (n : Int)).size ≤ 2) && decide ((dg1 (IntKind.i64.wrap (Int.tdiv (n : Int) 10))).size + (dgL (n : Int)).size ≤ 10)) = true := by kernel_rfl
theorem dg_at {n : Int} (h0 : 0 ≤ n) (h1 : n < 100) : (if n < 10 then dg1 n = itoaS n else dg1 (IntKind.i64.wrap (Int.tdiv n 10)) ++ dgL n = itoaS n) ∧ (itoaS n).size ≤ 2 ∧ (dg1 (IntKind.i64.wrap (Int.tdiv n 10))).size + (dgL n).size ≤ 10 := by
  obtain ⟨m, rfl⟩ : ∃ m : Nat, n = m := ⟨n.toNat, by omega⟩
  have h := List.all_eq_true.1 dg_all m (List.mem_range.2 (by omega))
  simp only [Bool.and_eq_true, decide_eq_true_eq] at h
  obtain ⟨⟨h2, h3⟩, h4⟩ := h
  refine ⟨?_, h3, h4⟩
  by_cases c : m < 10
  · rw [if_pos c] at h2; rw [if_pos (by omega)]; exact ba_ext (of_decide_eq_true h2)
  · rw [if_neg c] at h2; rw [if_neg (by omega)]; exact ba_ext (of_decide_eq_true h2)
theorem num_g0 (x : Int) : s_l1Number_g 0 x = none := rfl
theorem num_low (k : Nat) {n : Int} (h : n < 10) : s_l1Number_g (k + 1) n = some (dg1 n) := by
  rw [s_l1Number_g_eq, cnd_t h]
  rfl
theorem num_two (k : Nat) {n : Int} (h0 : 10 ≤ n) (h1 : n < 100) : s_l1Number_g (k + 2) n = some (dg1 (IntKind.i64.wrap (Int.tdiv n 10)) ++ dgL n) := by
  have hd : IntKind.i64.wrap (Int.tdiv n 10) < 10 := by
    rw [Int.tdiv_eq_ediv_of_nonneg (by omega), i64w (by omega) (by omega)]
    omega
  rw [s_l1Number_g_eq, cnd_f (by omega), num_low k hd, Option.bind_some]
  have := (dg_at (show 0 ≤ n by omega) h1).2.2
  exact if_pos (show (dg1 (IntKind.i64.wrap (Int.tdiv n 10))).size + (dgL n).size ≤ 9223372036854775807 by omega)
theorem num_val {n : Int} (h0 : 0 ≤ n) (h1 : n < 100) : s_l1Number_f n = some (itoaS n) := by
  have ha := (dg_at h0 h1).1
  by_cases c : n < 10
  · rw [if_pos c] at ha
    refine lim_of ⟨1, (num_low 0 c).trans (by rw [ha])⟩ fun k r hk => ?_
    cases k with
    | zero => rw [num_g0] at hk; cases hk
    | succ k => rw [num_low k c, ha] at hk; exact (Option.some.inj hk).symm
  · rw [if_neg c] at ha
    refine lim_of ⟨2, (num_two 0 (by omega) h1).trans (by rw [ha])⟩ fun k r hk => ?_
    match k with
    | 0 => rw [num_g0] at hk; cases hk
    | 1 =>
      rw [s_l1Number_g_eq, cnd_f c, num_g0] at hk
      cases hk
    | k + 2 => rw [num_two k (by omega) h1, ha] at hk; exact (Option.some.inj hk).symm
theorem itoa_size {n : Int} (h0 : 0 ≤ n) (h1 : n < 100) : (itoaS n).size ≤ 2 := (dg_at h0 h1).2.1
theorem itoa_val {n : Int} (h0 : 0 ≤ n) (h1 : n < 100) : x_strconv_Itoa_f n = some (itoaS n) := if_pos ⟨h0, h1⟩
end FN

namespace FN
open Go
theorem joinT : str10 ++ str1 = str0 := rfl
theorem lightS : str11 ++ str1 = str2 := rfl
theorem kindsS : str12 ++ str1 = str3 := rfl
theorem szs : ByteArray.size str0 = 5 ∧ ByteArray.size str1 = 1 ∧ ByteArray.size str2 = 6 ∧ ByteArray.size str3 = 6 ∧ ByteArray.size str10 = 4 ∧ ByteArray.size str11 = 5 ∧ ByteArray.size str12 = 5 := ⟨rfl, rfl, rfl, rfl, rfl, rfl, rfl⟩
theorem deedText_same (k a b : Int) : ∃ s, s_DeedText_f (k, a, b) = some s ∧ i_DeedText_f (k, a, b) = some s ∧ s.size ≤ 20 := by
  rw [s_DeedText_f_eq, i_DeedText_f_eq, l1In_val, Option.bind_some]
  by_cases ha : 0 ≤ a ∧ a ≤ 99
  · rw [decide_eq_true ha, l1In_val, Option.bind_some, cnd_f (show ¬ a < 0 by omega), cnd_f (show ¬ 99 < a by omega), Bool.not_true, cond_false]
    by_cases hb : 0 ≤ b ∧ b ≤ 99
    · rw [decide_eq_true hb, cnd_f (show ¬ b < 0 by omega), cnd_f (show ¬ 99 < b by omega), Bool.not_true, cond_false]
      obtain ⟨z0, z1, z2, z3, z10, z11, z12⟩ := szs
      have sa := itoa_size ha.1 (show a < 100 by omega)
      have sb := itoa_size hb.1 (show b < 100 by omega)
      have na := num_val ha.1 (show a < 100 by omega)
      have nb := num_val hb.1 (show b < 100 by omega)
      have ia := itoa_val ha.1 (show a < 100 by omega)
      have ib := itoa_val hb.1 (show b < 100 by omega)
      rw [ia, Option.bind_some, if_pos (by rw [z1]; omega)]
      by_cases k0 : k = 0
      · subst k0
        refine ⟨((str0 ++ itoaS a) ++ str1) ++ itoaS b, ?_, ?_, by rw [ByteArray.size_append, ByteArray.size_append, ByteArray.size_append, z0, z1]; omega⟩
        · simp only [beq_self_eq_true, Bool.true_and, cond_true]
          rw [na, Option.bind_some, if_pos (by rw [z0]; omega), if_pos (by rw [ByteArray.size_append, z0, z1]; omega), nb, Option.bind_some, if_pos (by rw [ByteArray.size_append, ByteArray.size_append, z0, z1]; omega)]
        · rw [show ((0 : Int) == 0) = true from rfl, cond_true, if_pos (by rw [ByteArray.size_append, z10, z1]; omega), if_pos (by rw [ByteArray.size_append, ByteArray.size_append, z10, z1]; omega), ib, Option.bind_some, if_pos (by rw [ByteArray.size_append, ByteArray.size_append, ByteArray.size_append, z10, z1]; omega), ← ByteArray.append_assoc, joinT]
      · have e0 : (k == 0) = false := by simpa using k0
        rw [e0]
        simp only [Bool.false_and, cond_false, beq_self_eq_true, Bool.true_and, Bool.and_true]
        by_cases hb0 : b = 0
        · subst hb0
          simp only [bne_self_eq_false, cond_false, beq_self_eq_true, Bool.and_true]
          by_cases k1 : k = 1
          · subst k1
            refine ⟨str2 ++ itoaS a, ?_, ?_, by rw [ByteArray.size_append, z2]; omega⟩
            · rw [show ((1 : Int) == 1) = true from rfl, cond_true, na, Option.bind_some, if_pos (by rw [z2]; omega)]
            · rw [show ((1 : Int) == 1) = true from rfl, cond_true, if_pos (by rw [ByteArray.size_append, z11, z1]; omega), ← ByteArray.append_assoc, lightS]
          · have e1 : (k == 1) = false := by simpa using k1
            rw [e1]
            simp only [cond_false]
            by_cases k3 : k = 3
            · subst k3
              refine ⟨str3 ++ itoaS a, ?_, ?_, by rw [ByteArray.size_append, z3]; omega⟩
              · rw [show ((3 : Int) == 3) = true from rfl, cond_true, na, Option.bind_some, if_pos (by rw [z3]; omega)]
              · rw [show ((3 : Int) == 3) = true from rfl, cond_true, if_pos (by rw [ByteArray.size_append, z12, z1]; omega), ← ByteArray.append_assoc, kindsS]
            · have e3 : (k == 3) = false := by simpa using k3
              rw [e3]
              simp only [cond_false]
              by_cases ha0 : a = 0
              · subst ha0
                simp only [bne_self_eq_false, cond_false, beq_self_eq_true, Bool.and_true]
                by_cases k2 : k = 2
                · subst k2; exact ⟨str4, rfl, rfl, by decide⟩
                · have e2 : (k == 2) = false := by simpa using k2
                  rw [e2]
                  by_cases k4 : k = 4
                  · subst k4; exact ⟨str5, rfl, rfl, by decide⟩
                  · have e4 : (k == 4) = false := by simpa using k4
                    rw [e4]
                    exact ⟨_, rfl, rfl, by decide⟩
              · have ea : (a == 0) = false := by simpa using ha0
                have ea' : (a != 0) = true := by simpa using ha0
                rw [ea, ea']
                simp only [Bool.and_false, cond_false, cond_true]
                exact ⟨_, rfl, rfl, by decide⟩
        · have eb : (b == 0) = false := by simpa using hb0
          have eb' : (b != 0) = true := by simpa using hb0
          rw [eb, eb']
          simp only [Bool.and_false, cond_false, cond_true]
          exact ⟨_, rfl, rfl, by decide⟩
    · rw [decide_eq_false hb]
      by_cases c : b < 0
      · rw [cnd_t c]; exact ⟨_, rfl, rfl, by decide⟩
      · rw [cnd_f c, cnd_t (show 99 < b by omega)]; exact ⟨_, rfl, rfl, by decide⟩
  · rw [decide_eq_false ha]
    by_cases c : a < 0
    · rw [cnd_t c]; exact ⟨_, rfl, rfl, by decide⟩
    · rw [cnd_f c, cnd_t (show 99 < a by omega)]; exact ⟨_, rfl, rfl, by decide⟩
end FN

/-! Texts cut at a byte. -/
namespace FN
open Go
def cutL (c : UInt8) : List UInt8 → List (List UInt8)
  | [] => [[]]
  | x :: l => if x = c then [] :: cutL c l else match cutL c l with
    | [] => [[x]]
    | y :: ys => (x :: y) :: ys
theorem cutL_ne (c : UInt8) : ∀ l, cutL c l ≠ []
  | [] => by simp [cutL]
  | x :: l => by
    unfold cutL
    split
    · simp
    · split <;> simp
/-- A beginning put ahead of the first part. -/
def preL (p : List UInt8) : List (List UInt8) → List (List UInt8)
  | [] => [p]
  | y :: ys => (p ++ y) :: ys
theorem cutL_eq (c : UInt8) (l : List UInt8) : cutL c (c :: l) = [] :: cutL c l := by simp [cutL]
theorem cutL_neq {c x : UInt8} (h : x ≠ c) (l : List UInt8) : cutL c (x :: l) = preL [x] (cutL c l) := by
  rw [cutL, if_neg h]
  cases hh : cutL c l with
  | nil => exact absurd hh (cutL_ne c l)
  | cons y ys => rfl
theorem preL_preL (p q : List UInt8) (z : List (List UInt8)) : preL p (preL q z) = preL (p ++ q) z := by
  cases z with
  | nil => rfl
  | cons y ys => simp [preL, List.append_assoc]
theorem preL_nil {z : List (List UInt8)} (h : z ≠ []) : preL [] z = z := by
  cases z with
  | nil => exact absurd rfl h
  | cons y ys => rfl
/-- No such byte in what is ahead. -/
theorem cutL_pre {c : UInt8} : ∀ (a : List UInt8), c ∉ a → ∀ b, cutL c (a ++ b) = preL a (cutL c b)
  | [], _, b => (preL_nil (cutL_ne c b)).symm
  | x :: a, h, b => by
    have h1 : x ≠ c := fun e => h (by rw [e]; simp)
    have h2 : c ∉ a := fun e => h (by simp [e])
    rw [List.cons_append, cutL_neq h1, cutL_pre a h2 b, preL_preL]
    rfl
theorem cutL_one {c : UInt8} {a : List UInt8} (h : c ∉ a) : cutL c a = [a] := by
  have := cutL_pre a h []
  rw [List.append_nil] at this
  rw [this]
  simp [cutL, preL]
theorem cutL_sep {c : UInt8} {a : List UInt8} (h : c ∉ a) (b : List UInt8) : cutL c (a ++ c :: b) = a :: cutL c b := by
  rw [cutL_pre a h, cutL_eq]
  simp [preL]
/-- The library's cut is this one. -/
theorem splitK_cut (c : UInt8) : ∀ l : List UInt8, Lib.splitK [c] 0 (Lib.count l [c]) l = cutL c l
  | [] => by rw [Lib.count_miss (by simp [Lib.index])]; rfl
  | x :: l => by
    have ih := splitK_cut c l
    by_cases h : x = c
    · subst h
      have hix : Lib.index (x :: l) [x] = ((0 : Nat) : Int) := by rw [Lib.index]; simp [List.isPrefixOf]
      rw [Lib.count_cons_eq, Nat.add_comm, Lib.splitK, hix, cutL_eq]
      simp only [List.length_cons, List.length_nil, Nat.zero_add, List.drop_succ_cons, List.drop_zero]
      rw [if_neg (by simp)]
      simp only [show ((0 : Nat) : Int).toNat = 0 from rfl, Nat.add_zero, List.take_zero, List.drop_zero]
      rw [ih]
    · have hp : ([c] : List UInt8).isPrefixOf (x :: l) = false := by simp [List.isPrefixOf, Ne.symm h]
      have hix : Lib.index (x :: l) [c] = if Lib.index l [c] == -1 then -1 else Lib.index l [c] + 1 := by rw [Lib.index, hp]; simp
      rw [Lib.count_cons_ne x c l h, cutL_neq h, ← ih]
      cases hk : Lib.count l [c] with
      | zero => rfl
      | succ k =>
        by_cases hm : Lib.index l [c] = -1
        · rw [Lib.count_miss hm] at hk; cases hk
        · have hge := Lib.index_ge l [c]
          obtain ⟨j, hj⟩ : ∃ j : Nat, Lib.index l [c] = j := ⟨(Lib.index l [c]).toNat, by omega⟩
          rw [Lib.splitK, Lib.splitK, hix, if_neg (by rw [if_neg (by simpa using hm)]; simp; omega), if_neg (by simpa using hm), if_neg (by simpa using hm), hj]
          rw [show ((j : Int) + 1).toNat = j + 1 by omega, show (j : Int).toNat = j by omega]
          simp [preL]
def ofL (l : List UInt8) : ByteArray := ⟨l.toArray⟩
theorem ofL_data (l : List UInt8) : (ofL l).data.toList = l := rfl
theorem of_data (b : ByteArray) : ofL b.data.toList = b := by cases b; simp [ofL]
theorem ofL_size (l : List UInt8) : (ofL l).size = l.length := by simp [ofL, ByteArray.size]
theorem ofL_inj {a b : List UInt8} (h : ofL a = ofL b) : a = b := by
  have := congrArg (fun x : ByteArray => x.data.toList) h
  exact this
theorem toL (b : ByteArray) : b.toList = b.data.toList := by rw [ByteArray.toList_eq]
theorem ofL_app (a b : List UInt8) : ofL a ++ ofL b = ofL (a ++ b) := by
  rw [← of_data (ofL a ++ ofL b)]
  congr 1
theorem map_data : ∀ {a b : List ByteArray}, a.map (·.data.toList) = b.map (·.data.toList) → a = b
  | [], [], _ => rfl
  | x :: a, y :: b, h => by
    simp only [List.map_cons, List.cons.injEq] at h
    rw [map_data h.2, ← of_data x, ← of_data y, h.1]
theorem splitS_cut (s : ByteArray) (c : UInt8) : Lib.splitB ⟨#[c]⟩ 0 (Lib.countB s ⟨#[c]⟩) s = (cutL c s.data.toList).map ofL := by
  apply map_data
  rw [Lib.splitB_data]
  have : (List.map ofL (cutL c s.data.toList)).map (·.data.toList) = cutL c s.data.toList := by
    rw [List.map_map]
    exact (List.map_congr_left fun a _ => ofL_data a).trans (List.map_id _)
  rw [this, ← splitK_cut]
theorem cutL_len (c : UInt8) : ∀ l : List UInt8, (cutL c l).length ≤ l.length + 1
  | [] => by simp [cutL]
  | x :: l => by
    have := cutL_len c l
    by_cases h : x = c
    · subst h; rw [cutL_eq]; simp; omega
    · rw [cutL_neq h]
      cases hz : cutL c l with
      | nil => exact absurd hz (cutL_ne c l)
      | cons y ys => rw [hz] at this; simp [preL] at this ⊢; omega
theorem ext_of (l : List UInt8) (a b : Nat) : (ofL l).extract a b = ofL ((l.take b).drop a) := by
  rw [← of_data ((ofL l).extract a b)]
  congr 1
  rw [Lib.extract_data, ofL_data, List.take_drop]
  rcases Nat.le_total a b with h | h
  · rw [show a + (b - a) = b by omega]
  · rw [List.drop_eq_nil_of_le (by rw [List.length_take]; omega), List.drop_eq_nil_of_le (by rw [List.length_take]; omega)]
end FN

/-! Both cuts, and digits. -/
namespace FN
open Go
theorem cut_loop (L : List UInt8) (c : UInt8) (hL : L.length ≤ 1099511627776) : ∀ k, k ≤ L.length → ∀ (f : Nat) (out : List ByteArray), f ≤ k → out.length ≤ k →
    s_l1Cut_l0 (ofL L) (c.toNat : Int) (f : Int) (k : Int) out = some (out ++ (preL ((L.take k).drop f) (cutL c (L.drop k))).map ofL) := by
  refine advN ?_ fun k hk ih => ?_
  · intro f out hf ho
    rw [s_l1Cut_l0_eq, ofL_size, cnd_f (by omega), s_l1Cut_j1_eq, ofL_size, if_pos ⟨by omega, by omega⟩, if_pos (by simp; omega), ext_of, Int.toNat_natCast]
    simp [cutL, preL]
  · intro f out hf ho
    have hx : L.drop k = L[k] :: L.drop (k + 1) := List.drop_eq_getElem_cons hk
    have hg : List.getD (ByteArray.data (ofL L)).toList ((k : Int)).toNat 0 = L[k] := by
      rw [ofL_data, Int.toNat_natCast, List.getD_eq_getElem?_getD, List.getElem?_eq_getElem hk]; rfl
    rw [s_l1Cut_l0_eq, ofL_size, cnd_t (by omega), if_pos ⟨by omega, by omega⟩, hg, hx, w1 hk (by omega)]
    by_cases hc : L[k] = c
    · rw [beq_t (by rw [hc]), if_pos ⟨by omega, by omega⟩, if_pos ⟨by omega, by omega⟩, if_pos (by simp; omega), ext_of, Int.toNat_natCast, Int.toNat_natCast, ih (k + 1) _ (by omega) (by simp; omega), hc, cutL_eq]
      have e : (L.take (k + 1)).drop (k + 1) = [] := List.drop_eq_nil_of_le (by rw [List.length_take]; omega)
      rw [e, preL_nil (cutL_ne _ _)]
      simp [preL]
    · have hne : (L[k].toNat : Int) ≠ (c.toNat : Int) := fun h => hc (UInt8.toNat_inj.1 (by omega))
      rw [beq_f hne, ih f out (by omega) (by omega), cutL_neq hc, preL_preL]
      have e : (L.take (k + 1)).drop f = (L.take k).drop f ++ [L[k]] := by
        rw [List.take_succ_eq_append_getElem hk, List.drop_append_of_le_length (by rw [List.length_take]; omega)]
      rw [e]
theorem cut_val (L : List UInt8) (c : UInt8) (hL : L.length ≤ 1099511627776) : s_l1Cut_f (ofL L, (c.toNat : Int)) = some ((cutL c L).map ofL) := by
  rw [s_l1Cut_f_eq]
  have := cut_loop L c hL 0 (by omega) 0 [] (by omega) (by simp)
  simp only [List.take_zero, List.drop_nil, List.drop_zero, List.nil_append] at this
  rw [preL_nil (cutL_ne _ _)] at this
  exact this
theorem split_val (L : List UInt8) (c : UInt8) (hL : L.length ≤ 4294967280) : x_strings_Split_f (ofL L, ⟨#[c]⟩) = some ((cutL c L).map ofL) := by
  have e : splitS (ofL L) ⟨#[c]⟩ = (cutL c L).map ofL := splitS_cut (ofL L) c
  have h1 : 1 ≤ (⟨#[c]⟩ : ByteArray).size := Nat.le_refl 1
  have hl : (splitS (ofL L) ⟨#[c]⟩).length = Lib.countB (ofL L) ⟨#[c]⟩ + 1 := Lib.splitB_all _ h1 0 _ _ rfl
  have hlen := cutL_len c L
  unfold x_strings_Split_f
  simp only
  rw [if_pos, e]
  refine ⟨by rw [ofL_size]; omega, h1, hl.symm, ?_⟩
  rw [e, List.length_map]
  show _ ≤ 9223372036854775807
  omega
def dig (x : UInt8) : Int := (x.toNat : Int) - 48
theorem u8lt (x : UInt8) : x.toNat < 256 := x.toNat_lt
theorem u8w {n : Int} (h0 : 0 ≤ n) (h1 : n ≤ 255) : IntKind.u8.wrap n = n := by
  simp [IntKind.wrap, IntKind.bits, IntKind.signed]
  omega
/-- A byte as a digit. -/
theorem dgt {L : List UInt8} {k : Nat} (hk : k < L.length) : List.getD (ByteArray.data (ofL L)).toList ((k : Int)).toNat 0 = L[k] := by
  rw [ofL_data, Int.toNat_natCast, List.getD_eq_getElem?_getD, List.getElem?_eq_getElem hk]; rfl
theorem digits_step {L : List UInt8} {k : Nat} (hk : k < L.length) (hl : L.length ≤ 6) {n : Int} (hn : 0 ≤ n) (hn' : n ≤ 1000000) : s_l1Digits_l0 (ofL L) n (k : Int) = if 48 ≤ L[k].toNat ∧ L[k].toNat ≤ 57 then s_l1Digits_l0 (ofL L) (10 * n + dig L[k]) ((k + 1 : Nat) : Int) else some (-1) := by
  have hb := u8lt L[k]
  rw [s_l1Digits_l0_eq, ofL_size, cnd_t (by omega), if_pos (inN hk), dgt hk, if_pos (inN hk), if_pos (inN hk), w1 hk (by omega)]
  by_cases h1 : 48 ≤ L[k].toNat
  · rw [cnd_f (by omega)]
    by_cases h2 : L[k].toNat ≤ 57
    · rw [cnd_f (by omega), if_pos ⟨h1, h2⟩, u8w (by omega) (by omega), i64w (n := 10 * n) (by omega) (by omega), i64w (n := (L[k].toNat : Int) - 48) (by omega) (by omega), i64w (by omega) (by omega)]
      rfl
    · rw [cnd_t (by omega), if_neg (by omega)]
  · rw [cnd_t (by omega), if_neg (by omega)]
theorem digits_end {L : List UInt8} {n : Int} : s_l1Digits_l0 (ofL L) n (L.length : Int) = some n := by
  rw [s_l1Digits_l0_eq, ofL_size, cnd_f (by omega)]
theorem digits_one (x : UInt8) : s_l1Digits_f (ofL [x]) = some (if 48 ≤ x.toNat ∧ x.toNat ≤ 57 then dig x else -1) := by
  rw [s_l1Digits_f_eq, ofL_size, l1In_val, Option.bind_some, cnd_f (show ¬ (1 : Int) < (([x] : List UInt8).length : Int) by simp)]
  rw [show (!decide (1 ≤ (([x] : List UInt8).length : Int) ∧ (([x] : List UInt8).length : Int) ≤ 6)) = false from rfl, cond_false]
  have h := digits_step (L := [x]) (k := 0) (by simp) (by simp) (n := 0) (by omega) (by omega)
  have e := digits_end (L := [x]) (n := 10 * 0 + dig x)
  refine h.trans ?_
  by_cases hc : 48 ≤ x.toNat ∧ x.toNat ≤ 57
  · rw [if_pos hc]
    refine (if_pos (show 48 ≤ ([x] : List UInt8)[0].toNat ∧ ([x] : List UInt8)[0].toNat ≤ 57 from hc)).trans (e.trans ?_)
    rw [Int.mul_zero, Int.zero_add]
  · rw [if_neg hc]
    exact if_neg (show ¬ (48 ≤ ([x] : List UInt8)[0].toNat ∧ ([x] : List UInt8)[0].toNat ≤ 57) from hc)
theorem digits_more {L : List UInt8} (h2 : 2 ≤ L.length) (h6 : L.length ≤ 6) : ∀ k, k ≤ L.length → ∀ n : Int, (2 ≤ k → 10 ≤ n) → (k = 1 → 1 ≤ n) → (k = 0 → n = 0 ∧ ∀ h : 0 < L.length, L[0].toNat ≠ 48) → 0 ≤ n → n + 1 ≤ ((10 ^ k : Nat) : Int) → ∃ v : Int, s_l1Digits_l0 (ofL L) n (k : Int) = some v ∧ (v = -1 ∨ 10 ≤ v ∧ v ≤ 999999) := by
  refine advN ?_ fun k hk ih => ?_
  · intro n a1 _ _ _ a5
    refine ⟨n, digits_end, .inr ⟨a1 h2, ?_⟩⟩
    have : (10 : Nat) ^ L.length ≤ 10 ^ 6 := Nat.pow_le_pow_right (by omega) h6
    have e : (10 : Nat) ^ 6 = 1000000 := rfl
    omega
  · intro n a1 a2 a3 a4 a5
    have hp : (10 : Nat) ^ k ≤ 10 ^ 5 := Nat.pow_le_pow_right (by omega) (by omega)
    have e5 : (10 : Nat) ^ 5 = 100000 := rfl
    rw [digits_step hk h6 a4 (by omega)]
    split
    · rename_i hd
      have hdd : dig L[k] = (L[k].toNat : Int) - 48 := rfl
      have hps : (10 : Nat) ^ (k + 1) = 10 ^ k * 10 := Nat.pow_succ 10 k
      refine ih (10 * n + dig L[k]) (fun _ => ?_) (fun h => ?_) (fun h => by omega) (by omega) (by omega)
      · rcases Nat.eq_zero_or_pos k with h0 | h0
        · omega
        · rcases Nat.lt_or_ge k 2 with h1 | h1
          · have := a2 (by omega); omega
          · have := a1 h1; omega
      · have h0 : k = 0 := by omega
        subst h0
        have := (a3 rfl).2 (by omega)
        omega
    · exact ⟨-1, rfl, .inl rfl⟩
theorem digits_other {L : List UInt8} (h : L.length ≠ 1) : ∃ v : Int, s_l1Digits_f (ofL L) = some v ∧ (v = -1 ∨ 10 ≤ v ∧ v ≤ 999999) := by
  rw [s_l1Digits_f_eq, ofL_size, l1In_val, Option.bind_some]
  by_cases hl : 2 ≤ L.length ∧ L.length ≤ 6
  · rw [decide_eq_true (show 1 ≤ (L.length : Int) ∧ (L.length : Int) ≤ 6 by omega), Bool.not_true, cond_false, cnd_t (show (1 : Int) < (L.length : Int) by omega), if_pos (show (0 : Int) ≤ 0 ∧ (0 : Int) < (L.length : Int) by omega)]
    have h0 : 0 < L.length := by omega
    have hg := dgt (L := L) (k := 0) h0
    rw [show List.getD (ByteArray.data (ofL L)).toList ((0 : Int)).toNat 0 = L[0] from hg]
    by_cases c : L[0].toNat = 48
    · rw [beq_t (by omega)]; exact ⟨-1, rfl, .inl rfl⟩
    · rw [beq_f (by omega)]
      exact digits_more hl.1 hl.2 0 (by omega) 0 (fun h => by omega) (fun h => by omega) (fun _ => ⟨rfl, fun _ => c⟩) (by omega) (by simp)
  · rw [decide_eq_false (show ¬ (1 ≤ (L.length : Int) ∧ (L.length : Int) ≤ 6) by omega)]
    exact ⟨-1, rfl, .inl rfl⟩
end FN

/-! Nets, states, places: the program and the reference judge them alike. -/
namespace FN
open Go
structure NetP (l : List Int) : Prop where
  lo : 1 ≤ l.length
  hi : l.length ≤ 6
  rng : ∀ i, i < l.length → 0 ≤ l.getD i 0 ∧ l.getD i 0 < 2 ^ l.length
  sym : ∀ i, i < l.length → ∀ k, k < l.length → bt (l.getD i 0) k = bt (l.getD k 0) i
  self : ∀ i, i < l.length → bt (l.getD i 0) i = 0
instance (l : List Int) : Decidable (NetP l) :=
  decidable_of_iff (1 ≤ l.length ∧ l.length ≤ 6 ∧ (∀ i, i < l.length → 0 ≤ l.getD i 0 ∧ l.getD i 0 < 2 ^ l.length) ∧ (∀ i, i < l.length → ∀ k, k < l.length → bt (l.getD i 0) k = bt (l.getD k 0) i) ∧ (∀ i, i < l.length → bt (l.getD i 0) i = 0))
    ⟨fun ⟨a, b, c, d, e⟩ => ⟨a, b, c, d, e⟩, fun h => ⟨h.1, h.2, h.3, h.4, h.5⟩⟩
theorem inet_inner (l : List Int) (hn : l.length ≤ 6) (i : Nat) (hi : i < l.length) (x : Int) (Q : Prop)
    (hnext : Tells (i_NetOk_l0 l l (l.length : Int) ((i + 1 : Nat) : Int)) Q) : ∀ j, j ≤ l.length → Tells (i_NetOk_l1 l (i : Int) x l (l.length : Int) (i : Int) (l.length : Int) (j : Int)) ((∀ k, j ≤ k → k < l.length → bt x k = bt (l.getD k 0) i) ∧ Q) := by
  refine advN ?_ fun j hj ih => ?_
  · refine (Tells.eq ?_ hnext).iff ⟨fun h => ⟨fun k h1 h2 => by omega, h⟩, fun h => h.2⟩
    rw [i_NetOk_l1_eq, cnd_f (by omega), w1 hi (by omega)]
  · have e : i_NetOk_l1 l (i : Int) x l (l.length : Int) (i : Int) (l.length : Int) (j : Int) = cond (bt x j != bt (l.getD j 0) i) (some false) (i_NetOk_l1 l (i : Int) x l (l.length : Int) (i : Int) (l.length : Int) ((j + 1 : Nat) : Int)) := by
      rw [i_NetOk_l1_eq, cnd_t (by omega), if_neg (by omega), if_pos (inN hj), if_neg (by omega), bit_and x (by omega), gN, bit_and _ (by omega), w1 hj (by omega)]
    by_cases c : bt x j = bt (l.getD j 0) i
    · refine (Tells.eq (e.trans (bne_f c)) ih).iff ⟨fun h => ⟨fun k h1 h2 => ?_, h.2⟩, fun h => ⟨fun k h1 h2 => h.1 k (by omega) h2, h.2⟩⟩
      by_cases he : k = j
      · rw [he]; exact c
      · exact h.1 k (by omega) h2
    · exact Tells.eq (e.trans (bne_t c)) (Tells.no fun h => c (h.1 j (Nat.le_refl j) hj))
theorem inet_outer (l : List Int) (hn : l.length ≤ 6) : ∀ i, i ≤ l.length → Tells (i_NetOk_l0 l l (l.length : Int) (i : Int)) (∀ k, i ≤ k → k < l.length → (0 ≤ l.getD k 0 ∧ l.getD k 0 < 2 ^ l.length ∧ bt (l.getD k 0) k = 0) ∧ ∀ m, m < l.length → bt (l.getD k 0) m = bt (l.getD m 0) k) := by
  refine advN ?_ fun i hi ih => ?_
  · refine Tells.eq ?_ (Tells.yes fun k h1 h2 => by omega)
    rw [i_NetOk_l0_eq, cnd_f (by omega)]
  · have e : i_NetOk_l0 l l (l.length : Int) (i : Int) = cond (decide (l.getD i 0 < 0)) (some false) (cond (decide (2 ^ l.length ≤ l.getD i 0)) (some false) (cond (bt (l.getD i 0) i == 1) (some false) (i_NetOk_l1 l (i : Int) (l.getD i 0) l (l.length : Int) (i : Int) (l.length : Int) ((0 : Nat) : Int)))) := by
      rw [i_NetOk_l0_eq, cnd_t (by omega), if_pos (inN hi), if_neg (by omega), if_neg (by omega), sh1 (by omega), bit_and _ (by omega), gN]; rfl
    rw [e]
    by_cases a1 : l.getD i 0 < 0
    · rw [cnd_t a1]; exact Tells.no fun h => by have := (h i (Nat.le_refl i) hi).1.1; omega
    rw [cnd_f a1]
    by_cases a2 : 2 ^ l.length ≤ l.getD i 0
    · rw [cnd_t a2]; exact Tells.no fun h => by have := (h i (Nat.le_refl i) hi).1.2.1; omega
    rw [cnd_f a2]
    by_cases a3 : bt (l.getD i 0) i = 1
    · rw [beq_t a3]; exact Tells.no fun h => by have := (h i (Nat.le_refl i) hi).1.2.2; omega
    rw [beq_f a3]
    refine (inet_inner l hn i hi _ _ ih 0 (by omega)).iff ⟨fun h k h1 h2 => ?_, fun h => ⟨fun k _ h2 => (h i (Nat.le_refl i) hi).2 k h2, fun k h1 h2 => h k (by omega) h2⟩⟩
    by_cases he : k = i
    · subst he
      exact ⟨⟨by omega, by omega, by have := bt01 (l.getD k 0) k; omega⟩, fun m hm => h.1 m (by omega) hm⟩
    · exact h.2 k (by omega) h2
theorem inet (l : List Int) : i_NetOk_f l = some (decide (NetP l)) := by
  apply Tells.val
  rw [i_NetOk_f_eq]
  by_cases h1 : (l.length : Int) < 1
  · rw [cnd_t h1]; exact Tells.no fun h => by have := h.lo; omega
  rw [cnd_f h1]
  by_cases h2 : 6 < (l.length : Int)
  · rw [cnd_t h2]; exact Tells.no fun h => by have := h.hi; omega
  rw [cnd_f h2]
  refine (inet_outer l (by omega) 0 (by omega)).iff ⟨fun h => ?_, fun h => ?_⟩
  · exact ⟨by omega, by omega, fun i a => ⟨(h i (by omega) a).1.1, (h i (by omega) a).1.2.1⟩, fun i a k b => (h i (by omega) a).2 k b, fun i a => (h i (by omega) a).1.2.2⟩
  · exact fun i _ a => ⟨⟨(h.rng i a).1, (h.rng i a).2, h.self i a⟩, fun m b => h.sym i a m b⟩
/-! the reference -/
theorem snet_inner (l : List Int) (hn : l.length ≤ 6) (hr : ∀ i, i < l.length → 0 ≤ l.getD i 0 ∧ l.getD i 0 < 2 ^ l.length) (i : Nat) (hi : i < l.length) (Q : Prop)
    (hnext : Tells (s_NetOk_l2 l ((i + 1 : Nat) : Int)) Q) : ∀ j, j ≤ l.length → Tells (s_NetOk_l3 l (i : Int) (j : Int)) ((∀ k, j ≤ k → k < l.length → bt (l.getD i 0) k = bt (l.getD k 0) i ∧ (k = i → bt (l.getD i 0) k ≠ 1)) ∧ Q) := by
  refine advN ?_ fun j hj ih => ?_
  · refine (Tells.eq ?_ hnext).iff ⟨fun h => ⟨fun k h1 h2 => by omega, h⟩, fun h => h.2⟩
    rw [s_NetOk_l3_eq, cnd_f (by omega), w1 hi (by omega)]
  · have e : s_NetOk_l3 l (i : Int) (j : Int) = cond (bt (l.getD i 0) j != bt (l.getD j 0) i) (some false) (cond ((j : Int) == (i : Int)) (cond (bt (l.getD i 0) j == 1) (some false) (s_NetOk_l3 l (i : Int) ((j + 1 : Nat) : Int))) (s_NetOk_l3 l (i : Int) ((j + 1 : Nat) : Int))) := by
      rw [s_NetOk_l3_eq, cnd_t (by omega), if_pos (inN hi), if_neg (by omega), if_pos (inN hj), if_neg (by omega), if_pos (inN hi), if_neg (by omega), gN, gN, bit_mod (hr i hi).1 (by omega), bit_mod (hr j hj).1 (by omega), w1 hj (by omega)]
    rw [e]
    by_cases c : bt (l.getD i 0) j = bt (l.getD j 0) i
    · rw [bne_f c]
      by_cases d : j = i
      · rw [beq_t (by omega)]
        by_cases f : bt (l.getD i 0) j = 1
        · rw [beq_t f]; exact Tells.no fun h => (h.1 j (Nat.le_refl j) hj).2 d f
        · rw [beq_f f]
          refine ih.iff ⟨fun h => ⟨fun k h1 h2 => ?_, h.2⟩, fun h => ⟨fun k h1 h2 => h.1 k (by omega) h2, h.2⟩⟩
          by_cases he : k = j
          · rw [he]; exact ⟨c, fun _ => f⟩
          · exact h.1 k (by omega) h2
      · rw [beq_f (by omega)]
        refine ih.iff ⟨fun h => ⟨fun k h1 h2 => ?_, h.2⟩, fun h => ⟨fun k h1 h2 => h.1 k (by omega) h2, h.2⟩⟩
        by_cases he : k = j
        · rw [he]; exact ⟨c, fun hh => absurd hh d⟩
        · exact h.1 k (by omega) h2
    · rw [bne_t c]; exact Tells.no fun h => c (h.1 j (Nat.le_refl j) hj).1
theorem snet_outer (l : List Int) (hn : l.length ≤ 6) (hr : ∀ i, i < l.length → 0 ≤ l.getD i 0 ∧ l.getD i 0 < 2 ^ l.length) : ∀ i, i ≤ l.length → Tells (s_NetOk_l2 l (i : Int)) (∀ k, i ≤ k → k < l.length → bt (l.getD k 0) k = 0 ∧ ∀ m, m < l.length → bt (l.getD k 0) m = bt (l.getD m 0) k) := by
  refine advN ?_ fun i hi ih => ?_
  · refine Tells.eq ?_ (Tells.yes fun k h1 h2 => by omega)
    rw [s_NetOk_l2_eq, cnd_f (by omega)]
  · rw [s_NetOk_l2_eq, cnd_t (by omega)]
    refine (snet_inner l hn hr i hi _ ih 0 (by omega)).iff ⟨fun h k h1 h2 => ?_, fun h => ⟨fun k _ h2 => ⟨(h i (Nat.le_refl i) hi).2 k h2, fun he => ?_⟩, fun k h1 h2 => h k (by omega) h2⟩⟩
    · by_cases he : k = i
      · subst he
        exact ⟨by have := bt01 (l.getD k 0) k; have := (h.1 k (by omega) hi).2 rfl; omega, fun m hm => (h.1 m (by omega) hm).1⟩
      · exact h.2 k (by omega) h2
    · subst he
      have := (h k (Nat.le_refl k) hi).1
      omega
theorem snet_rng (l : List Int) (hn : l.length ≤ 6) (Q : Prop) (hj : (∀ i, i < l.length → 0 ≤ l.getD i 0 ∧ l.getD i 0 < 2 ^ l.length) → Tells (s_NetOk_j1 l) Q) :
    ∀ i, i ≤ l.length → (∀ k, k < i → 0 ≤ l.getD k 0 ∧ l.getD k 0 < 2 ^ l.length) → Tells (s_NetOk_l0 l (i : Int)) ((∀ k, i ≤ k → k < l.length → 0 ≤ l.getD k 0 ∧ l.getD k 0 < 2 ^ l.length) ∧ Q) := by
  refine advN ?_ fun i hi ih => ?_
  · intro hp
    refine (Tells.eq ?_ (hj hp)).iff ⟨fun h => ⟨fun k h1 h2 => by omega, h⟩, fun h => h.2⟩
    rw [s_NetOk_l0_eq, cnd_f (by omega)]
  · intro hp
    have hpow := pow6 hn
    have e : s_NetOk_l0 l (i : Int) = cond (!decide (0 ≤ l.getD i 0 ∧ l.getD i 0 ≤ 2 ^ l.length - 1)) (some false) (s_NetOk_l0 l ((i + 1 : Nat) : Int)) := by
      rw [s_NetOk_l0_eq, cnd_t (by omega), if_pos (inN hi), if_neg (by omega), sh1 (by omega), gN, wsub (by omega) (by omega), l1In_val, Option.bind_some, w1 hi (by omega)]
    rw [e]
    by_cases c : 0 ≤ l.getD i 0 ∧ l.getD i 0 ≤ 2 ^ l.length - 1
    · rw [decide_eq_true c]
      refine (ih fun k hk => ?_).iff ⟨fun h => ⟨fun k h1 h2 => ?_, h.2⟩, fun h => ⟨fun k h1 h2 => h.1 k (by omega) h2, h.2⟩⟩
      · by_cases he : k = i
        · subst he; omega
        · exact hp k (by omega)
      · by_cases he : k = i
        · subst he; omega
        · exact h.1 k (by omega) h2
    · rw [decide_eq_false c]
      exact Tells.no fun h => c (by have := h.1 i (Nat.le_refl i) hi; omega)
theorem snet (l : List Int) : s_NetOk_f l = some (decide (NetP l)) := by
  apply Tells.val
  rw [s_NetOk_f_eq, l1In_val, Option.bind_some]
  by_cases h1 : 1 ≤ (l.length : Int) ∧ (l.length : Int) ≤ 6
  · rw [decide_eq_true h1]
    refine (snet_rng l (by omega) (∀ k, k < l.length → bt (l.getD k 0) k = 0 ∧ ∀ m, m < l.length → bt (l.getD k 0) m = bt (l.getD m 0) k) (fun hr => ?_) 0 (by omega) (fun k hk => by omega)).iff ⟨fun h => ?_, fun h => ?_⟩
    · rw [s_NetOk_j1_eq]
      exact (snet_outer l (by omega) hr 0 (by omega)).iff ⟨fun h k => h k (by omega), fun h k _ => h k⟩
    · exact ⟨by omega, by omega, fun i a => h.1 i (by omega) a, fun i a k b => (h.2 i a).2 k b, fun i a => (h.2 i a).1⟩
    · exact ⟨fun k _ => h.rng k, fun k a => ⟨h.self k a, fun m b => h.sym k a m b⟩⟩
  · rw [decide_eq_false h1]
    exact Tells.no fun h => h1 (by have := h.lo; have := h.hi; omega)
/-! states -/
def StP (k : Int) (s : List Int) : Prop := (∀ i, i < s.length → 0 ≤ s.getD i 0 ∧ s.getD i 0 < k) ∧ 3 ≤ k ∧ k ≤ 5 ∧ 1 ≤ s.length ∧ s.length ≤ 6
instance (k : Int) (s : List Int) : Decidable (StP k s) := inferInstanceAs (Decidable (_ ∧ _))
theorem ist (k : Int) (s : List Int) (hs : s.length ≤ 4611686018427387904) : i_StateOk_f (k, s) = some (decide (StP k s)) := by
  apply Tells.val
  rw [i_StateOk_f_eq]
  have hj : Tells (i_StateOk_j1 k s) (3 ≤ k ∧ k ≤ 5 ∧ 1 ≤ s.length ∧ s.length ≤ 6) := by
    rw [i_StateOk_j1_eq]
    by_cases a : 3 ≤ k
    · rw [cnd_t a]
      by_cases b : k ≤ 5
      · rw [cnd_t b]
        by_cases c : 1 ≤ (s.length : Int)
        · rw [cnd_t c]
          exact Tells.dec.iff ⟨fun h => ⟨a, b, by omega, by omega⟩, fun h => by omega⟩
        · rw [cnd_f c]; exact Tells.no fun h => by omega
      · rw [cnd_f b]; exact Tells.no fun h => by omega
    · rw [cnd_f a]; exact Tells.no fun h => by omega
  have main : ∀ i, i ≤ s.length → Tells (i_StateOk_l0 k s s (s.length : Int) (i : Int)) ((∀ j, i ≤ j → j < s.length → 0 ≤ s.getD j 0 ∧ s.getD j 0 < k) ∧ (3 ≤ k ∧ k ≤ 5 ∧ 1 ≤ s.length ∧ s.length ≤ 6)) := by
    refine advN ?_ fun i hi ih => ?_
    · refine (Tells.eq ?_ hj).iff ⟨fun h => ⟨fun j h1 h2 => by omega, h⟩, fun h => h.2⟩
      rw [i_StateOk_l0_eq, cnd_f (by omega)]
    · have e : i_StateOk_l0 k s s (s.length : Int) (i : Int) = cond (decide (s.getD i 0 < 0)) (some false) (cond (decide (k ≤ s.getD i 0)) (some false) (i_StateOk_l0 k s s (s.length : Int) ((i + 1 : Nat) : Int))) := by
        rw [i_StateOk_l0_eq, cnd_t (by omega), if_pos (inN hi), gN, w1 hi (by omega)]
      rw [e]
      by_cases a : s.getD i 0 < 0
      · rw [cnd_t a]; exact Tells.no fun h => by have := h.1 i (Nat.le_refl i) hi; omega
      rw [cnd_f a]
      by_cases b : k ≤ s.getD i 0
      · rw [cnd_t b]; exact Tells.no fun h => by have := h.1 i (Nat.le_refl i) hi; omega
      rw [cnd_f b]
      refine ih.iff ⟨fun h => ⟨fun j h1 h2 => ?_, h.2⟩, fun h => ⟨fun j h1 h2 => h.1 j (by omega) h2, h.2⟩⟩
      by_cases he : j = i
      · subst he; omega
      · exact h.1 j (by omega) h2
  exact (main 0 (by omega)).iff ⟨fun h => ⟨fun i a => h.1 i (by omega) a, h.2⟩, fun h => ⟨fun i _ a => h.1 i a, h.2⟩⟩
theorem sst (k : Int) (s : List Int) (hs : s.length ≤ 4611686018427387904) : s_StateOk_f (k, s) = some (decide (StP k s)) := by
  apply Tells.val
  rw [s_StateOk_f_eq]
  have hj : Tells (s_StateOk_j1 k s) (3 ≤ k ∧ k ≤ 5 ∧ 1 ≤ s.length ∧ s.length ≤ 6) := by
    rw [s_StateOk_j1_eq, l1In_val, l1In_val, Option.bind_some, Option.bind_some]
    by_cases a : 3 ≤ k ∧ k ≤ 5
    · rw [decide_eq_true a]
      exact Tells.dec.iff ⟨fun h => ⟨a.1, a.2, by omega, by omega⟩, fun h => by omega⟩
    · rw [decide_eq_false a]; exact Tells.no fun h => a ⟨h.1, h.2.1⟩
  have main : ∀ i, i ≤ s.length → Tells (s_StateOk_l0 k s (i : Int)) ((∀ j, i ≤ j → j < s.length → 0 ≤ s.getD j 0 ∧ s.getD j 0 < k) ∧ (3 ≤ k ∧ k ≤ 5 ∧ 1 ≤ s.length ∧ s.length ≤ 6)) := by
    refine advN ?_ fun i hi ih => ?_
    · refine (Tells.eq ?_ hj).iff ⟨fun h => ⟨fun j h1 h2 => by omega, h⟩, fun h => h.2⟩
      rw [s_StateOk_l0_eq, cnd_f (by omega)]
    · have e : s_StateOk_l0 k s (i : Int) = cond (decide (s.getD i 0 < 0)) (some false) (cond (decide (k ≤ s.getD i 0)) (some false) (s_StateOk_l0 k s ((i + 1 : Nat) : Int))) := by
        rw [s_StateOk_l0_eq, cnd_t (by omega), if_pos (inN hi), if_pos (inN hi), gN, w1 hi (by omega)]
      rw [e]
      by_cases a : s.getD i 0 < 0
      · rw [cnd_t a]; exact Tells.no fun h => by have := h.1 i (Nat.le_refl i) hi; omega
      rw [cnd_f a]
      by_cases b : k ≤ s.getD i 0
      · rw [cnd_t b]; exact Tells.no fun h => by have := h.1 i (Nat.le_refl i) hi; omega
      rw [cnd_f b]
      refine ih.iff ⟨fun h => ⟨fun j h1 h2 => ?_, h.2⟩, fun h => ⟨fun j h1 h2 => h.1 j (by omega) h2, h.2⟩⟩
      by_cases he : j = i
      · subst he; omega
      · exact h.1 j (by omega) h2
  exact (main 0 (by omega)).iff ⟨fun h => ⟨fun i a => h.1 i (by omega) a, h.2⟩, fun h => ⟨fun i _ a => h.1 i a, h.2⟩⟩
/-! places -/
def PlP (n : List Int) (k : Int) (s : List Int) : Prop := NetP n ∧ StP k s ∧ n.length = s.length
instance (n : List Int) (k : Int) (s : List Int) : Decidable (PlP n k s) := inferInstanceAs (Decidable (_ ∧ _))
theorem iasked (n : List Int) (k : Int) (s : List Int) (hs : s.length ≤ 4611686018427387904) : i_asked_f (n, k, s) = some (decide (PlP n k s)) := by
  apply Tells.val
  rw [i_asked_f_eq, inet, Option.bind_some]
  by_cases a : NetP n
  · rw [decide_eq_true a, ist k s hs]
    by_cases b : StP k s
    · rw [decide_eq_true b]
      exact Tells.now.iff ⟨fun h => ⟨a, b, by have := eq_of_beq h; omega⟩, fun h => by have := h.2.2; simp [this]⟩
    · rw [decide_eq_false b]; exact Tells.no fun h => b h.2.1
  · rw [decide_eq_false a]; exact Tells.no fun h => a h.1
theorem sl3 (n : List Int) (k : Int) (s : List Int) (hs : s.length ≤ 4611686018427387904) : s_l3Ok_f (n, k, s) = some (decide (PlP n k s)) := by
  apply Tells.val
  rw [s_l3Ok_f_eq, snet, Option.bind_some]
  by_cases a : NetP n
  · rw [decide_eq_true a, sst k s hs]
    by_cases b : StP k s
    · rw [decide_eq_true b]
      exact Tells.now.iff ⟨fun h => ⟨a, b, by have := eq_of_beq h; omega⟩, fun h => by have := h.2.2; simp [this]⟩
    · rw [decide_eq_false b]; exact Tells.no fun h => b h.2.1
  · rw [decide_eq_false a]; exact Tells.no fun h => a h.1
theorem ipl (n : List Int) (k : Int) (s : List Int) (hs : s.length ≤ 4611686018427387904) : i_PlaceOk_f (n, k, s) = some (decide (PlP n k s)) := by
  rw [i_PlaceOk_f_eq, iasked n k s hs]; rfl
theorem spl (n : List Int) (k : Int) (s : List Int) (hs : s.length ≤ 4611686018427387904) : s_PlaceOk_f (n, k, s) = some (decide (PlP n k s)) := by
  rw [s_PlaceOk_f_eq, sl3 n k s hs]; rfl
end FN

namespace FN
open Go
theorem ba_app (a b : ByteArray) : (a ++ b).data.toList = a.data.toList ++ b.data.toList := by simp
theorem joinS_nil (sep : ByteArray) : joinS [] sep = ByteArray.empty := rfl
theorem joinS_one (t sep : ByteArray) : joinS [t] sep = t := by
  apply ba_ext
  simp [joinS, Lib.join_one]
theorem joinS_snoc {xs : List ByteArray} (h : xs ≠ []) (t sep : ByteArray) : joinS (xs ++ [t]) sep = joinS xs sep ++ sep ++ t := by
  cases xs with
  | nil => exact absurd rfl h
  | cons x r =>
    apply ba_ext
    simp [joinS, Lib.join_cons, Lib.joinTail]
end FN

namespace FN
open Go
/-- The first i numbers, one behind the other. -/
def dgs (st : List Int) : Nat → ByteArray
  | 0 => ByteArray.empty
  | i + 1 => dgs st i ++ itoaS (st.getD i 0)
theorem dg_pos : (List.range 100).all (fun n => decide (0 < (itoaS (n : Int)).size)) = true := by kernel_rfl
theorem itoa_pos {n : Int} (h0 : 0 ≤ n) (h1 : n < 100) : 0 < (itoaS n).size := by
  obtain ⟨m, rfl⟩ : ∃ m : Nat, n = m := ⟨n.toNat, by omega⟩
  simpa using List.all_eq_true.1 dg_pos m (List.mem_range.2 (by omega))
theorem dgs_size {st : List Int} (hs : ∀ j, j < st.length → 0 ≤ st.getD j 0 ∧ st.getD j 0 < 100) : ∀ i, i ≤ st.length → (dgs st i).size ≤ 2 * i
  | 0, _ => by simp [dgs]
  | i + 1, h => by
    have h1 := dgs_size hs i (by omega)
    have h2 := itoa_size (hs i (by omega)).1 (hs i (by omega)).2
    rw [dgs, ByteArray.size_append]
    omega
theorem empty_toList {a : ByteArray} (h : 0 < a.size) : (ByteArray.toList a == ByteArray.toList ByteArray.empty) = false := by
  rw [beq_eq_false_iff_ne]
  intro e
  have h1 : a.toList.length = (ByteArray.empty).toList.length := by rw [e]
  have h2 : a.toList.length = a.size := by rw [ByteArray.toList_eq]; exact Array.length_toList
  have h3 : (ByteArray.empty).toList.length = 0 := by rw [ByteArray.toList_eq]; rfl
  omega
/-- The pairs' row and the pairs' text. -/
structure PR (prs : List ByteArray) (y : ByteArray) (m : Nat) : Prop where
  eq : joinS prs str14 = y
  pos : prs ≠ [] → 0 < y.size
  len : prs.length ≤ m
  sz : y.size ≤ 10 * prs.length
theorem z14 : ByteArray.size str14 = 1 := rfl
theorem z15 : ByteArray.size str15 = 1 := rfl
theorem z1' : ByteArray.size str1 = 1 := rfl
section
variable {net st : List Int} {kd : Int} (h : PlP net kd st)
include h
theorem st_rng : ∀ j, j < st.length → 0 ≤ st.getD j 0 ∧ st.getD j 0 < 100 := fun j hj => ⟨(h.2.1.1 j hj).1, by have := (h.2.1.1 j hj).2; have := h.2.1.2.2.1; omega⟩
/-- The last part. -/
theorem i_tail (acc : ByteArray) (hacc : acc.size ≤ 1000) : ∀ i, i ≤ st.length → i_PlaceText_l4 (acc ++ dgs st i) st (st.length : Int) (i : Int) = some (acc ++ dgs st st.length) := by
  have hst := st_rng h
  have hl : st.length ≤ 6 := h.2.1.2.2.2.2
  refine advN ?_ fun i hi ih => ?_
  · rw [i_PlaceText_l4_eq, cnd_f (by omega)]
  · have h2 := hst i hi
    have h3 := itoa_size h2.1 h2.2
    have h4 := dgs_size hst i (by omega)
    rw [i_PlaceText_l4_eq, cnd_t (by omega), if_pos (inN hi), gN, itoa_val h2.1 h2.2, Option.bind_some, if_pos (by rw [ByteArray.size_append]; omega), w1 hi (by omega)]
    rw [ByteArray.append_assoc]
    exact ih
theorem fin_same (y : ByteArray) (hy : y.size ≤ 900) (n : Nat) (hn : n = net.length) : s_PlaceText_j4 y (dgs st st.length) net kd st = some ((((((itoaS (net.length : Int) ++ str1) ++ y) ++ str1) ++ itoaS kd) ++ str1) ++ dgs st st.length) := by
  have hst := st_rng h
  have hl : st.length ≤ 6 := h.2.1.2.2.2.2
  have hnl : net.length ≤ 6 := h.1.hi
  have hk := h.2.1.2.1
  have hk' := h.2.1.2.2.1
  have a1 := itoa_size (n := (net.length : Int)) (by omega) (by omega)
  have a2 := itoa_size (n := kd) (by omega) (by omega)
  have a3 := dgs_size hst st.length (Nat.le_refl _)
  have z1 := z1'
  rw [s_PlaceText_j4_eq, num_val (by omega) (by omega), Option.bind_some, if_pos (by omega), if_pos (by simp only [ByteArray.size_append]; omega), if_pos (by simp only [ByteArray.size_append]; omega), num_val (by omega) (by omega), Option.bind_some, if_pos (by simp only [ByteArray.size_append]; omega), if_pos (by simp only [ByteArray.size_append]; omega), if_pos (by simp only [ByteArray.size_append]; omega)]
theorem fin_i (prs : List ByteArray) (hp : prs.length ≤ 100) (hy : (joinS prs str14).size ≤ 900) : i_PlaceText_j3 net kd st prs = some ((((((itoaS (net.length : Int) ++ str1) ++ joinS prs str14) ++ str1) ++ itoaS kd) ++ str1) ++ dgs st st.length) := by
  have hnl : net.length ≤ 6 := h.1.hi
  have hk := h.2.1.2.1
  have hk' := h.2.1.2.2.1
  have a1 := itoa_size (n := (net.length : Int)) (by omega) (by omega)
  have a2 := itoa_size (n := kd) (by omega) (by omega)
  have z1 := z1'
  rw [i_PlaceText_j3_eq, itoa_val (by omega) (by omega), Option.bind_some, if_pos (by omega), x_strings_Join_f_eq, if_pos ⟨by omega, by omega⟩, Option.bind_some, if_pos (by simp only [ByteArray.size_append]; omega), if_pos (by simp only [ByteArray.size_append]; omega), itoa_val (by omega) (by omega), Option.bind_some, if_pos (by simp only [ByteArray.size_append]; omega), if_pos (by simp only [ByteArray.size_append]; omega)]
  have := i_tail h (((((itoaS (net.length : Int) ++ str1) ++ joinS prs str14) ++ str1) ++ itoaS kd) ++ str1) (by simp only [ByteArray.size_append]; omega) 0 (by omega)
  rw [dgs, ByteArray.append_empty] at this
  exact this
theorem end_same (prs : List ByteArray) (y : ByteArray) (r : PR prs y 60) : ∃ t, s_PlaceText_j2 y (dgs st st.length) net kd st = some t ∧ i_PlaceText_j2 net kd st prs = some t := by
  rw [s_PlaceText_j2_eq, i_PlaceText_j2_eq]
  by_cases hp : prs = []
  · subst hp
    have hy : y = ByteArray.empty := r.eq.symm.trans (joinS_nil _)
    subst hy
    rw [show (ByteArray.toList ByteArray.empty == ByteArray.toList ByteArray.empty) = true from by simp, cond_true, show (((List.length ([] : List ByteArray)) : Int) == 0) = true from rfl, cond_true, if_pos (by simp)]
    have e1 := fin_same h str15 (by rw [z15]; omega) _ rfl
    have e2 := fin_i h [str15] (by simp) (by rw [joinS_one, z15]; omega)
    rw [joinS_one] at e2
    exact ⟨_, e1, e2⟩
  · have hpos : 0 < prs.length := List.length_pos_iff.2 hp
    have hl := r.len
    have hs := r.sz
    rw [empty_toList (r.pos hp), cond_false, show (((List.length prs : Int)) == 0) = false by rw [beq_eq_false_iff_ne]; omega, cond_false]
    have e1 := fin_same h y (by omega) _ rfl
    have e2 := fin_i h prs (by omega) (by rw [r.eq]; omega)
    rw [r.eq] at e2
    exact ⟨_, e1, e2⟩
theorem row_same (i : Nat) (hi : i < net.length) (ho : ∀ prs y, PR prs y (7 * (i + 1)) → ∃ t, s_PlaceText_l0 y (dgs st (i + 1)) ((i + 1 : Nat) : Int) net kd st = some t ∧ i_PlaceText_l0 net (net.length : Int) ((i + 1 : Nat) : Int) net kd st prs = some t) :
    ∀ k, k ≤ net.length → ∀ prs y, PR prs y (7 * i + k) → ∃ t, s_PlaceText_l1 y (dgs st (i + 1)) (i : Int) (k : Int) net kd st = some t ∧ i_PlaceText_l1 (i : Int) (net.getD i 0) (k : Int) net (net.length : Int) (i : Int) net kd st prs = some t := by
  have hnl : net.length ≤ 6 := h.1.hi
  have z := z14
  refine advN ?_ fun k hk ih => ?_
  · intro prs y r
    rw [s_PlaceText_l1_eq, i_PlaceText_l1_eq, cnd_f (by omega), cnd_f (by omega), w1 hi (by omega)]
    exact ho prs y ⟨r.eq, r.pos, by have := r.len; omega, r.sz⟩
  · intro prs y r
    have hl := r.len
    have hs := r.sz
    have hx := (h.1.rng i hi).1
    rw [s_PlaceText_l1_eq, i_PlaceText_l1_eq, cnd_t (by omega), cnd_t (by omega), if_pos (inN hi), if_neg (show ¬ ((k : Nat) : Int) < 0 by omega), if_neg (show ¬ ((k : Nat) : Int) < 0 by omega), gN, bit_and _ (show k ≤ 64 by omega), bit_mod hx (show k ≤ 64 by omega), w1 hk (by omega)]
    rcases bt01 (net.getD i 0) k with hb | hb
    · rw [hb, show ((0 : Int) == 0) = true from rfl, show ((0 : Int) == 1) = false from rfl, cond_true, cond_false]
      exact ih prs y ⟨r.eq, r.pos, by omega, hs⟩
    · rw [hb, show ((1 : Int) == 0) = false from rfl, show ((1 : Int) == 1) = true from rfl, cond_true, cond_false, itoa_val (by omega) (by omega), Option.bind_some, itoa_val (by omega) (by omega), Option.bind_some]
      have a1 := itoa_size (n := (i : Int)) (by omega) (by omega)
      have a2 := itoa_size (n := (k : Int)) (by omega) (by omega)
      have p1 := itoa_pos (n := (i : Int)) (by omega) (by omega)
      rw [if_pos (show (itoaS (i : Int)).size + (itoaS (k : Int)).size ≤ 9223372036854775807 by omega), if_pos (show (List.length prs + List.length ([(itoaS (i : Int) ++ itoaS (k : Int))] : List ByteArray)) * 16 ≤ 140737488355328 by simp; omega)]
      have j3 : ∀ y' : ByteArray, y'.size ≤ 1000 → s_PlaceText_j3 y' (dgs st (i + 1)) (i : Int) (k : Int) net kd st = s_PlaceText_l1 ((y' ++ itoaS (i : Int)) ++ itoaS (k : Int)) (dgs st (i + 1)) (i : Int) ((k + 1 : Nat) : Int) net kd st := fun y' hy' => by
        rw [s_PlaceText_j3_eq, num_val (by omega) (by omega), Option.bind_some, if_pos (by omega), num_val (by omega) (by omega), Option.bind_some, if_pos (by simp only [ByteArray.size_append]; omega), w1 hk (by omega)]
      by_cases hp : prs = []
      · subst hp
        have hy : y = ByteArray.empty := r.eq.symm.trans (joinS_nil _)
        subst hy
        rw [show (!(ByteArray.toList ByteArray.empty == ByteArray.toList ByteArray.empty)) = false from by simp, cond_false, j3 _ (by simp)]
        refine ih _ _ ⟨?_, fun _ => ?_, by simp; omega, ?_⟩
        · rw [List.nil_append, joinS_one, ByteArray.empty_append]
        · simp only [ByteArray.size_append]; omega
        · simp only [ByteArray.size_append, List.nil_append, List.length_cons, List.length_nil]; simp; omega
      · rw [empty_toList (r.pos hp), Bool.not_false, cond_true, if_pos (show y.size + ByteArray.size str14 ≤ 9223372036854775807 by omega), j3 _ (by simp only [ByteArray.size_append]; omega)]
        refine ih _ _ ⟨?_, fun _ => ?_, by simp; omega, ?_⟩
        · rw [joinS_snoc hp, r.eq, ByteArray.append_assoc, ByteArray.append_assoc, ByteArray.append_assoc]
        · simp only [ByteArray.size_append]; omega
        · simp only [ByteArray.size_append, List.length_append, List.length_cons, List.length_nil]; omega
theorem all_same : ∀ i, i ≤ net.length → ∀ prs y, PR prs y (7 * i) → ∃ t, s_PlaceText_l0 y (dgs st i) (i : Int) net kd st = some t ∧ i_PlaceText_l0 net (net.length : Int) (i : Int) net kd st prs = some t := by
  have hnl : net.length ≤ 6 := h.1.hi
  have he := h.2.2
  have hst := st_rng h
  refine advN ?_ fun i hi ih => ?_
  · intro prs y r
    rw [s_PlaceText_l0_eq, i_PlaceText_l0_eq, cnd_f (by omega), cnd_f (by omega), he]
    exact end_same h prs y ⟨r.eq, r.pos, by have := r.len; omega, r.sz⟩
  · intro prs y r
    have hi' : i < st.length := by omega
    have h2 := hst i hi'
    have a1 := itoa_size h2.1 h2.2
    have a3 := dgs_size hst i (by omega)
    rw [s_PlaceText_l0_eq, i_PlaceText_l0_eq, cnd_t (by omega), cnd_t (by omega), if_pos (inN hi'), if_pos (inN hi), gN, gN, num_val h2.1 h2.2, Option.bind_some, if_pos (by omega), w1 hi (by omega)]
    exact row_same h i hi ih (i + 1) (by omega) prs y ⟨r.eq, r.pos, by have := r.len; omega, r.sz⟩
end
theorem placeText_same (net : List Int) (kd : Int) (st : List Int) (hs : st.length ≤ 4611686018427387904) : ∃ t, s_PlaceText_f (net, kd, st) = some t ∧ i_PlaceText_f (net, kd, st) = some t := by
  rw [s_PlaceText_f_eq, i_PlaceText_f_eq, spl net kd st hs, ipl net kd st hs, Option.bind_some, Option.bind_some]
  by_cases h : PlP net kd st
  · rw [decide_eq_true h]
    exact all_same h 0 (by omega) [] _ ⟨joinS_nil _, fun h => absurd rfl h, by simp, by simp⟩
  · rw [decide_eq_false h]
    exact ⟨_, rfl, rfl⟩
end FN

/-! Places read. -/
namespace FN
open Go
abbrev orb (z : List Int) (a b : Int) : List Int := List.set z (a : Int).toNat (Go.bits .or IntKind.i64 (List.getD z (a : Int).toNat 0) (IntKind.i64.wrap (1 * 2 ^ min (b : Int).toNat IntKind.i64.bits)))
def stepP (z : List Int) (a b : Int) : List Int := orb (orb z a b) b a
theorem stepP_len (z : List Int) (a b : Int) : (stepP z a b).length = z.length := by simp [stepP, orb]
def pairsF (n : Int) : List (List UInt8) → List Int → Option (List Int)
  | [], z => some z
  | [x, y] :: ps, z => if 0 ≤ dig x ∧ dig x < n ∧ 0 ≤ dig y ∧ dig y < n then pairsF n ps (stepP z (dig x) (dig y)) else none
  | _ :: _, _ => none
abbrev Wl (w0 w1 w2 w3 : List UInt8) : List ByteArray := [ofL w0, ofL w1, ofL w2, ofL w3]
abbrev bad : List Int × Int × List Int × Bool := ([], 0, [], false)
/-- The text of a place, by whom it is one. -/
noncomputable def ptx (z : List Int) (k : Int) (st : List Int) : ByteArray := (i_PlaceText_f (z, k, st)).getD ByteArray.empty
theorem ptx_val (z : List Int) (k : Int) (st : List Int) (hs : st.length ≤ 4611686018427387904) : i_PlaceText_f (z, k, st) = some (ptx z k st) ∧ s_PlaceText_f (z, k, st) = some (ptx z k st) := by
  obtain ⟨t, h1, h2⟩ := placeText_same z k st hs
  have : ptx z k st = t := by unfold ptx; rw [h2]; rfl
  rw [this]
  exact ⟨h2, h1⟩
theorem beq_bytes {a b : ByteArray} {α : Type} {x y : α} : cond (!(ByteArray.toList a == ByteArray.toList b)) x y = if a = b then y else x := by
  rw [toL, toL]
  by_cases h : a = b
  · rw [if_pos h, h]; simp
  · rw [if_neg h]
    have : (a.data.toList == b.data.toList) = false := by
      rw [beq_eq_false_iff_ne]
      intro e
      exact h (ba_ext e)
    rw [this]; rfl
section
variable {S : ByteArray} {w0 w1 w2 w3 : List UInt8}
end
theorem cutL_word (c : UInt8) : ∀ l : List UInt8, ∀ a ∈ cutL c l, a.length ≤ l.length
  | [], a, h => by simp [cutL] at h; simp [h]
  | x :: l, a, h => by
    have ih := cutL_word c l
    by_cases hx : x = c
    · subst hx
      rw [cutL_eq] at h
      rcases List.mem_cons.1 h with h | h
      · subst h; simp
      · have := ih a h; simp; omega
    · rw [cutL_neq hx] at h
      cases hz : cutL c l with
      | nil => exact absurd hz (cutL_ne c l)
      | cons y ys =>
        rw [hz] at h ih
        simp only [preL, List.mem_cons] at h
        rcases h with h | h
        · subst h
          have := ih y (by simp)
          simp; omega
        · have := ih a (by simp [h]); simp; omega
theorem single {w : List UInt8} (h : w.length = 1) : ∃ a, w = [a] := by
  match w, h with
  | [a], _ => exact ⟨a, rfl⟩
theorem g0 (w0 w1 w2 w3 : List UInt8) : List.getD (Wl w0 w1 w2 w3) (0 : Int).toNat ByteArray.empty = ofL w0 := rfl
theorem g1 (w0 w1 w2 w3 : List UInt8) : List.getD (Wl w0 w1 w2 w3) (1 : Int).toNat ByteArray.empty = ofL w1 := rfl
theorem g2 (w0 w1 w2 w3 : List UInt8) : List.getD (Wl w0 w1 w2 w3) (2 : Int).toNat ByteArray.empty = ofL w2 := rfl
theorem b0 (a : UInt8) : List.getD (ByteArray.data (ofL [a])).toList (0 : Int).toNat 0 = a := rfl
end FN

/-! The text of a place, told; and read back. -/
namespace FN
open Go
theorem ext_of_getD {a b : List Int} (h : a.length = b.length) (he : ∀ j, j < a.length → a.getD j 0 = b.getD j 0) : a = b := by
  apply List.ext_getElem h
  intro i h1 h2
  have := he i h1
  simpa [List.getD_eq_getElem?_getD, List.getElem?_eq_getElem h1, List.getElem?_eq_getElem h2] using this
theorem itoa_d : (List.range 10).all (fun a => decide ((itoaS (a : Int)).data.toList = [UInt8.ofNat (48 + a)]) && decide (dig (UInt8.ofNat (48 + a)) = (a : Int)) && decide ((UInt8.ofNat (48 + a)).toNat = 48 + a)) = true := by kernel_rfl
theorem itoa_l {a : Nat} (h : a < 10) : (itoaS (a : Int)).data.toList = [UInt8.ofNat (48 + a)] ∧ dig (UInt8.ofNat (48 + a)) = (a : Int) ∧ (UInt8.ofNat (48 + a)).toNat = 48 + a := by
  have h1 := List.all_eq_true.1 itoa_d a (List.mem_range.2 h)
  simp only [Bool.and_eq_true, decide_eq_true_eq] at h1
  exact ⟨h1.1.1, h1.1.2, h1.2⟩
theorem or_d : (List.range 64).all (fun x => (List.range 6).all fun k => decide (0 ≤ Go.bits .or IntKind.i64 (x : Int) (2 ^ k) ∧ Go.bits .or IntKind.i64 (x : Int) (2 ^ k) < 64) && (List.range 6).all fun b => decide (bt (Go.bits .or IntKind.i64 (x : Int) (2 ^ k)) b = if b = k then 1 else bt (x : Int) b)) = true := by kernel_rfl
theorem or_l {x : Int} (h0 : 0 ≤ x) (h1 : x < 64) {k : Nat} (hk : k < 6) : (0 ≤ Go.bits .or IntKind.i64 x (2 ^ k) ∧ Go.bits .or IntKind.i64 x (2 ^ k) < 64) ∧ ∀ b, b < 6 → bt (Go.bits .or IntKind.i64 x (2 ^ k)) b = if b = k then 1 else bt x b := by
  obtain ⟨m, rfl⟩ : ∃ m : Nat, x = m := ⟨x.toNat, by omega⟩
  have h2 := List.all_eq_true.1 or_d m (List.mem_range.2 (by omega))
  have h3 := List.all_eq_true.1 h2 k (List.mem_range.2 hk)
  simp only [Bool.and_eq_true, decide_eq_true_eq] at h3
  refine ⟨h3.1, fun b hb => ?_⟩
  have h4 := List.all_eq_true.1 h3.2 b (List.mem_range.2 hb)
  simpa using h4
theorem ext6 {x y : Int} (h0 : 0 ≤ x) (h1 : x < 64) (h2 : 0 ≤ y) (h3 : y < 64) (h : ∀ b, b < 6 → bt x b = bt y b) : x = y := by
  have e0 := h 0 (by omega); have e1 := h 1 (by omega); have e2 := h 2 (by omega); have e3 := h 3 (by omega); have e4 := h 4 (by omega); have e5 := h 5 (by omega)
  simp only [bt] at e0 e1 e2 e3 e4 e5
  omega
theorem pairsF_app (n : Int) : ∀ (ps qs : List (List UInt8)) (z : List Int), pairsF n (ps ++ qs) z = (pairsF n ps z).bind (pairsF n qs)
  | [], _, _ => rfl
  | p :: ps, qs, z => by
    match p with
    | [] => rfl
    | [_] => rfl
    | _ :: _ :: _ :: _ => rfl
    | [x, y] =>
      simp only [List.cons_append, pairsF]
      split
      · exact pairsF_app n ps qs _
      · rfl
/-- The pairs that were told are those ahead of (i, k). -/
def ahead (i k a b : Nat) : Prop := min a b < i ∨ (min a b = i ∧ max a b < k)
instance (i k a b : Nat) : Decidable (ahead i k a b) := inferInstanceAs (Decidable (_ ∨ _))
structure Inv (net : List Int) (prs : List ByteArray) (y : ByteArray) (z : List Int) (i k : Nat) : Prop where
  pr : PR prs y (7 * i + k)
  fold : pairsF (net.length : Int) (prs.map (·.data.toList)) (List.replicate net.length 0) = some z
  fm : ∀ p ∈ prs, ∃ a b, a < 6 ∧ b < 6 ∧ p.data.toList = [UInt8.ofNat (48 + a), UInt8.ofNat (48 + b)]
  zl : z.length = net.length
  zr : ∀ a, a < net.length → 0 ≤ z.getD a 0 ∧ z.getD a 0 < 64
  zb : ∀ a, a < net.length → ∀ b, b < 6 → bt (z.getD a 0) b = if ahead i k a b then bt (net.getD a 0) b else 0
theorem orb_at {z : List Int} {a b : Nat} (hb : b ≤ 60) (ha : a < z.length) (c : Nat) : (orb z (a : Int) (b : Int)).getD c 0 = if c = a then Go.bits .or IntKind.i64 (z.getD a 0) (2 ^ b) else z.getD c 0 := by
  unfold orb
  rw [sh1 (by omega), Int.toNat_natCast]
  simp only [List.getD_eq_getElem?_getD]
  by_cases h : c = a
  · subst h; rw [if_pos rfl, List.getElem?_set_self ha]; rfl
  · rw [if_neg h, List.getElem?_set_ne (Ne.symm h)]
section
variable {net st : List Int} {kd : Int} (h : PlP net kd st)
include h
theorem net_hi {a b : Nat} (ha : a < net.length) (hb : net.length ≤ b) : bt (net.getD a 0) b = 0 := by
  have hr := h.1.rng a ha
  have hp : (2 : Int) ^ net.length ≤ 2 ^ b := by exact_mod_cast Nat.pow_le_pow_right (show 0 < 2 by omega) hb
  unfold bt
  rw [Int.ediv_eq_zero_of_lt hr.1 (by omega)]
  rfl
theorem net64 {a : Nat} (ha : a < net.length) : 0 ≤ net.getD a 0 ∧ net.getD a 0 < 64 := by
  have hr := h.1.rng a ha
  have := (pow6 h.1.hi).1
  omega
theorem inv_start {prs : List ByteArray} {y : ByteArray} {z : List Int} {i : Nat} (r : Inv net prs y z i 0) : Inv net prs y z i (i + 1) := by
  refine ⟨⟨r.pr.eq, r.pr.pos, by have := r.pr.len; omega, r.pr.sz⟩, r.fold, r.fm, r.zl, r.zr, fun a ha b hb => ?_⟩
  rw [r.zb a ha b hb]
  by_cases c : a = i ∧ b = i
  · obtain ⟨rfl, rfl⟩ := c
    rw [if_neg (by unfold ahead; omega), if_pos (by unfold ahead; omega), h.1.self _ ha]
  · have : ahead i 0 a b ↔ ahead i (i + 1) a b := by unfold ahead; omega
    simp only [this]
theorem inv_end {prs : List ByteArray} {y : ByteArray} {z : List Int} {i : Nat} (r : Inv net prs y z i net.length) : Inv net prs y z (i + 1) 0 := by
  have hn := h.1.hi
  refine ⟨⟨r.pr.eq, r.pr.pos, by have := r.pr.len; omega, r.pr.sz⟩, r.fold, r.fm, r.zl, r.zr, fun a ha b hb => ?_⟩
  rw [r.zb a ha b hb]
  by_cases hb' : b < net.length
  · have : ahead i net.length a b ↔ ahead (i + 1) 0 a b := by unfold ahead; omega
    simp only [this]
  · rw [net_hi h ha (by omega)]
    simp
theorem inv_skip {prs : List ByteArray} {y : ByteArray} {z : List Int} {i k : Nat} (hi : i < net.length) (hik : i < k) (hk : k < net.length) (h0 : bt (net.getD i 0) k = 0) (r : Inv net prs y z i k) : Inv net prs y z i (k + 1) := by
  refine ⟨⟨r.pr.eq, r.pr.pos, by have := r.pr.len; omega, r.pr.sz⟩, r.fold, r.fm, r.zl, r.zr, fun a ha b hb => ?_⟩
  rw [r.zb a ha b hb]
  by_cases c : (a = i ∧ b = k) ∨ (a = k ∧ b = i)
  · have e : bt (net.getD a 0) b = 0 := by
      rcases c with ⟨rfl, rfl⟩ | ⟨rfl, rfl⟩
      · exact h0
      · rw [h.1.sym _ ha _ hi]; exact h0
    rw [e]; simp
  · have : ahead i k a b ↔ ahead i (k + 1) a b := by unfold ahead; omega
    simp only [this]
theorem inv_take {prs : List ByteArray} {y y' : ByteArray} {z : List Int} {i k : Nat} (hi : i < net.length) (hik : i < k) (hk : k < net.length) (h1 : bt (net.getD i 0) k = 1) (r : Inv net prs y z i k) (hp : PR (prs ++ [itoaS (i : Int) ++ itoaS (k : Int)]) y' (7 * i + (k + 1))) :
    Inv net (prs ++ [itoaS (i : Int) ++ itoaS (k : Int)]) y' (stepP z (i : Int) (k : Int)) i (k + 1) := by
  have hn := h.1.hi
  obtain ⟨l1, d1, _⟩ := itoa_l (a := i) (by omega)
  obtain ⟨l2, d2, _⟩ := itoa_l (a := k) (by omega)
  have hl : (itoaS (i : Int) ++ itoaS (k : Int)).data.toList = [UInt8.ofNat (48 + i), UInt8.ofNat (48 + k)] := by rw [ba_app, l1, l2]; rfl
  have g : ∀ c, (stepP z (i : Int) (k : Int)).getD c 0 = if c = k then Go.bits .or IntKind.i64 (z.getD k 0) (2 ^ i) else if c = i then Go.bits .or IntKind.i64 (z.getD i 0) (2 ^ k) else z.getD c 0 := fun c => by
    unfold stepP
    have hz := r.zl
    rw [orb_at (z := orb z (i : Int) (k : Int)) (a := k) (b := i) (by omega) (by rw [List.length_set]; omega) c, orb_at (z := z) (a := i) (b := k) (by omega) (by omega) k, orb_at (z := z) (a := i) (b := k) (by omega) (by omega) c, if_neg (show ¬ k = i by omega)]
  have oi := or_l (r.zr i hi).1 (r.zr i hi).2 (k := k) (by omega)
  have ok := or_l (r.zr k hk).1 (r.zr k hk).2 (k := i) (by omega)
  refine ⟨hp, ?_, fun p hp => ?_, by rw [stepP_len]; exact r.zl, fun a ha => ?_, fun a ha b hb => ?_⟩
  · rw [List.map_append, pairsF_app, r.fold, Option.bind_some, List.map_cons, List.map_nil, hl, pairsF, d1, d2, if_pos ⟨by omega, by omega, by omega, by omega⟩]
    rfl
  · rcases List.mem_append.1 hp with hp | hp
    · exact r.fm p hp
    · have : p = itoaS (i : Int) ++ itoaS (k : Int) := by simpa using hp
      rw [this]
      exact ⟨i, k, by omega, by omega, hl⟩
  · rw [g]
    split
    · exact ok.1
    · split
      · exact oi.1
      · exact r.zr a ha
  · rw [g]
    by_cases ca : a = k
    · rw [if_pos ca, ok.2 b hb]
      by_cases cb : b = i
      · rw [if_pos cb, ca, cb, if_pos (by unfold ahead; omega), h.1.sym k hk i hi, h1]
      · rw [if_neg cb, r.zb k hk b hb, ca]
        have : ahead i k k b ↔ ahead i (k + 1) k b := by unfold ahead; omega
        simp only [this]
    · rw [if_neg ca]
      by_cases ci : a = i
      · rw [if_pos ci, oi.2 b hb]
        by_cases cb : b = k
        · rw [if_pos cb, ci, cb, if_pos (by unfold ahead; omega), h1]
        · rw [if_neg cb, r.zb i hi b hb, ci]
          have : ahead i k i b ↔ ahead i (k + 1) i b := by unfold ahead; omega
          simp only [this]
      · rw [if_neg ci, r.zb a ha b hb]
        have : ahead i k a b ↔ ahead i (k + 1) a b := by unfold ahead; omega
        simp only [this]
def GoalT (net st : List Int) (kd : Int) (o : Option ByteArray) : Prop := ∃ prs y z, Inv net prs y z net.length 0 ∧ o = s_PlaceText_j2 y (dgs st st.length) net kd st
theorem row_val (i : Nat) (hi : i < net.length) (ho : ∀ prs y z, Inv net prs y z (i + 1) 0 → GoalT net st kd (s_PlaceText_l0 y (dgs st (i + 1)) ((i + 1 : Nat) : Int) net kd st)) :
    ∀ k, k ≤ net.length → i < k → ∀ prs y z, Inv net prs y z i k → GoalT net st kd (s_PlaceText_l1 y (dgs st (i + 1)) (i : Int) (k : Int) net kd st) := by
  have hnl : net.length ≤ 6 := h.1.hi
  have z := z14
  refine advN ?_ fun k hk ih => ?_
  · intro _ prs y z r
    rw [s_PlaceText_l1_eq, cnd_f (by omega), w1 hi (by omega)]
    exact ho prs y z (inv_end h r)
  · intro hik prs y z' r
    have hl := r.pr.len
    have hs := r.pr.sz
    have hx := (h.1.rng i hi).1
    rw [s_PlaceText_l1_eq, cnd_t (by omega), if_pos (inN hi), if_neg (show ¬ ((k : Nat) : Int) < 0 by omega), gN, bit_mod hx (show k ≤ 64 by omega), w1 hk (by omega)]
    rcases bt01 (net.getD i 0) k with hb | hb
    · rw [hb, show ((0 : Int) == 0) = true from rfl, cond_true]
      exact ih (by omega) prs y z' (inv_skip h hi hik hk hb r)
    · rw [hb, show ((1 : Int) == 0) = false from rfl, cond_false]
      have a1 := itoa_size (n := (i : Int)) (by omega) (by omega)
      have a2 := itoa_size (n := (k : Int)) (by omega) (by omega)
      have p1 := itoa_pos (n := (i : Int)) (by omega) (by omega)
      have j3 : ∀ y' : ByteArray, y'.size ≤ 1000 → s_PlaceText_j3 y' (dgs st (i + 1)) (i : Int) (k : Int) net kd st = s_PlaceText_l1 ((y' ++ itoaS (i : Int)) ++ itoaS (k : Int)) (dgs st (i + 1)) (i : Int) ((k + 1 : Nat) : Int) net kd st := fun y' hy' => by
        rw [s_PlaceText_j3_eq, num_val (by omega) (by omega), Option.bind_some, if_pos (by omega), num_val (by omega) (by omega), Option.bind_some, if_pos (by simp only [ByteArray.size_append]; omega), w1 hk (by omega)]
      by_cases hp : prs = []
      · subst hp
        have hy : y = ByteArray.empty := r.pr.eq.symm.trans (joinS_nil _)
        subst hy
        rw [show (!(ByteArray.toList ByteArray.empty == ByteArray.toList ByteArray.empty)) = false from by simp, cond_false, j3 _ (by simp)]
        refine ih (by omega) _ _ _ (inv_take h hi hik hk hb r ⟨?_, fun _ => ?_, by simp; omega, ?_⟩)
        · rw [List.nil_append, joinS_one, ByteArray.empty_append]
        · simp only [ByteArray.size_append]; omega
        · simp only [ByteArray.size_append, List.nil_append, List.length_cons, List.length_nil]; simp; omega
      · rw [empty_toList (r.pr.pos hp), Bool.not_false, cond_true, if_pos (show y.size + ByteArray.size str14 ≤ 9223372036854775807 by omega), j3 _ (by simp only [ByteArray.size_append]; omega)]
        refine ih (by omega) _ _ _ (inv_take h hi hik hk hb r ⟨?_, fun _ => ?_, by simp; omega, ?_⟩)
        · rw [joinS_snoc hp, r.pr.eq, ByteArray.append_assoc, ByteArray.append_assoc, ByteArray.append_assoc]
        · simp only [ByteArray.size_append]; omega
        · simp only [ByteArray.size_append, List.length_append, List.length_cons, List.length_nil]; omega
theorem all_val : ∀ i, i ≤ net.length → ∀ prs y z, Inv net prs y z i 0 → GoalT net st kd (s_PlaceText_l0 y (dgs st i) (i : Int) net kd st) := by
  have hnl : net.length ≤ 6 := h.1.hi
  have he := h.2.2
  have hst := st_rng h
  refine advN ?_ fun i hi ih => ?_
  · intro prs y z r
    rw [s_PlaceText_l0_eq, cnd_f (by omega), he]
    exact ⟨prs, y, z, he ▸ r, rfl⟩
  · intro prs y z r
    have hi' : i < st.length := by omega
    have h2 := hst i hi'
    have a1 := itoa_size h2.1 h2.2
    have a3 := dgs_size hst i (by omega)
    rw [s_PlaceText_l0_eq, cnd_t (by omega), if_pos (inN hi'), gN, num_val h2.1 h2.2, Option.bind_some, if_pos (by omega), w1 hi (by omega)]
    exact row_val h i hi ih (i + 1) (by omega) (by omega) prs y z (inv_start h r)
theorem inv_last {prs : List ByteArray} {y : ByteArray} {z : List Int} (r : Inv net prs y z net.length 0) : z = net := by
  have hn := h.1.hi
  refine ext_of_getD r.zl fun a ha => ?_
  have ha' : a < net.length := by have := r.zl; omega
  refine ext6 (r.zr a ha').1 (r.zr a ha').2 (net64 h ha').1 (net64 h ha').2 fun b hb => ?_
  rw [r.zb a ha' b hb, if_pos (by unfold ahead; omega)]
omit h in
theorem inv_zero (hz : net.length ≤ 6) : Inv net [] ByteArray.empty (List.replicate net.length 0) 0 0 := by
  refine ⟨⟨joinS_nil _, fun h => absurd rfl h, by simp, by simp⟩, rfl, fun p hp => (by cases hp), by simp, fun a ha => ?_, fun a ha b hb => ?_⟩
  · have : (List.replicate net.length (0 : Int)).getD a 0 = 0 := by simp [List.getD_eq_getElem?_getD, ha]
    rw [this]; omega
  · have : (List.replicate net.length (0 : Int)).getD a 0 = 0 := by simp [List.getD_eq_getElem?_getD, ha]
    rw [this, if_neg (by unfold ahead; omega)]
    simp [bt]
end
/-- Bytes of joined pairs. -/
theorem cut_join : ∀ (prs : List ByteArray), prs ≠ [] → (∀ p ∈ prs, (44 : UInt8) ∉ p.data.toList) → cutL 44 (joinS prs str14).data.toList = prs.map (·.data.toList) := by
  have app : ∀ (l : List ByteArray) (t : List UInt8), (∀ p ∈ l, (44 : UInt8) ∉ p.data.toList) → ∀ x : List UInt8, (44 : UInt8) ∉ x → cutL 44 (x ++ Lib.joinTail [44] (l.map fun b => b.data.toList)) = x :: l.map fun b => b.data.toList := by
    intro l
    induction l with
    | nil => intro t _ x hx; simp [Lib.joinTail, cutL_one hx]
    | cons p l ih =>
      intro t hp x hx
      have := ih t (fun q hq => hp q (by simp [hq])) p.data.toList (hp p (by simp))
      have e : Lib.joinTail [44] ((p :: l).map fun b => b.data.toList) = 44 :: (p.data.toList ++ Lib.joinTail [44] (l.map fun b => b.data.toList)) := by simp [Lib.joinTail]
      rw [e, cutL_sep hx, this]
      rfl
  intro prs hne hp
  cases prs with
  | nil => exact absurd rfl hne
  | cons p l =>
    have := app l [] (fun q hq => hp q (by simp [hq])) p.data.toList (hp p (by simp))
    rw [List.map_cons, ← this]
    have e : (joinS (p :: l) str14).data.toList = Lib.join (p.data.toList :: l.map fun b => b.data.toList) [44] := rfl
    rw [e, Lib.join_cons]
end FN

/-! The texts of deeds, told; and cut. -/
namespace FN
open Go
def dtx (k a b : Int) : ByteArray :=
  if 0 ≤ a ∧ a ≤ 99 ∧ 0 ≤ b ∧ b ≤ 99 then
    (if k = 0 then ((str0 ++ itoaS a) ++ str1) ++ itoaS b else if b ≠ 0 then ByteArray.empty else if k = 1 then str2 ++ itoaS a else if k = 3 then str3 ++ itoaS a else if a ≠ 0 then ByteArray.empty else if k = 2 then str4 else if k = 4 then str5 else ByteArray.empty)
  else ByteArray.empty
theorem sdeed_val (k a b : Int) : s_DeedText_f (k, a, b) = some (dtx k a b) := by
  rw [s_DeedText_f_eq, l1In_val, Option.bind_some]
  by_cases ha : 0 ≤ a ∧ a ≤ 99
  · rw [decide_eq_true ha, l1In_val, Option.bind_some, Bool.not_true, cond_false]
    by_cases hb : 0 ≤ b ∧ b ≤ 99
    · rw [decide_eq_true hb, Bool.not_true, cond_false]
      unfold dtx
      rw [if_pos (show 0 ≤ a ∧ a ≤ 99 ∧ 0 ≤ b ∧ b ≤ 99 from ⟨ha.1, ha.2, hb⟩)]
      obtain ⟨z0, z1, z2, z3, z10, z11, z12⟩ := szs
      have sa := itoa_size ha.1 (show a < 100 by omega)
      have sb := itoa_size hb.1 (show b < 100 by omega)
      have na := num_val ha.1 (show a < 100 by omega)
      have nb := num_val hb.1 (show b < 100 by omega)
      by_cases k0 : k = 0
      · subst k0
        rw [if_pos rfl]
        simp only [beq_self_eq_true, Bool.true_and, cond_true]
        rw [na, Option.bind_some, if_pos (by rw [z0]; omega), if_pos (by rw [ByteArray.size_append, z0, z1]; omega), nb, Option.bind_some, if_pos (by rw [ByteArray.size_append, ByteArray.size_append, z0, z1]; omega)]
      · have e0 : (k == 0) = false := by simpa using k0
        rw [e0, if_neg k0]
        simp only [Bool.false_and, cond_false, beq_self_eq_true, Bool.true_and, Bool.and_true]
        by_cases hb0 : b = 0
        · subst hb0
          rw [if_neg (by simp)]
          simp only [beq_self_eq_true, Bool.and_true]
          by_cases k1 : k = 1
          · subst k1
            rw [if_pos rfl, show ((1 : Int) == 1) = true from rfl, cond_true, na, Option.bind_some, if_pos (by rw [z2]; omega)]
          · have e1 : (k == 1) = false := by simpa using k1
            rw [e1, if_neg k1]
            simp only [cond_false]
            by_cases k3 : k = 3
            · subst k3
              rw [if_pos rfl, show ((3 : Int) == 3) = true from rfl, cond_true, na, Option.bind_some, if_pos (by rw [z3]; omega)]
            · have e3 : (k == 3) = false := by simpa using k3
              rw [e3, if_neg k3]
              simp only [cond_false]
              by_cases ha0 : a = 0
              · subst ha0
                rw [if_neg (by simp)]
                simp only [beq_self_eq_true, Bool.and_true]
                by_cases k2 : k = 2
                · subst k2; rfl
                · have e2 : (k == 2) = false := by simpa using k2
                  rw [e2, if_neg k2]
                  by_cases k4 : k = 4
                  · subst k4; rfl
                  · have e4 : (k == 4) = false := by simpa using k4
                    rw [e4, if_neg k4]
                    rfl
              · have ea : (a == 0) = false := by simpa using ha0
                rw [ea, if_pos ha0]
                simp only [Bool.and_false, cond_false]
        · have eb : (b == 0) = false := by simpa using hb0
          rw [eb, if_pos hb0]
          simp only [Bool.and_false, cond_false]
    · rw [decide_eq_false hb]
      unfold dtx
      rw [if_neg (fun h => hb h.2.2)]
      rfl
  · rw [decide_eq_false ha]
    unfold dtx
    rw [if_neg (fun h => ha ⟨h.1, h.2.1⟩)]
    rfl
theorem deed_val (k a b : Int) : s_DeedText_f (k, a, b) = some (dtx k a b) ∧ i_DeedText_f (k, a, b) = some (dtx k a b) ∧ (dtx k a b).size ≤ 20 := by
  obtain ⟨s, h1, h2, h3⟩ := deedText_same k a b
  have h4 := sdeed_val k a b
  rw [h1] at h4
  have h5 := Option.some.inj h4
  subst h5
  exact ⟨h1, h2, h3⟩
/-- Numerals below a hundred: without spaces, and what their digits come to. -/
theorem it_d : (List.range 100).all (fun a => decide ((32 : UInt8) ∉ (itoaS (a : Int)).data.toList) && decide ((10 : UInt8) ∉ (itoaS (a : Int)).data.toList) && decide (1 ≤ (itoaS (a : Int)).data.toList.length ∧ (itoaS (a : Int)).data.toList.length ≤ 2) && decide (if (itoaS (a : Int)).data.toList.length = 1 then (48 ≤ ((itoaS (a : Int)).data.toList.getD 0 0).toNat ∧ ((itoaS (a : Int)).data.toList.getD 0 0).toNat ≤ 57 ∧ dig ((itoaS (a : Int)).data.toList.getD 0 0) = (a : Int)) else (48 ≤ ((itoaS (a : Int)).data.toList.getD 0 0).toNat ∧ ((itoaS (a : Int)).data.toList.getD 0 0).toNat ≤ 57 ∧ ((itoaS (a : Int)).data.toList.getD 0 0).toNat ≠ 48 ∧ 48 ≤ ((itoaS (a : Int)).data.toList.getD 1 0).toNat ∧ ((itoaS (a : Int)).data.toList.getD 1 0).toNat ≤ 57 ∧ 10 * dig ((itoaS (a : Int)).data.toList.getD 0 0) + dig ((itoaS (a : Int)).data.toList.getD 1 0) = (a : Int)))) = true := by kernel_rfl
theorem it_l {a : Int} (h0 : 0 ≤ a) (h1 : a ≤ 99) : (32 : UInt8) ∉ (itoaS a).data.toList ∧ (10 : UInt8) ∉ (itoaS a).data.toList ∧ ((∃ x, (itoaS a).data.toList = [x] ∧ 48 ≤ x.toNat ∧ x.toNat ≤ 57 ∧ dig x = a) ∨ ∃ x y, (itoaS a).data.toList = [x, y] ∧ 48 ≤ x.toNat ∧ x.toNat ≤ 57 ∧ x.toNat ≠ 48 ∧ 48 ≤ y.toNat ∧ y.toNat ≤ 57 ∧ 10 * dig x + dig y = a) := by
  obtain ⟨m, rfl⟩ : ∃ m : Nat, a = m := ⟨a.toNat, by omega⟩
  have h2 := List.all_eq_true.1 it_d m (List.mem_range.2 (by omega))
  simp only [Bool.and_eq_true, decide_eq_true_eq] at h2
  obtain ⟨⟨⟨h3, h4⟩, h5⟩, h6⟩ := h2
  refine ⟨h3, h4, ?_⟩
  generalize (itoaS (m : Int)).data.toList = l at h5 h6
  match l, h5, h6 with
  | [x], _, h6 => exact .inl ⟨x, rfl, by simpa using h6⟩
  | [x, y], _, h6 => exact .inr ⟨x, y, rfl, by simpa using h6⟩
theorem digits_itoa {a : Int} (h0 : 0 ≤ a) (h1 : a ≤ 99) : s_l1Digits_f (itoaS a) = some a := by
  obtain ⟨_, _, h⟩ := it_l h0 h1
  rw [← of_data (itoaS a)]
  rcases h with ⟨x, e, a1, a2, a3⟩ | ⟨x, y, e, a1, a2, a3, a4, a5, a6⟩
  · rw [e, digits_one, if_pos ⟨a1, a2⟩, a3]
  · have hd : dig x = (x.toNat : Int) - 48 := rfl
    rw [e, s_l1Digits_f_eq, ofL_size, l1In_val, Option.bind_some, show (!decide (1 ≤ (([x, y] : List UInt8).length : Int) ∧ (([x, y] : List UInt8).length : Int) ≤ 6)) = false from rfl, cond_false, cnd_t (show (1 : Int) < (([x, y] : List UInt8).length : Int) by simp), if_pos (by simp)]
    rw [show List.getD (ByteArray.data (ofL [x, y])).toList (0 : Int).toNat 0 = x from rfl, beq_f (by omega)]
    have s1 := digits_step (L := [x, y]) (k := 0) (by simp) (by simp) (n := 0) (by omega) (by omega)
    have s2 := digits_step (L := [x, y]) (k := 1) (by simp) (by simp) (n := 10 * 0 + dig x) (by omega) (by omega)
    have s3 := digits_end (L := [x, y]) (n := 10 * (10 * 0 + dig x) + dig y)
    refine (s1.trans (if_pos ⟨a1, a2⟩)).trans ((s2.trans (if_pos ⟨a4, a5⟩)).trans (s3.trans ?_))
    rw [Int.mul_zero, Int.zero_add, a6]
end FN

/-! Deeds read: the program's and the reference's answer. -/
namespace FN
open Go
theorem beq_b {a b : ByteArray} {α : Type} {x y : α} : cond (ByteArray.toList a == ByteArray.toList b) x y = if a = b then x else y := by
  rw [toL, toL]
  by_cases h : a = b
  · rw [if_pos h, h]; simp
  · rw [if_neg h]
    have : (a.data.toList == b.data.toList) = false := by
      rw [beq_eq_false_iff_ne]
      intro e
      exact h (ba_ext e)
    rw [this]; rfl
theorem nbeq_b {a b : ByteArray} {α : Type} {x y : α} : cond (!(ByteArray.toList a == ByteArray.toList b)) x y = if a = b then y else x := by
  rw [show cond (!(ByteArray.toList a == ByteArray.toList b)) x y = cond (ByteArray.toList a == ByteArray.toList b) y x by cases (ByteArray.toList a == ByteArray.toList b) <;> rfl, beq_b]
def idx (w : ByteArray) : Int := if w = str10 then 0 else if w = str11 then 1 else if w = str4 then 2 else if w = str12 then 3 else if w = str5 then 4 else -1
abbrev wds : List ByteArray := [str10, str11, str4, str12, str5]
theorem index_val (w : ByteArray) : x_slices_Index_string_string_f (wds, w) = some (idx w) := by
  have w0 : IntKind.i64.wrap (0 + 1) = 1 := by decide
  have w1 : IntKind.i64.wrap (1 + 1) = 2 := by decide
  have w2 : IntKind.i64.wrap (2 + 1) = 3 := by decide
  have w3 : IntKind.i64.wrap (3 + 1) = 4 := by decide
  have w4 : IntKind.i64.wrap (4 + 1) = 5 := by decide
  have hl : (List.length wds : Int) = 5 := rfl
  rw [x_slices_Index_string_string_f_eq, hl]
  unfold idx
  rw [x_slices_Index_string_string_l0_eq, cnd_t (by omega), if_pos (by rw [hl]; omega), show List.getD wds (0 : Int).toNat ByteArray.empty = str10 from rfl, beq_b, w0]
  by_cases h : w = str10
  · rw [if_pos h, if_pos h]
  rw [if_neg h, if_neg h, x_slices_Index_string_string_l0_eq, cnd_t (by omega), if_pos (by rw [hl]; omega), show List.getD wds (1 : Int).toNat ByteArray.empty = str11 from rfl, beq_b, w1]
  by_cases h : w = str11
  · rw [if_pos h, if_pos h]
  rw [if_neg h, if_neg h, x_slices_Index_string_string_l0_eq, cnd_t (by omega), if_pos (by rw [hl]; omega), show List.getD wds (2 : Int).toNat ByteArray.empty = str4 from rfl, beq_b, w2]
  by_cases h : w = str4
  · rw [if_pos h, if_pos h]
  rw [if_neg h, if_neg h, x_slices_Index_string_string_l0_eq, cnd_t (by omega), if_pos (by rw [hl]; omega), show List.getD wds (3 : Int).toNat ByteArray.empty = str12 from rfl, beq_b, w3]
  by_cases h : w = str12
  · rw [if_pos h, if_pos h]
  rw [if_neg h, if_neg h, x_slices_Index_string_string_l0_eq, cnd_t (by omega), if_pos (by rw [hl]; omega), show List.getD wds (4 : Int).toNat ByteArray.empty = str5 from rfl, beq_b, w4]
  by_cases h : w = str5
  · rw [if_pos h, if_pos h]
  rw [if_neg h, if_neg h, x_slices_Index_string_string_l0_eq, cnd_f (by omega)]
theorem idx_rng (w : ByteArray) : -1 ≤ idx w ∧ idx w ≤ 4 := by
  unfold idx
  repeat' split
  all_goals omega
abbrev noD : Int × Int × Int × Bool := (0, 0, 0, false)
theorem atoi_val {w : ByteArray} (h : w.size ≤ 281474976710656) : x_strconv_Atoi_f w = some (atoiV w, ()) := if_pos h
theorem atoi_d : (List.range 100).all (fun a => decide (atoiV (itoaS (a : Int)) = (a : Int))) = true := by kernel_rfl
theorem atoi_itoa {a : Int} (h0 : 0 ≤ a) (h1 : a ≤ 99) : atoiV (itoaS a) = a := by
  obtain ⟨m, rfl⟩ : ∃ m : Nat, a = m := ⟨a.toNat, by omega⟩
  have := List.all_eq_true.1 atoi_d m (List.mem_range.2 (by omega))
  simpa using this
theorem i_j1 (S : ByteArray) (y1 y2 y3 k a b : Int) : i_ReadDeed_j1 S y1 y2 y3 k a b = some (if dtx k a b = S then (k, a, b, true) else noD) := by
  rw [i_ReadDeed_j1_eq, (deed_val k a b).2.1, Option.bind_some, nbeq_b]
  split <;> rfl
/-- A part's place. -/
theorem gW {W : List (List UInt8)} {i : Nat} {p : List UInt8} (h : W[i]? = some p) : List.getD (W.map ofL) ((i : Int)).toNat ByteArray.empty = ofL p := by
  rw [Int.toNat_natCast, List.getD_eq_getElem?_getD, List.getElem?_map, h]; rfl
def prt (W : List (List UInt8)) (i : Nat) : ByteArray := ofL (W.getD i [])
theorem gW' {W : List (List UInt8)} {i : Nat} (h : i < W.length) : List.getD (W.map ofL) ((i : Int)).toNat ByteArray.empty = prt W i := by
  rw [gW (List.getElem?_eq_getElem h)]
  unfold prt
  rw [List.getD_eq_getElem?_getD, List.getElem?_eq_getElem h]; rfl
/-- What the program makes of the parts. -/
def iA (W : List (List UInt8)) : Int := if 1 < W.length then atoiV (prt W 1) else 0
def iB (W : List (List UInt8)) : Int := if 2 < W.length then atoiV (prt W 2) else 0
def iOf (S : ByteArray) (W : List (List UInt8)) : Int × Int × Int × Bool :=
  if idx (prt W 0) < 0 then noD else if 3 < W.length then noD else if dtx (idx (prt W 0)) (iA W) (iB W) = S then (idx (prt W 0), iA W, iB W, true) else noD
theorem prt_size {L : List UInt8} {i : Nat} (hi : i < (cutL 32 L).length) (hL : L.length ≤ 4294967280) : (prt (cutL 32 L) i).size ≤ 281474976710656 := by
  unfold prt
  rw [ofL_size, List.getD_eq_getElem?_getD, List.getElem?_eq_getElem hi]
  have := cutL_word 32 L _ (List.getElem_mem hi)
  show ((cutL 32 L)[i]).length ≤ _
  omega
theorem kindOf {r : Int} (h0 : 0 ≤ r) (h1 : r ≤ 4) : List.getD ([0, 1, 2, 3, 4] : List Int) (r : Int).toNat 0 = r := by
  obtain rfl | rfl | rfl | rfl | rfl : r = 0 ∨ r = 1 ∨ r = 2 ∨ r = 3 ∨ r = 4 := by omega
  all_goals rfl
theorem i_val (L : List UInt8) (hL : L.length ≤ 4294967280) : i_ReadDeed_f (ofL L) = some (iOf (ofL L) (cutL 32 L)) := by
  have hne : 0 < (cutL 32 L).length := List.length_pos_iff.2 (cutL_ne 32 L)
  have hlen := cutL_len 32 L
  have hj0 : ∀ k a : Int, (cutL 32 L).length ≤ 3 → i_ReadDeed_j0 (ofL L) ((cutL 32 L).map ofL) 0 0 0 k a 0 = some (if dtx k a (iB (cutL 32 L)) = ofL L then (k, a, iB (cutL 32 L), true) else noD) := by
    intro k a h3
    rw [i_ReadDeed_j0_eq, List.length_map]
    unfold iB
    by_cases h2 : 2 < (cutL 32 L).length
    · rw [cnd_t (by omega), if_pos (by omega), show List.getD ((cutL 32 L).map ofL) (2 : Int).toNat ByteArray.empty = prt (cutL 32 L) 2 from gW' h2, atoi_val (prt_size h2 hL), Option.bind_some, i_j1, if_pos h2]
    · rw [cnd_f (by omega), i_j1, if_neg h2]
  rw [i_ReadDeed_f_eq, show x_strings_Split_f (ofL L, str1) = _ from split_val L 32 hL, Option.bind_some, List.length_map, if_pos (by omega), show List.getD ((cutL 32 L).map ofL) (0 : Int).toNat ByteArray.empty = prt (cutL 32 L) 0 from gW' hne, index_val, Option.bind_some]
  unfold iOf
  have hr := idx_rng (prt (cutL 32 L) 0)
  by_cases h0 : idx (prt (cutL 32 L) 0) < 0
  · rw [cnd_t h0, if_pos h0]
  rw [cnd_f h0, if_neg h0]
  by_cases h3 : 3 < (cutL 32 L).length
  · rw [cnd_t (by omega), if_pos h3]
  rw [cnd_f (by omega), if_neg h3, if_pos (show (0 : Int) ≤ idx (prt (cutL 32 L) 0) ∧ idx (prt (cutL 32 L) 0) < (List.length ([0, 1, 2, 3, 4] : List Int) : Int) from ⟨by omega, by show _ < (5 : Int); omega⟩), kindOf (by omega) hr.2]
  by_cases h1 : 1 < (cutL 32 L).length
  · rw [cnd_t (by omega), if_pos (by omega), show List.getD ((cutL 32 L).map ofL) (1 : Int).toNat ByteArray.empty = prt (cutL 32 L) 1 from gW' h1, atoi_val (prt_size h1 hL), Option.bind_some, hj0 _ _ (by omega), show iA (cutL 32 L) = atoiV (prt (cutL 32 L) 1) from if_pos h1]
  · rw [cnd_f (by omega), hj0 _ _ (by omega), show iA (cutL 32 L) = 0 from if_neg h1]
end FN

namespace FN
open Go
theorem szD (s : ByteArray) : s.size = s.data.toList.length := by rw [Array.length_toList]; rfl
abbrev Dd3 := Int × Int × Int
theorem gD3 {l : List Dd3} (i : Nat) : List.getD l ((i : Int)).toNat (0, 0, 0) = l.getD i (0, 0, 0) := by simp
theorem dtx_cut {k a b : Int} (h : dtx k a b ≠ ByteArray.empty) :
    (k = 0 ∧ (0 ≤ a ∧ a ≤ 99) ∧ (0 ≤ b ∧ b ≤ 99) ∧ cutL 32 (dtx k a b).data.toList = [str10.data.toList, (itoaS a).data.toList, (itoaS b).data.toList]) ∨
    (k = 1 ∧ b = 0 ∧ (0 ≤ a ∧ a ≤ 99) ∧ cutL 32 (dtx k a b).data.toList = [str11.data.toList, (itoaS a).data.toList]) ∨
    (k = 3 ∧ b = 0 ∧ (0 ≤ a ∧ a ≤ 99) ∧ cutL 32 (dtx k a b).data.toList = [str12.data.toList, (itoaS a).data.toList]) ∨
    (k = 2 ∧ a = 0 ∧ b = 0 ∧ cutL 32 (dtx k a b).data.toList = [str4.data.toList]) ∨
    (k = 4 ∧ a = 0 ∧ b = 0 ∧ cutL 32 (dtx k a b).data.toList = [str5.data.toList]) := by
  unfold dtx at h ⊢
  by_cases hr : 0 ≤ a ∧ a ≤ 99 ∧ 0 ≤ b ∧ b ≤ 99
  · rw [if_pos hr] at h ⊢
    obtain ⟨nA, _, _⟩ := it_l (a := a) (by omega) (by omega)
    obtain ⟨nB, _, _⟩ := it_l (a := b) (by omega) (by omega)
    by_cases k0 : k = 0
    · refine .inl ⟨k0, ⟨by omega, by omega⟩, ⟨by omega, by omega⟩, ?_⟩
      rw [if_pos k0, ba_app, ba_app, ba_app]
      have e : str0.data.toList ++ (itoaS a).data.toList ++ str1.data.toList ++ (itoaS b).data.toList = str10.data.toList ++ 32 :: ((itoaS a).data.toList ++ 32 :: (itoaS b).data.toList) := by
        rw [show str0.data.toList = str10.data.toList ++ [32] from rfl, show str1.data.toList = [32] from rfl]
        simp
      rw [e, cutL_sep (by decide), cutL_sep nA, cutL_one nB]
    · rw [if_neg k0] at h ⊢
      by_cases b0 : b ≠ 0
      · rw [if_pos b0] at h; exact absurd rfl h
      · have b0' : b = 0 := by omega
        rw [if_neg b0] at h ⊢
        by_cases k1 : k = 1
        · refine .inr (.inl ⟨k1, b0', ⟨by omega, by omega⟩, ?_⟩)
          rw [if_pos k1, ba_app]
          have e : str2.data.toList ++ (itoaS a).data.toList = str11.data.toList ++ 32 :: (itoaS a).data.toList := by
            rw [show str2.data.toList = str11.data.toList ++ [32] from rfl]
            simp
          rw [e, cutL_sep (by decide), cutL_one nA]
        · rw [if_neg k1] at h ⊢
          by_cases k3 : k = 3
          · refine .inr (.inr (.inl ⟨k3, b0', ⟨by omega, by omega⟩, ?_⟩))
            rw [if_pos k3, ba_app]
            have e : str3.data.toList ++ (itoaS a).data.toList = str12.data.toList ++ 32 :: (itoaS a).data.toList := by
              rw [show str3.data.toList = str12.data.toList ++ [32] from rfl]
              simp
            rw [e, cutL_sep (by decide), cutL_one nA]
          · rw [if_neg k3] at h ⊢
            by_cases a0 : a ≠ 0
            · rw [if_pos a0] at h; exact absurd rfl h
            · have a0' : a = 0 := by omega
              rw [if_neg a0] at h ⊢
              by_cases k2 : k = 2
              · exact .inr (.inr (.inr (.inl ⟨k2, a0', b0', by rw [if_pos k2]; decide⟩)))
              · rw [if_neg k2] at h ⊢
                by_cases k4 : k = 4
                · exact .inr (.inr (.inr (.inr ⟨k4, a0', b0', by rw [if_pos k4]; decide⟩)))
                · rw [if_neg k4] at h; exact absurd rfl h
  · rw [if_neg hr] at h; exact absurd rfl h
theorem idx_words : idx str10 = 0 ∧ idx str11 = 1 ∧ idx str4 = 2 ∧ idx str12 = 3 ∧ idx str5 = 4 ∧ idx ByteArray.empty = -1 := by
  refine ⟨?_, ?_, ?_, ?_, ?_, ?_⟩ <;> decide
theorem i_back {k a b : Int} (h : dtx k a b ≠ ByteArray.empty) : i_ReadDeed_f (dtx k a b) = some (k, a, b, true) := by
  have hs := (deed_val k a b).2.2
  have hv := i_val (dtx k a b).data.toList (by rw [← szD]; omega)
  rw [of_data] at hv
  rw [hv]
  obtain ⟨x0, x1, x2, x3, x4, _⟩ := idx_words
  rcases dtx_cut h with ⟨rfl, ha, hb, hc⟩ | ⟨rfl, rfl, ha, hc⟩ | ⟨rfl, rfl, ha, hc⟩ | ⟨rfl, rfl, rfl, hc⟩ | ⟨rfl, rfl, rfl, hc⟩
  · rw [hc]
    unfold iOf iA iB
    rw [show prt [str10.data.toList, (itoaS a).data.toList, (itoaS b).data.toList] 0 = str10 from of_data str10, show prt [str10.data.toList, (itoaS a).data.toList, (itoaS b).data.toList] 1 = itoaS a from of_data _, show prt [str10.data.toList, (itoaS a).data.toList, (itoaS b).data.toList] 2 = itoaS b from of_data _, x0, atoi_itoa ha.1 ha.2, atoi_itoa hb.1 hb.2]
    simp
  · rw [hc]
    unfold iOf iA iB
    rw [show prt [str11.data.toList, (itoaS a).data.toList] 0 = str11 from of_data str11, show prt [str11.data.toList, (itoaS a).data.toList] 1 = itoaS a from of_data _, x1, atoi_itoa ha.1 ha.2]
    simp
  · rw [hc]
    unfold iOf iA iB
    rw [show prt [str12.data.toList, (itoaS a).data.toList] 0 = str12 from of_data str12, show prt [str12.data.toList, (itoaS a).data.toList] 1 = itoaS a from of_data _, x3, atoi_itoa ha.1 ha.2]
    simp
  · rw [hc]
    unfold iOf iA iB
    rw [show prt [str4.data.toList] 0 = str4 from of_data str4, x2]
    simp
  · rw [hc]
    unfold iOf iA iB
    rw [show prt [str5.data.toList] 0 = str5 from of_data str5, x4]
    simp
theorem l2_val (S : ByteArray) (l : List Dd3) (hl : l.length ≤ 100) : ∀ i, i ≤ l.length → (s_ReadDeed_l2 S (i : Int) 0 0 0 l = some noD ∧ ∀ j, i ≤ j → j < l.length → S = ByteArray.empty ∨ dtx (l.getD j (0, 0, 0)).1 (l.getD j (0, 0, 0)).2.1 (l.getD j (0, 0, 0)).2.2 ≠ S) ∨ ∃ k a b, s_ReadDeed_l2 S (i : Int) 0 0 0 l = some (k, a, b, true) ∧ dtx k a b = S ∧ S ≠ ByteArray.empty := by
  refine advN ?_ fun i hi ih => ?_
  · refine .inl ⟨?_, fun j h1 h2 => by omega⟩
    rw [s_ReadDeed_l2_eq, cnd_f (by omega)]
  · rw [s_ReadDeed_l2_eq, cnd_t (by omega), nbeq_b, w1 hi (by omega)]
    by_cases hS : S = ByteArray.empty
    · rw [if_pos hS]
      rcases ih with ⟨h1, h2⟩ | ⟨k, a, b, h1, h2, h3⟩
      · exact .inl ⟨h1, fun j _ _ => .inl hS⟩
      · exact absurd hS h3
    · rw [if_neg hS, if_pos (inN hi), gD3, (deed_val _ _ _).1, Option.bind_some, beq_b, if_pos (inN hi)]
      by_cases hd : dtx (l.getD i (0, 0, 0)).1 (l.getD i (0, 0, 0)).2.1 (l.getD i (0, 0, 0)).2.2 = S
      · rw [if_pos hd]
        exact .inr ⟨_, _, _, rfl, hd, hS⟩
      · rw [if_neg hd]
        rcases ih with ⟨h1, h2⟩ | h
        · refine .inl ⟨h1, fun j h3 h4 => ?_⟩
          by_cases e : j = i
          · rw [e]; exact .inr hd
          · exact h2 j (by omega) h4
        · exact .inr h
theorem s_digits (w : ByteArray) : ∃ v : Int, s_l1Digits_f w = some v := by
  rw [← of_data w]
  by_cases h : w.data.toList.length = 1
  · obtain ⟨a, ha⟩ : ∃ a, w.data.toList = [a] := by
      match w.data.toList, h with
      | [a], _ => exact ⟨a, rfl⟩
    rw [ha, digits_one]
    exact ⟨_, rfl⟩
  · obtain ⟨v, e, _⟩ := digits_other h
    exact ⟨v, e⟩
theorem mem_idx {l : List Dd3} {d : Dd3} (h : d ∈ l) : ∃ j, j < l.length ∧ l.getD j (0, 0, 0) = d := by
  obtain ⟨j, hj⟩ := List.getElem?_of_mem h
  obtain ⟨h1, h2⟩ := List.getElem?_eq_some_iff.1 hj
  exact ⟨j, h1, by rw [List.getD_eq_getElem?_getD, hj]; rfl⟩
/-- The reference goes through a list in which each deed of this text is. -/
theorem s_list (L : List UInt8) (hL : L.length ≤ 1099511627776) : ∃ l : List Dd3, l.length ≤ 5 ∧ s_ReadDeed_f (ofL L) = s_ReadDeed_l2 (ofL L) 0 0 0 0 l ∧ ∀ k a b, dtx k a b = ofL L → ofL L ≠ ByteArray.empty → (k, a, b) ∈ l := by
  have hlen := cutL_len 32 L
  have hfind : ∀ k a b, dtx k a b = ofL L → ofL L ≠ ByteArray.empty → (k = 2 ∧ a = 0 ∧ b = 0) ∨ (k = 4 ∧ a = 0 ∧ b = 0) ∨ ((cutL 32 L).length = 2 ∧ (k = 1 ∨ k = 3) ∧ b = 0 ∧ s_l1Digits_f (prt (cutL 32 L) 1) = some a) ∨ ((cutL 32 L).length = 3 ∧ k = 0 ∧ s_l1Digits_f (prt (cutL 32 L) 1) = some a ∧ s_l1Digits_f (prt (cutL 32 L) 2) = some b) := by
    intro k a b he hn
    have hL' : (dtx k a b).data.toList = L := by rw [he]; rfl
    have hne : dtx k a b ≠ ByteArray.empty := by rw [he]; exact hn
    rcases dtx_cut hne with ⟨h1, ha, hb, hc⟩ | ⟨h1, h2, ha, hc⟩ | ⟨h1, h2, ha, hc⟩ | ⟨h1, h2, h3, hc⟩ | ⟨h1, h2, h3, hc⟩
    · rw [hL'] at hc
      rw [hc]
      refine .inr (.inr (.inr ⟨rfl, h1, ?_, ?_⟩))
      · rw [show prt [str10.data.toList, (itoaS a).data.toList, (itoaS b).data.toList] 1 = itoaS a from of_data _]; exact digits_itoa ha.1 ha.2
      · rw [show prt [str10.data.toList, (itoaS a).data.toList, (itoaS b).data.toList] 2 = itoaS b from of_data _]; exact digits_itoa hb.1 hb.2
    · rw [hL'] at hc
      rw [hc]
      refine .inr (.inr (.inl ⟨rfl, .inl h1, h2, ?_⟩))
      rw [show prt [str11.data.toList, (itoaS a).data.toList] 1 = itoaS a from of_data _]; exact digits_itoa ha.1 ha.2
    · rw [hL'] at hc
      rw [hc]
      refine .inr (.inr (.inl ⟨rfl, .inr h1, h2, ?_⟩))
      rw [show prt [str12.data.toList, (itoaS a).data.toList] 1 = itoaS a from of_data _]; exact digits_itoa ha.1 ha.2
    · exact .inl ⟨h1, h2, h3⟩
    · exact .inr (.inl ⟨h1, h2, h3⟩)
  rw [s_ReadDeed_f_eq, show s_l1Cut_f (ofL L, (32 : Int)) = _ from cut_val L 32 hL, Option.bind_some, List.length_map]
  by_cases h2 : (cutL 32 L).length = 2
  · obtain ⟨v, hv⟩ := s_digits (prt (cutL 32 L) 1)
    rw [beq_t (by omega), if_pos (by omega), show List.getD ((cutL 32 L).map ofL) (1 : Int).toNat ByteArray.empty = prt (cutL 32 L) 1 from gW' (i := 1) (show 1 < (cutL 32 L).length by omega), hv, Option.bind_some, if_pos (by simp), s_ReadDeed_j0_eq, List.length_map, beq_f (by omega), s_ReadDeed_j1_eq]
    refine ⟨_, by simp, rfl, fun k a b he hn => ?_⟩
    rcases hfind k a b he hn with ⟨h1, h3, h4⟩ | ⟨h1, h3, h4⟩ | ⟨_, h1, h3, h4⟩ | ⟨h1, _⟩
    · subst h1; subst h3; subst h4; simp
    · subst h1; subst h3; subst h4; simp
    · rw [hv] at h4
      have := Option.some.inj h4
      subst this; subst h3
      rcases h1 with rfl | rfl <;> simp
    · omega
  · rw [beq_f (by omega), s_ReadDeed_j0_eq, List.length_map]
    by_cases h3 : (cutL 32 L).length = 3
    · obtain ⟨v, hv⟩ := s_digits (prt (cutL 32 L) 1)
      obtain ⟨u, hu⟩ := s_digits (prt (cutL 32 L) 2)
      rw [beq_t (by omega), if_pos (by omega), if_pos (by omega), show List.getD ((cutL 32 L).map ofL) (1 : Int).toNat ByteArray.empty = prt (cutL 32 L) 1 from gW' (i := 1) (show 1 < (cutL 32 L).length by omega), hv, Option.bind_some, show List.getD ((cutL 32 L).map ofL) (2 : Int).toNat ByteArray.empty = prt (cutL 32 L) 2 from gW' (i := 2) (show 2 < (cutL 32 L).length by omega), hu, Option.bind_some, if_pos (by simp), s_ReadDeed_j1_eq]
      refine ⟨_, by simp, rfl, fun k a b he hn => ?_⟩
      rcases hfind k a b he hn with ⟨h1, h4, h5⟩ | ⟨h1, h4, h5⟩ | ⟨h1, _⟩ | ⟨_, h1, h4, h5⟩
      · subst h1; subst h4; subst h5; simp
      · subst h1; subst h4; subst h5; simp
      · omega
      · rw [hv] at h4
        rw [hu] at h5
        have e1 := Option.some.inj h4
        have e2 := Option.some.inj h5
        subst e1; subst e2; subst h1
        simp
    · rw [beq_f (by omega), s_ReadDeed_j1_eq]
      refine ⟨_, by simp, rfl, fun k a b he hn => ?_⟩
      rcases hfind k a b he hn with ⟨h1, h4, h5⟩ | ⟨h1, h4, h5⟩ | ⟨h1, _⟩ | ⟨h1, _⟩
      · subst h1; subst h4; subst h5; simp
      · subst h1; subst h4; subst h5; simp
      · omega
      · omega
/-- Both read alike: the deed whose text it is, or none. -/
theorem deed_same (L : List UInt8) (hL : L.length ≤ 4294967280) : ∃ r, i_ReadDeed_f (ofL L) = some r ∧ s_ReadDeed_f (ofL L) = some r ∧ (r = noD ∧ (∀ k a b, dtx k a b = ofL L → ofL L = ByteArray.empty) ∨ ∃ k a b, r = (k, a, b, true) ∧ dtx k a b = ofL L ∧ ofL L ≠ ByteArray.empty) := by
  obtain ⟨l, hl, e1, hm⟩ := s_list L (by omega)
  have hs := l2_val (ofL L) l (by omega) 0 (by omega)
  by_cases h : ∃ k a b, dtx k a b = ofL L ∧ ofL L ≠ ByteArray.empty
  · obtain ⟨k, a, b, h1, h2⟩ := h
    have hi := i_back (k := k) (a := a) (b := b) (by rw [h1]; exact h2)
    rw [h1] at hi
    refine ⟨(k, a, b, true), hi, ?_, .inr ⟨k, a, b, rfl, h1, h2⟩⟩
    rcases hs with ⟨h3, h4⟩ | ⟨k', a', b', h3, h4, h5⟩
    · obtain ⟨j, hj, hd⟩ := mem_idx (hm k a b h1 h2)
      rcases h4 j (by omega) hj with h6 | h6
      · exact absurd h6 h2
      · rw [hd] at h6
        exact absurd h1 h6
    · have hi' := i_back (k := k') (a := a') (b := b') (by rw [h4]; exact h5)
      rw [h4, hi] at hi'
      rw [e1]
      exact h3.trans hi'.symm
  · have hno : ∀ k a b, dtx k a b = ofL L → ofL L = ByteArray.empty := fun k a b h1 => Classical.byContradiction fun h2 => h ⟨k, a, b, h1, h2⟩
    refine ⟨noD, ?_, ?_, .inl ⟨rfl, hno⟩⟩
    · rw [i_val L hL]
      have key : iOf (ofL L) (cutL 32 L) = noD := by
       unfold iOf
       split
       · rfl
       · split
         · rfl
         · split
           · rename_i h1 _ h2
             have h3 := hno _ _ _ h2
             have h4 : L = [] := by
               have := congrArg (fun s : ByteArray => s.data.toList) h3
               exact this
             subst h4
             rw [show prt (cutL 32 []) 0 = ByteArray.empty from rfl, idx_words.2.2.2.2.2] at h1
             exact absurd (show (-1 : Int) < 0 by omega) h1
           · rfl
      rw [key]
    · rw [e1]
      rcases hs with ⟨h3, _⟩ | ⟨k', a', b', h3, h4, h5⟩
      · exact h3
      · exact absurd (hno _ _ _ h4) h5
end FN

/-! Desks: the reference's deeds answer always. -/
namespace FN
open Go
abbrev Pl := List Int × Int × List Int
def smP (n : Nat) (p : Pl) : Prop := p.1.length ≤ n ∧ p.2.2.length ≤ n
theorem gP {l : List Pl} (i : Nat) : List.getD l ((i : Int)).toNat ([], 0, []) = l.getD i ([], 0, []) := by simp
theorem getD_mem {α : Type} {l : List α} {i : Nat} {d : α} (h : i < l.length) : l.getD i d ∈ l := by
  rw [List.getD_eq_getElem?_getD, List.getElem?_eq_getElem h]; exact List.getElem_mem h
def PlPp (p : Pl) : Prop := PlP p.1 p.2.1 p.2.2
instance (p : Pl) : Decidable (PlPp p) := inferInstanceAs (Decidable (PlP _ _ _))
def DkP (a : List Int) (k : Int) (b : List Int) (l : List Pl) : Prop := (∀ p ∈ l, PlPp p) ∧ PlP a k b ∧ l.length ≤ 8
instance (a : List Int) (k : Int) (b : List Int) (l : List Pl) : Decidable (DkP a k b l) := inferInstanceAs (Decidable (_ ∧ _))
theorem sdesk (a : List Int) (k : Int) (b : List Int) (l : List Pl) (hb : b.length ≤ 4611686018427387904) (hl : l.length ≤ 4611686018427387904) (hs : ∀ p ∈ l, smP 4611686018427387904 p) : s_DeskOk_f (a, k, b, l) = some (decide (DkP a k b l)) := by
  apply Tells.val
  rw [s_DeskOk_f_eq]
  have hj : Tells (s_DeskOk_j1 a k b l) (PlP a k b ∧ l.length ≤ 8) := by
    rw [s_DeskOk_j1_eq, spl _ _ _ hb, Option.bind_some]
    by_cases c : PlP a k b
    · rw [decide_eq_true c]; exact Tells.dec.iff ⟨fun h => ⟨c, by omega⟩, fun h => by omega⟩
    · rw [decide_eq_false c]; exact Tells.no fun h => c h.1
  have main : ∀ i, i ≤ l.length → Tells (s_DeskOk_l0 (i : Int) a k b l) ((∀ j, i ≤ j → j < l.length → PlPp (l.getD j ([], 0, []))) ∧ (PlP a k b ∧ l.length ≤ 8)) := by
    refine advN ?_ fun i hi ih => ?_
    · refine (Tells.eq ?_ hj).iff ⟨fun h => ⟨fun j h1 h2 => by omega, h⟩, fun h => h.2⟩
      rw [s_DeskOk_l0_eq, cnd_f (by omega)]
    · have hm := hs _ (getD_mem (d := ([], 0, [])) hi)
      rw [s_DeskOk_l0_eq, cnd_t (by omega), if_pos (inN hi), gP, spl _ _ _ hm.2, Option.bind_some, w1 hi (by omega)]
      by_cases c : PlPp (l.getD i ([], 0, []))
      · rw [decide_eq_true (show PlP (l.getD i ([], 0, [])).1 (l.getD i ([], 0, [])).2.1 (l.getD i ([], 0, [])).2.2 from c)]
        refine ih.iff ⟨fun h => ⟨fun j h1 h2 => ?_, h.2⟩, fun h => ⟨fun j h1 h2 => h.1 j (by omega) h2, h.2⟩⟩
        by_cases e : j = i
        · rw [e]; exact c
        · exact h.1 j (by omega) h2
      · rw [decide_eq_false (show ¬ PlP (l.getD i ([], 0, [])).1 (l.getD i ([], 0, [])).2.1 (l.getD i ([], 0, [])).2.2 from c)]
        exact Tells.no fun h => c (h.1 i (Nat.le_refl i) hi)
  refine (main 0 (by omega)).iff ⟨fun h => ⟨fun p hp => ?_, h.2⟩, fun h => ⟨fun j _ hj => h.1 _ (getD_mem hj), h.2⟩⟩
  obtain ⟨j, hj, rfl⟩ := List.getElem_of_mem hp
  have := h.1 j (by omega) hj
  rwa [List.getD_eq_getElem?_getD, List.getElem?_eq_getElem hj] at this
theorem l15Place_val (a : List Int) (k : Int) (b : List Int) (ha : a.length ≤ 1000000) (hb : b.length ≤ 1000000) : s_l15Place_f (a, k, b) = some (a, k, b) := by
  rw [s_l15Place_f_eq, if_pos (by simp; omega), if_pos (by simp; omega)]
  rfl
theorem PlP.sm {a : List Int} {k : Int} {b : List Int} (h : PlP a k b) : a.length ≤ 6 ∧ b.length ≤ 6 := ⟨h.1.hi, h.2.1.2.2.2.2⟩
theorem copy_loop1 (a : List Int) (k : Int) (b : List Int) (l : List Pl) (y5 : Int) (hl : l.length ≤ 100) (hs : ∀ p ∈ l, PlPp p) : ∀ i, i ≤ l.length → s_l15Copy_l1 (i : Int) a k b l y5 k a b (l.take i) = some (a, k, b, l) := by
  refine advN ?_ fun i hi ih => ?_
  · rw [s_l15Copy_l1_eq, cnd_f (by omega), List.take_length]
  · have hm := PlP.sm (hs _ (getD_mem (d := ([], 0, [])) hi))
    rw [s_l15Copy_l1_eq, cnd_t (by omega), if_pos (inN hi), gP, l15Place_val _ _ _ (by omega) (by omega), Option.bind_some, if_pos (by simp; omega), w1 hi (by omega)]
    have e : l.take (i + 1) = l.take i ++ [((l.getD i ([], 0, [])).1, (l.getD i ([], 0, [])).2.1, (l.getD i ([], 0, [])).2.2)] := by
      rw [List.take_succ_eq_append_getElem hi, List.getD_eq_getElem?_getD, List.getElem?_eq_getElem hi]; rfl
    rw [← e]
    exact ih
theorem l15Copy_val {a : List Int} {k : Int} {b : List Int} {l : List Pl} (h : DkP a k b l) : s_l15Copy_f (a, k, b, l) = some (a, k, b, l) := by
  have hm := PlP.sm h.2.1
  have hl := h.2.2
  rw [s_l15Copy_f_eq, l15Place_val _ _ _ (by omega) (by omega), Option.bind_some]
  simp only
  rw [s_l15Copy_l0_eq]
  by_cases c : 0 < l.length
  · have hm := PlP.sm (h.1 _ (getD_mem (d := ([], 0, [])) c))
    have hg : List.getD l (0 : Int).toNat ([], 0, []) = l.getD 0 ([], 0, []) := rfl
    rw [cnd_t (by omega), if_pos ⟨by omega, by omega⟩, hg, l15Place_val _ _ _ (by omega) (by omega), Option.bind_some, if_pos (by simp)]
    have e : l.take 1 = [] ++ [((l.getD 0 ([], 0, [])).1, (l.getD 0 ([], 0, [])).2.1, (l.getD 0 ([], 0, [])).2.2)] := by
      rw [List.take_succ_eq_append_getElem c, List.getD_eq_getElem?_getD, List.getElem?_eq_getElem c]; rfl
    rw [← e]
    exact copy_loop1 a k b l 0 (by omega) h.1 1 (by omega)
  · have : l = [] := List.eq_nil_of_length_eq_zero (by omega)
    subst this
    rw [cnd_f (by simp)]
/-- It answers a place, not too long. -/
def Tot3 (o : Option (List Int × Int × List Int)) : Prop := ∃ z κ st, o = some (z, κ, st) ∧ st.length ≤ 100
theorem Tot3.cnd {c : Bool} {x y : Option (List Int × Int × List Int)} (h : Tot3 x) (k : Tot3 y) : Tot3 (cond c x y) := by cases c; exact k; exact h
theorem Tot3.condd {p : Prop} [Decidable p] {x y : Option (List Int × Int × List Int)} (h : p → Tot3 x) (k : ¬ p → Tot3 y) : Tot3 (cond (decide p) x y) := by
  by_cases c : p
  · rw [decide_eq_true c]; exact h c
  · rw [decide_eq_false c]; exact k c
theorem Tot3.ite {p : Prop} [Decidable p] {x y : Option (List Int × Int × List Int)} (hp : p) (h : Tot3 x) : Tot3 (if p then x else y) := by rw [if_pos hp]; exact h
theorem step_tot {a : List Int} {k : Int} {b : List Int} (h : PlP a k b) : ∃ z, s_l3Step_f (a, k, b) = some z ∧ z.length ≤ 100 := by
  have hm := PlP.sm h
  have hk := h.2.1.2.1
  have he := h.2.2
  have first : ∀ i, i ≤ b.length → ∀ x : Int, (∀ x : Int, ∃ z, s_l3Step_j1 a k b x = some z ∧ z.length ≤ 100) → ∃ z, s_l3Step_l0 a k b x (i : Int) = some z ∧ z.length ≤ 100 := by
    refine advN ?_ fun i hi ih => ?_
    · intro x hx
      rw [s_l3Step_l0_eq, cnd_f (by omega)]
      exact hx x
    · intro x hx
      rw [s_l3Step_l0_eq, cnd_t (by omega), if_pos (inN hi), w1 hi (by omega)]
      cases (List.getD b ((i : Int)).toNat 0 == 1) with
      | true => rw [cond_true, if_neg (by omega)]; exact ih _ hx
      | false => rw [cond_false]; exact ih _ hx
  have second : ∀ (x : Int) i, i ≤ b.length → ∀ y : List Int, y.length = i → ∃ z, s_l3Step_l2 a k b x (i : Int) y = some z ∧ z.length ≤ 100 := by
    intro x
    refine advN ?_ fun i hi ih => ?_
    · intro y hy
      rw [s_l3Step_l2_eq, cnd_f (by omega)]
      exact ⟨y, rfl, by omega⟩
    · intro y hy
      rw [s_l3Step_l2_eq, cnd_t (by omega), if_pos (inN hi), w1 hi (by omega)]
      cases (decide (0 < List.getD b ((i : Int)).toNat 0)) with
      | true => rw [cond_true, if_neg (by omega), if_pos (by simp; omega)]; exact ih _ (by simp; omega)
      | false =>
        rw [cond_false, if_pos ⟨by omega, by omega⟩]
        cases (Go.bits .and IntKind.i64 (List.getD a ((i : Int)).toNat 0) x != 0) with
        | true => rw [cond_true, if_pos (by simp; omega)]; exact ih _ (by simp; omega)
        | false => rw [cond_false, if_pos (by simp; omega)]; exact ih _ (by simp; omega)
  rw [s_l3Step_f_eq]
  refine first 0 (by omega) 0 fun x => ?_
  rw [s_l3Step_j1_eq]
  exact second x 0 (by omega) [] rfl
/-- The parts of what a deed makes. -/
theorem tail_tot {a : List Int} {k : Int} {b z : List Int} (hb : b.length ≤ 100) (hz : z.length ≤ 100) (c2 c3 : Bool) (A : Int) : Tot3 (cond c2 (some (a, k, z)) (cond c3 (some (a, A, b)) (some ([], 0, [])))) := by
  cases c2 with
  | true => exact ⟨_, _, _, rfl, hz⟩
  | false => cases c3 with
    | true => exact ⟨_, _, _, rfl, hb⟩
    | false => exact ⟨_, _, _, rfl, by simp⟩
theorem light_tot {a : List Int} {k : Int} {b : List Int} {t : Option (List Int × Int × List Int)} {n : Int} (hb : b.length ≤ 100) (hn : n = (b.length : Int)) (ht : Tot3 t) (c1 : Bool) (A : Int) : Tot3 (cond c1 (cond (decide (0 ≤ A ∧ A ≤ n - 1)) (if (0 : Int) ≤ A ∧ A < (b.length : Int) then (cond (List.getD b (A : Int).toNat 0 == 0) (if (0 : Int) ≤ A ∧ A < (b.length : Int) then (some (a, k, List.set b (A : Int).toNat 1)) else none) t) else none) t) t) := by
  cases c1 with
  | false => exact ht
  | true =>
    rw [cond_true]
    refine Tot3.condd (fun h => ?_) (fun _ => ht)
    have h2 : (0 : Int) ≤ A ∧ A < (b.length : Int) := ⟨h.1, by omega⟩
    rw [if_pos h2, if_pos h2]
    exact Tot3.cnd ⟨_, _, _, rfl, by rw [List.length_set]; exact hb⟩ ht
theorem made_tot {a : List Int} {k : Int} {b : List Int} (h : PlP a k b) (K A B : Int) : Tot3 (s_l15Made_f (a, k, b, K, A, B)) := by
  have hm := PlP.sm h
  have he := h.2.2
  have hlo := h.1.lo
  obtain ⟨z, hz, hz'⟩ := step_tot h
  have hW : IntKind.i64.wrap ((List.length a : Int) - 1) = (a.length : Int) - 1 := i64w (by omega) (by omega)
  have tl : ∀ c2 c3 : Bool, Tot3 (cond c2 (some (a, k, z)) (cond c3 (some (a, A, b)) (some ([], 0, [])))) := fun c2 c3 => tail_tot (by omega) hz' c2 c3 A
  have lt : ∀ c1 c2 c3 : Bool, Tot3 (cond c1 (cond (decide (0 ≤ A ∧ A ≤ (a.length : Int) - 1)) (if (0 : Int) ≤ A ∧ A < (b.length : Int) then (cond (List.getD b (A : Int).toNat 0 == 0) (if (0 : Int) ≤ A ∧ A < (b.length : Int) then (some (a, k, List.set b (A : Int).toNat 1)) else none) (cond c2 (some (a, k, z)) (cond c3 (some (a, A, b)) (some ([], 0, []))))) else none) (cond c2 (some (a, k, z)) (cond c3 (some (a, A, b)) (some ([], 0, []))))) (cond c2 (some (a, k, z)) (cond c3 (some (a, A, b)) (some ([], 0, []))))) := fun c1 c2 c3 => light_tot (by omega) (by omega) (tl c2 c3) c1 A
  rw [s_l15Made_f_eq, l15Place_val _ _ _ (by omega) (by omega), Option.bind_some, l1In_val, Option.bind_some, l1In_val, Option.bind_some, hz, Option.bind_some, hW]
  generalize (K == 1 && (A == A && (B == 0 && true))) = c1
  generalize (K == 2 && (A == 0 && (B == 0 && true))) = c2
  generalize (K == 3 && (A == A && (B == 0 && true))) = c3
  generalize (K == 0 && (A == A && (B == B && true))) = c0
  have hlt := lt c1 c2 c3
  cases c0 with
  | false => rw [cond_false]; exact hlt
  | true =>
    rw [cond_true]
    refine Tot3.condd (fun hA => ?_) (fun _ => hlt)
    refine Tot3.condd (fun hB => ?_) (fun _ => hlt)
    refine Tot3.cnd ?_ hlt
    have h1 : (0 : Int) ≤ A ∧ A < (a.length : Int) := ⟨hA.1, by omega⟩
    have h2 : (0 : Int) ≤ B ∧ B < (a.length : Int) := ⟨hB.1, by omega⟩
    rw [if_pos h1, if_neg (by omega), if_pos h1, List.length_set, if_pos h2, if_neg (by omega), if_pos h2]
    exact ⟨_, _, _, rfl, show b.length ≤ 100 by omega⟩
end FN

namespace FN
open Go
/-- It answers a desk. -/
def Tot5 (o : Option (List Int × Int × List Int × List Pl × Bool)) : Prop := ∃ a k b l t, o = some (a, k, b, l, t) ∧ DkP a k b l
theorem Tot5.cnd {c : Bool} {x y : Option (List Int × Int × List Int × List Pl × Bool)} (h : Tot5 x) (k : Tot5 y) : Tot5 (cond c x y) := by cases c; exact k; exact h
end FN

/-! One step: the program's and the reference's alike. -/
namespace FN
open Go
theorem bt_nat (x j : Nat) : bt (x : Int) j = if x.testBit j then 1 else 0 := by
  unfold bt
  rw [Nat.testBit_eq_decide_div_mod_eq]
  have : ((x : Int) / 2 ^ j) % 2 = ((x / 2 ^ j % 2 : Nat) : Int) := by push_cast; rfl
  rw [this]
  by_cases h : x / 2 ^ j % 2 = 1
  · simp [h]
  · simp [h]; omega
theorem and_ne {x m : Nat} : x &&& m ≠ 0 ↔ ∃ j, x.testBit j = true ∧ m.testBit j = true := by
  constructor
  · intro h
    apply Classical.byContradiction
    intro hn
    apply h
    apply Nat.eq_of_testBit_eq
    intro i
    rw [Nat.testBit_and, Nat.zero_testBit]
    cases hx : x.testBit i with
    | false => rfl
    | true => cases hm : m.testBit i with
      | false => rfl
      | true => exact absurd ⟨i, hx, hm⟩ hn
  · rintro ⟨j, hx, hm⟩ h
    have : (x &&& m).testBit j = true := by rw [Nat.testBit_and, hx, hm]; rfl
    rw [h, Nat.zero_testBit] at this
    cases this
/-- A firing neighbour. -/
def fires (a b : List Int) (i : Nat) : Prop := ∃ j, j < b.length ∧ bt (a.getD i 0) j = 1 ∧ b.getD j 0 = 1
open Classical in
noncomputable def stepAt (a : List Int) (k : Int) (b : List Int) (i : Nat) : Int := if 0 < b.getD i 0 then Int.tmod (b.getD i 0 + 1) k else if fires a b i then 1 else 0
noncomputable def stepV (a : List Int) (k : Int) (b : List Int) : List Int := (List.range b.length).map (stepAt a k b)
theorem stepV_len (a : List Int) (k : Int) (b : List Int) : (stepV a k b).length = b.length := by simp [stepV]
theorem stepV_take (a : List Int) (k : Int) (b : List Int) {i : Nat} (h : i < b.length) : (stepV a k b).take (i + 1) = (stepV a k b).take i ++ [stepAt a k b i] := by
  rw [List.take_succ_eq_append_getElem (by rw [stepV_len]; exact h)]
  simp [stepV]
theorem bit_or (M i j : Nat) : (M ||| 2 ^ i).testBit j = (M.testBit j || decide (i = j)) := by
  rw [Nat.testBit_or, Nat.testBit_two_pow]
section
variable {a : List Int} {k : Int} {b : List Int} (h : PlP a k b)
include h
theorem s_mask : ∀ i, i ≤ b.length → ∀ M : Nat, M < 64 → (∀ j, M.testBit j = true ↔ j < i ∧ b.getD j 0 = 1) →
    ∃ M' : Nat, M' < 64 ∧ (∀ j, M'.testBit j = true ↔ j < b.length ∧ b.getD j 0 = 1) ∧ s_l3Step_l0 a k b (M : Int) (i : Int) = s_l3Step_l2 a k b (M' : Int) 0 [] := by
  have hm := PlP.sm h
  refine advN ?_ fun i hi ih => ?_
  · intro M hM hb
    refine ⟨M, hM, hb, ?_⟩
    rw [s_l3Step_l0_eq, cnd_f (by omega), s_l3Step_j1_eq]
  · intro M hM hb
    rw [s_l3Step_l0_eq, cnd_t (by omega), if_pos (inN hi), gN, w1 hi (by omega)]
    by_cases c : b.getD i 0 = 1
    · have hp : (2 : Nat) ^ i < 64 := by
        have : (2 : Nat) ^ i < 2 ^ 6 := Nat.pow_lt_pow_right (by omega) (by omega)
        omega
      have e : Go.bits .or IntKind.i64 (M : Int) (IntKind.i64.wrap (1 * 2 ^ min ((i : Int)).toNat IntKind.i64.bits)) = ((M ||| 2 ^ i : Nat) : Int) := by
        rw [sh1 (by omega), show (2 : Int) ^ i = ((2 ^ i : Nat) : Int) by push_cast; rfl]
        exact (bits_nat (by omega) (by omega)).2.1
      rw [beq_t c, if_neg (by omega), e]
      refine ih _ ?_ fun j => ?_
      · have : M ||| 2 ^ i < 2 ^ 6 := Nat.or_lt_two_pow (by omega) (by omega)
        omega
      · rw [bit_or, Bool.or_eq_true, hb, decide_eq_true_eq]
        constructor
        · rintro (⟨h1, h2⟩ | rfl)
          · exact ⟨by omega, h2⟩
          · exact ⟨by omega, c⟩
        · rintro ⟨h1, h2⟩
          by_cases e : i = j
          · exact .inr e
          · exact .inl ⟨by omega, h2⟩
    · rw [beq_f c]
      refine ih _ hM fun j => ?_
      rw [hb]
      constructor
      · rintro ⟨h1, h2⟩; exact ⟨by omega, h2⟩
      · rintro ⟨h1, h2⟩
        refine ⟨?_, h2⟩
        by_cases e : j = i
        · rw [e] at h2; exact absurd h2 c
        · omega
theorem near_nat {i : Nat} (hi : i < a.length) : ∃ x : Nat, a.getD i 0 = (x : Int) ∧ x < 64 := by
  have hm := PlP.sm h
  obtain ⟨h0, h1⟩ := h.1.rng i hi
  have := pow6 (n := a.length) hm.1
  exact ⟨(a.getD i 0).toNat, by omega, by omega⟩
theorem s_step_loop (M : Nat) (hM : M < 64) (hb : ∀ j, M.testBit j = true ↔ j < b.length ∧ b.getD j 0 = 1) : ∀ i, i ≤ b.length → s_l3Step_l2 a k b (M : Int) (i : Int) ((stepV a k b).take i) = some (stepV a k b) := by
  have hm := PlP.sm h
  have hk := h.2.1.2.1
  have he := h.2.2
  refine advN ?_ fun i hi ih => ?_
  · rw [s_l3Step_l2_eq, cnd_f (by omega), ← stepV_len a k b, List.take_length]
  · obtain ⟨r1, r2⟩ := h.2.1.1 i hi
    have hk5 := h.2.1.2.2.1
    have hlen : ((stepV a k b).take i).length ≤ 6 := by rw [List.length_take, stepV_len]; omega
    rw [stepV_take a k b hi] at ih
    rw [s_l3Step_l2_eq, cnd_t (by omega), if_pos (inN hi), gN, gN, w1 hi (by omega)]
    by_cases c : 0 < b.getD i 0
    · have e : stepAt a k b i = Int.tmod (IntKind.i64.wrap (b.getD i 0 + 1)) k := by
        unfold stepAt; rw [if_pos c, i64w (by omega) (by omega)]
      rw [cnd_t c, if_neg (by omega), if_pos (by simp; omega), ← e]
      exact ih
    · rw [cnd_f c, if_pos (inN (by omega))]
      obtain ⟨x, hx, hx'⟩ := near_nat h (i := i) (by omega)
      rw [hx, (bits_nat (by omega) (by omega)).1]
      have hf : fires a b i ↔ x &&& M ≠ 0 := by
        rw [and_ne]
        unfold fires
        rw [hx]
        constructor
        · rintro ⟨j, h1, h2, h3⟩
          refine ⟨j, ?_, (hb j).2 ⟨h1, h3⟩⟩
          rw [bt_nat] at h2
          cases hq : x.testBit j with
          | true => rfl
          | false => rw [hq] at h2; simp at h2
        · rintro ⟨j, h1, h2⟩
          obtain ⟨h3, h4⟩ := (hb j).1 h2
          exact ⟨j, h3, by rw [bt_nat, h1]; rfl, h4⟩
      by_cases f : fires a b i
      · have e : stepAt a k b i = 1 := by unfold stepAt; rw [if_neg c, if_pos f]
        have := hf.1 f
        rw [bne_t (by omega), if_pos (by simp; omega), ← e]
        exact ih
      · have e : stepAt a k b i = b.getD i 0 := by unfold stepAt; rw [if_neg c, if_neg f]; omega
        have : x &&& M = 0 := Classical.byContradiction fun h => f (hf.2 h)
        rw [bne_f (by omega), if_pos (by simp; omega), ← e]
        exact ih
theorem s_step : s_l3Step_f (a, k, b) = some (stepV a k b) := by
  rw [s_l3Step_f_eq]
  obtain ⟨M, hM, hb, e⟩ := s_mask h 0 (by omega) 0 (by omega) (fun j => by simp)
  refine (show s_l3Step_l0 a k b 0 0 = _ from e).trans ?_
  exact s_step_loop h M hM hb 0 (by omega)
end
end FN

namespace FN
open Go
section
variable {a : List Int} {k : Int} {b : List Int} (h : PlP a k b)
include h
theorem i_step_inner {i : Nat} (hi : i < b.length) (out : List Int) (n : Int) : ∀ j, j ≤ b.length → ∀ c : Nat, c ≤ j →
    ∃ c' : Nat, c' ≤ 6 ∧ (1 ≤ c' ↔ 1 ≤ c ∨ ∃ m, j ≤ m ∧ m < b.length ∧ bt (a.getD i 0) m = 1 ∧ b.getD m 0 = 1) ∧ i_needStep_l1 a k b (i : Int) (c : Int) 1 b n (i : Int) b (b.length : Int) (j : Int) out = i_needStep_j3 a k b (i : Int) (c' : Int) 1 b n (i : Int) out := by
  have hm := PlP.sm h
  have he := h.2.2
  refine advN ?_ fun j hj ih => ?_
  · intro c hc
    refine ⟨c, by omega, ⟨fun h => .inl h, ?_⟩, ?_⟩
    · rintro (h | ⟨m, h1, h2, _⟩)
      · exact h
      · omega
    · rw [i_needStep_l1_eq, cnd_f (by omega), i_needStep_j2_eq]
  · intro c hc
    rw [i_needStep_l1_eq, cnd_t (by omega), if_pos (inN hj), if_pos (inN (by omega)), if_neg (by omega), gN, gN, bit_and _ (by omega), w1 hj (by omega)]
    have stay : ¬ (bt (a.getD i 0) j = 1 ∧ b.getD j 0 = 1) → ∀ c' : Nat, (1 ≤ c' ↔ 1 ≤ c ∨ ∃ m, j + 1 ≤ m ∧ m < b.length ∧ bt (a.getD i 0) m = 1 ∧ b.getD m 0 = 1) → (1 ≤ c' ↔ 1 ≤ c ∨ ∃ m, j ≤ m ∧ m < b.length ∧ bt (a.getD i 0) m = 1 ∧ b.getD m 0 = 1) := by
      intro hn c' e
      rw [e]
      constructor
      · rintro (h | ⟨m, h1, h2⟩)
        · exact .inl h
        · exact .inr ⟨m, by omega, h2⟩
      · rintro (h | ⟨m, h1, h2, h3⟩)
        · exact .inl h
        · by_cases e : m = j
          · subst e; exact absurd h3 hn
          · exact .inr ⟨m, by omega, h2, h3⟩
    by_cases c1 : bt (a.getD i 0) j = 1
    · rw [beq_t c1]
      by_cases c2 : b.getD j 0 = 1
      · have e1 : IntKind.i64.wrap ((c : Int) + 1) = ((c + 1 : Nat) : Int) := i64w (by omega) (by omega)
        rw [beq_t c2, e1]
        obtain ⟨c', h1, h2, h3⟩ := ih (c + 1) (by omega)
        refine ⟨c', h1, ⟨fun _ => .inr ⟨j, Nat.le_refl j, hj, c1, c2⟩, fun _ => h2.2 (.inl (by omega))⟩, h3⟩
      · rw [beq_f c2]
        obtain ⟨c', h1, h2, h3⟩ := ih c (by omega)
        exact ⟨c', h1, stay (fun h => c2 h.2) c' h2, h3⟩
    · rw [beq_f c1]
      obtain ⟨c', h1, h2, h3⟩ := ih c (by omega)
      exact ⟨c', h1, stay (fun h => c1 h.1) c' h2, h3⟩
omit h in
/-- What is filled in so far. -/
theorem set_take {v : List Int} {i : Nat} (hi : i < v.length) (x : Int) (hx : v.getD i 0 = x) : List.set (v.take i ++ List.replicate (v.length - i) 0) i x = v.take (i + 1) ++ List.replicate (v.length - (i + 1)) 0 := by
  apply List.ext_getElem?
  intro m
  rw [List.getElem?_set]
  have hl : (v.take i).length = i := by rw [List.length_take]; omega
  by_cases e : i = m
  · subst e
    rw [if_pos rfl, if_pos (by simp; omega), List.getElem?_append_left (by rw [List.length_take]; omega), List.getElem?_take_of_lt (by omega), ← hx, List.getD_eq_getElem?_getD, List.getElem?_eq_getElem hi]
    rfl
  · rw [if_neg e]
    by_cases c : m < i
    · rw [List.getElem?_append_left (by omega), List.getElem?_append_left (by rw [List.length_take]; omega), List.getElem?_take_of_lt c, List.getElem?_take_of_lt (by omega)]
    · rw [List.getElem?_append_right (by omega), List.getElem?_append_right (by rw [List.length_take]; omega), List.getElem?_replicate, List.getElem?_replicate, hl, List.length_take]
      have : min (i + 1) v.length = i + 1 := by omega
      rw [this]
      by_cases c2 : m - i < v.length - i
      · rw [if_pos c2, if_pos (by omega)]
      · rw [if_neg c2, if_neg (by omega)]
theorem stepV_get {i : Nat} (hi : i < b.length) : (stepV a k b).getD i 0 = stepAt a k b i := by
  rw [List.getD_eq_getElem?_getD, List.getElem?_eq_getElem (by rw [stepV_len]; exact hi)]
  simp [stepV]
theorem i_step_outer : ∀ i, i ≤ b.length → i_needStep_l0 a k b b (b.length : Int) (i : Int) ((stepV a k b).take i ++ List.replicate (b.length - i) 0) = some (stepV a k b) := by
  have hm := PlP.sm h
  have hk := h.2.1.2.1
  have hk5 := h.2.1.2.2.1
  have he := h.2.2
  refine advN ?_ fun i hi ih => ?_
  · rw [i_needStep_l0_eq, cnd_f (by omega), Nat.sub_self, List.replicate_zero, List.append_nil, ← stepV_len a k b, List.take_length]
  · obtain ⟨r1, r2⟩ := h.2.1.1 i hi
    have hout : ((stepV a k b).take i ++ List.replicate (b.length - i) 0).length = b.length := by
      rw [List.length_append, List.length_take, stepV_len, List.length_replicate]; omega
    have hset : ∀ x, stepAt a k b i = x → List.set ((stepV a k b).take i ++ List.replicate (b.length - i) 0) i x = (stepV a k b).take (i + 1) ++ List.replicate (b.length - (i + 1)) 0 := by
      intro x hx
      have := set_take (v := stepV a k b) (i := i) (by rw [stepV_len]; exact hi) x ((stepV_get h hi).trans hx)
      rwa [stepV_len] at this
    have hti : ((i : Int)).toNat = i := by omega
    rw [i_needStep_l0_eq, cnd_t (by omega), if_pos (inN hi), gN]
    by_cases c : 0 < b.getD i 0
    · have e : stepAt a k b i = Int.tmod (IntKind.i64.wrap (b.getD i 0 + 1)) k := by
        unfold stepAt; rw [if_pos c, i64w (by omega) (by omega)]
      rw [cnd_t c, if_neg (by omega), if_pos (by rw [hout]; exact inN hi), hti, hset _ e, w1 hi (by omega)]
      exact ih
    · rw [cnd_f c]
      obtain ⟨c', h1, h2, h3⟩ := i_step_inner h hi ((stepV a k b).take i ++ List.replicate (b.length - i) 0) (b.length : Int) 0 (by omega) 0 (by omega)
      refine (show i_needStep_l1 a k b (i : Int) 0 1 b (b.length : Int) (i : Int) b (b.length : Int) 0 _ = _ from h3).trans ?_
      have hf : fires a b i ↔ 1 ≤ c' := by
        rw [h2]
        unfold fires
        constructor
        · rintro ⟨j, j1, j2, j3⟩; exact .inr ⟨j, by omega, j1, j2, j3⟩
        · rintro (hh | ⟨m, m1, m2, m3, m4⟩)
          · omega
          · exact ⟨m, m2, m3, m4⟩
      rw [i_needStep_j3_eq]
      by_cases f : fires a b i
      · have e : stepAt a k b i = 1 := by unfold stepAt; rw [if_neg c, if_pos f]
        have := hf.1 f
        rw [cnd_t (by omega), if_pos (by rw [hout]; exact inN hi), hti, hset _ e, w1 hi (by omega)]
        exact ih
      · have e : stepAt a k b i = 0 := by unfold stepAt; rw [if_neg c, if_neg f]
        have : ¬ 1 ≤ c' := fun h => f (hf.2 h)
        have hz : (stepV a k b).take i ++ List.replicate (b.length - i) 0 = (stepV a k b).take (i + 1) ++ List.replicate (b.length - (i + 1)) 0 := by
          rw [stepV_take a k b hi, e, List.append_assoc]
          congr 1
          rw [show b.length - i = (b.length - (i + 1)) + 1 by omega, List.replicate_succ]
          rfl
        rw [cnd_f (by omega), w1 hi (by omega), hz]
        exact ih
theorem i_step : i_needStep_f (a, k, (), b) = some (stepV a k b) := by
  have hm := PlP.sm h
  rw [i_needStep_f_eq, if_pos ⟨by omega, by omega, by omega⟩]
  have := i_step_outer h 0 (by omega)
  rwa [List.take_zero, List.nil_append, Nat.sub_zero] at this
end
end FN

/-! Distances and parts: the program's and the reference's alike. -/
namespace FN
open Go
theorem bits_andNot {a b : Nat} (ha : a < 9223372036854775808) (hb : b < 9223372036854775808) : ∃ c : Nat, Go.bits .andNot .i64 (a : Int) (b : Int) = (c : Int) ∧ c ≤ a ∧ ∀ j, c.testBit j = (a.testBit j && !b.testBit j) := by
  have ha' : a < 2 ^ 63 := ha
  have hb' : b < 2 ^ 63 := hb
  have e1 : (BitVec.ofInt 64 (a : Int)).toNat = a := by rw [BitVec.ofInt_natCast, BitVec.toNat_ofNat]; exact Nat.mod_eq_of_lt (by omega)
  have e2 : (BitVec.ofInt 64 (b : Int)).toNat = b := by rw [BitVec.ofInt_natCast, BitVec.toNat_ofNat]; exact Nat.mod_eq_of_lt (by omega)
  have hj : ∀ j, (BitVec.ofInt 64 (a : Int) &&& ~~~ BitVec.ofInt 64 (b : Int) : BitVec 64).toNat.testBit j = (a.testBit j && !b.testBit j) := by
    intro j
    rw [BitVec.testBit_toNat, BitVec.getLsbD_and, BitVec.getLsbD_not, ← BitVec.testBit_toNat, ← BitVec.testBit_toNat, e1, e2]
    by_cases c : j < 64
    · simp [c]
    · have : a.testBit j = false := Nat.testBit_lt_two_pow (Nat.lt_of_lt_of_le ha' (Nat.pow_le_pow_right (by omega) (by omega)))
      simp [this]
  have hle : (BitVec.ofInt 64 (a : Int) &&& ~~~ BitVec.ofInt 64 (b : Int) : BitVec 64).toNat ≤ a := by
    rw [BitVec.toNat_and, e1]
    exact Nat.and_le_left
  refine ⟨_, ?_, hle, hj⟩
  show IntKind.i64.wrap ((BitVec.ofInt 64 (a : Int) &&& ~~~ BitVec.ofInt 64 (b : Int) : BitVec 64).toNat : Int) = _
  exact i64w (by omega) (by omega)
theorem ext_get {a b : List Int} (h : a.length = b.length) (k : ∀ i, i < a.length → a.getD i 0 = b.getD i 0) : a = b := by
  apply List.ext_getElem h
  intro i h1 h2
  have := k i h1
  rwa [List.getD_eq_getElem?_getD, List.getD_eq_getElem?_getD, List.getElem?_eq_getElem h1, List.getElem?_eq_getElem h2] at this
theorem get_set (z : List Int) (i k : Nat) (v : Int) : (z.set i v).getD k 0 = if k = i ∧ i < z.length then v else z.getD k 0 := by
  rw [List.getD_eq_getElem?_getD, List.getD_eq_getElem?_getD, List.getElem?_set]
  by_cases h : i = k
  · subst h
    by_cases h2 : i < z.length
    · simp [h2]
    · rw [if_pos rfl, if_neg h2, if_neg (by omega), List.getElem?_eq_none (by omega)]
  · rw [if_neg h, if_neg (by omega)]
/-- A neighbour. -/
def adj (a : List Int) (i j : Nat) : Prop := bt (a.getD i 0) j = 1
theorem NetP.nat {a : List Int} (h : NetP a) {i : Nat} (hi : i < a.length) : ∃ x : Nat, a.getD i 0 = (x : Int) ∧ x < 64 ∧ ∀ j, x.testBit j = true ↔ adj a i j := by
  obtain ⟨h0, h1⟩ := h.rng i hi
  have := pow6 (n := a.length) h.hi
  refine ⟨(a.getD i 0).toNat, by omega, by omega, fun j => ?_⟩
  have e : a.getD i 0 = (((a.getD i 0).toNat : Nat) : Int) := by omega
  unfold adj
  rw [e, bt_nat, Int.toNat_natCast]
  cases ((a.getD i 0).toNat).testBit j <;> simp
theorem adj_lt {a : List Int} (h : NetP a) {i j : Nat} (hi : i < a.length) (hj : adj a i j) : j < a.length := by
  obtain ⟨h0, h1⟩ := h.rng i hi
  unfold adj at hj
  apply Classical.byContradiction
  intro hn
  have hp : (2 : Int) ^ a.length ≤ 2 ^ j := by
    have := Nat.pow_le_pow_right (show 0 < 2 by omega) (show a.length ≤ j by omega)
    exact_mod_cast this
  unfold bt at hj
  rw [Int.ediv_eq_zero_of_lt h0 (by omega)] at hj
  omega
theorem adj_sym {a : List Int} (h : NetP a) {i j : Nat} (hi : i < a.length) (hj : adj a i j) : adj a j i := by
  have := h.sym i hi j (adj_lt h hi hj)
  unfold adj at hj ⊢
  omega
theorem bt_beq {M i : Nat} {α : Type} {x y : α} : cond (bt (M : Int) i == 1) x y = if M.testBit i = true then x else y := by
  rw [bt_nat]
  cases M.testBit i <;> simp
theorem or64 {x y : Nat} (hx : x < 64) (hy : y < 64) : x ||| y < 64 := by
  have : x ||| y < 2 ^ 6 := Nat.or_lt_two_pow (by omega) (by omega)
  omega
section
variable {a : List Int} (h : NetP a)
include h
/-- The program's pass. -/
theorem i_pass {M : Nat} {n : Int} (z : List Int) (hz : z.length = a.length) : ∀ i, i ≤ a.length → ∀ (Nx : Nat) (w : List Int), Nx < 64 → w.length = a.length →
    (∀ j, Nx.testBit j = true ↔ ∃ k, k < i ∧ M.testBit k = true ∧ z.getD k 0 < 0 ∧ adj a k j) → (∀ k, w.getD k 0 = if k < i ∧ M.testBit k = true ∧ z.getD k 0 < 0 then n else z.getD k 0) →
    ∃ (Nx' : Nat) (w' : List Int), Nx' < 64 ∧ w'.length = a.length ∧ (∀ j, Nx'.testBit j = true ↔ ∃ k, k < a.length ∧ M.testBit k = true ∧ z.getD k 0 < 0 ∧ adj a k j) ∧ (∀ k, w'.getD k 0 = if k < a.length ∧ M.testBit k = true ∧ z.getD k 0 < 0 then n else z.getD k 0) ∧
      i_DistancesFrom_l3 a (M : Int) n (Nx : Int) (a.length : Int) (i : Int) w = i_DistancesFrom_l2 a (Nx' : Int) (IntKind.i64.wrap (n + 1)) w' := by
  have hm := h.hi
  refine advN ?_ fun i hi ih => ?_
  · intro Nx w h1 h2 h3 h4
    refine ⟨Nx, w, h1, h2, h3, h4, ?_⟩
    rw [i_DistancesFrom_l3_eq, cnd_f (by omega)]
  · intro Nx w h1 h2 h3 h4
    have hwi : w.getD i 0 = z.getD i 0 := by rw [h4, if_neg (by omega)]
    have skip : ¬ (M.testBit i = true ∧ z.getD i 0 < 0) → (∀ j, Nx.testBit j = true ↔ ∃ k, k < i + 1 ∧ M.testBit k = true ∧ z.getD k 0 < 0 ∧ adj a k j) ∧ (∀ k, w.getD k 0 = if k < i + 1 ∧ M.testBit k = true ∧ z.getD k 0 < 0 then n else z.getD k 0) := by
      intro hn
      refine ⟨fun j => ?_, fun k => ?_⟩
      · rw [h3]
        constructor
        · rintro ⟨k, a1, a2⟩; exact ⟨k, by omega, a2⟩
        · rintro ⟨k, a1, a2, a3, a4⟩
          by_cases e : k = i
          · subst e; exact absurd ⟨a2, a3⟩ hn
          · exact ⟨k, by omega, a2, a3, a4⟩
      · rw [h4]
        by_cases e : k = i
        · subst e; rw [if_neg (by omega), if_neg (fun hh => hn hh.2)]
        · have : k < i ↔ k < i + 1 := by omega
          simp only [this]
    rw [i_DistancesFrom_l3_eq, cnd_t (by omega), if_neg (by omega), bit_and _ (by omega), bt_beq, gN, gN, w1 hi (by omega)]
    by_cases c1 : M.testBit i = true
    · rw [if_pos c1, if_pos (by rw [h2]; exact inN hi), hwi]
      by_cases c2 : z.getD i 0 < 0
      · obtain ⟨x, hx, hx6, hxj⟩ := h.nat hi
        rw [cnd_t c2, if_pos (by rw [h2]; exact inN hi), if_pos (inN hi), hx, (bits_nat (by omega) (by omega)).2.1]
        refine ih (Nx ||| x) (w.set ((i : Int)).toNat n) (or64 h1 hx6) (by simp [h2]) (fun j => ?_) (fun k => ?_)
        · rw [Nat.testBit_or, Bool.or_eq_true, h3, hxj]
          constructor
          · rintro (⟨k, a1, a2⟩ | a1)
            · exact ⟨k, by omega, a2⟩
            · exact ⟨i, by omega, c1, c2, a1⟩
          · rintro ⟨k, a1, a2, a3, a4⟩
            by_cases e : k = i
            · subst e; exact .inr a4
            · exact .inl ⟨k, by omega, a2, a3, a4⟩
        · rw [Int.toNat_natCast, get_set]
          by_cases e : k = i
          · subst e; rw [if_pos ⟨rfl, by omega⟩, if_pos ⟨by omega, c1, c2⟩]
          · rw [if_neg (by omega), h4]
            have : k < i ↔ k < i + 1 := by omega
            simp only [this]
      · rw [cnd_f c2]
        obtain ⟨s1, s2⟩ := skip (fun hh => c2 hh.2)
        exact ih Nx w h1 h2 s1 s2
    · rw [if_neg c1]
      obtain ⟨s1, s2⟩ := skip (fun hh => c1 hh.1)
      exact ih Nx w h1 h2 s1 s2
/-- The reference's pass. -/
theorem s_pass {W : Nat} {S n : Int} (z : List Int) (hz : z.length = a.length) : ∀ i, i ≤ a.length → ∀ (w : List Int), w.length = a.length → (∀ k, w.getD k 0 = if k < i ∧ W.testBit k = true then n else z.getD k 0) →
    ∃ (w' : List Int), w'.length = a.length ∧ (∀ k, w'.getD k 0 = if k < a.length ∧ W.testBit k = true then n else z.getD k 0) ∧ s_l1Far_l3 a S (W : Int) n (i : Int) w = s_l1Far_j4 a S (W : Int) n w' := by
  have hm := h.hi
  refine advN ?_ fun i hi ih => ?_
  · intro w h2 h4
    refine ⟨w, h2, h4, ?_⟩
    rw [s_l1Far_l3_eq, cnd_f (by omega)]
  · intro w h2 h4
    rw [s_l1Far_l3_eq, cnd_t (by omega), if_neg (by omega), bit_mod (by omega) (by omega), bt_beq, w1 hi (by omega)]
    by_cases c1 : W.testBit i = true
    · rw [if_pos c1, if_pos (by rw [h2]; exact inN hi)]
      refine ih _ (by simp [h2]) fun k => ?_
      rw [Int.toNat_natCast, get_set]
      by_cases e : k = i
      · subst e; rw [if_pos ⟨rfl, by omega⟩, if_pos ⟨by omega, c1⟩]
      · rw [if_neg (by omega), h4]
        have : k < i ↔ k < i + 1 := by omega
        simp only [this]
    · rw [if_neg c1]
      refine ih _ h2 fun k => ?_
      rw [h4]
      by_cases e : k = i
      · subst e; rw [if_neg (by omega), if_neg (fun hh => c1 hh.2)]
      · have : k < i ↔ k < i + 1 := by omega
        simp only [this]
theorem s_near {W : Nat} : ∀ i, i ≤ a.length → ∀ R : Nat, R < 64 → (∀ j, R.testBit j = true ↔ ∃ k, k < i ∧ W.testBit k = true ∧ adj a k j) → ∃ R' : Nat, R' < 64 ∧ (∀ j, R'.testBit j = true ↔ ∃ k, k < a.length ∧ W.testBit k = true ∧ adj a k j) ∧ s_l1Near_l0 a (W : Int) (R : Int) (i : Int) = some (R' : Int) := by
  have hm := h.hi
  refine advN ?_ fun i hi ih => ?_
  · intro R h1 h2
    exact ⟨R, h1, h2, by rw [s_l1Near_l0_eq, cnd_f (by omega)]⟩
  · intro R h1 h2
    rw [s_l1Near_l0_eq, cnd_t (by omega), if_neg (by omega), bit_mod (by omega) (by omega), bt_beq, w1 hi (by omega), gN]
    by_cases c1 : W.testBit i = true
    · obtain ⟨x, hx, hx6, hxj⟩ := h.nat hi
      rw [if_pos c1, if_pos (inN hi), hx, (bits_nat (by omega) (by omega)).2.1]
      refine ih _ (or64 h1 hx6) fun j => ?_
      rw [Nat.testBit_or, Bool.or_eq_true, h2, hxj]
      constructor
      · rintro (⟨k, a1, a2⟩ | a1)
        · exact ⟨k, by omega, a2⟩
        · exact ⟨i, by omega, c1, a1⟩
      · rintro ⟨k, a1, a2, a3⟩
        by_cases e : k = i
        · subst e; exact .inr a3
        · exact .inl ⟨k, by omega, a2, a3⟩
    · rw [if_neg c1]
      refine ih _ h1 fun j => ?_
      rw [h2]
      constructor
      · rintro ⟨k, a1, a2⟩; exact ⟨k, by omega, a2⟩
      · rintro ⟨k, a1, a2, a3⟩
        by_cases e : k = i
        · subst e; exact absurd a2 c1
        · exact ⟨k, by omega, a2, a3⟩
theorem far_same : ∀ (d S : Nat), 63 - S ≤ d → S < 64 → ∀ (M W n : Nat) (z : List Int), M < 64 → W < 64 → n ≤ S → z.length = a.length → (∀ k, k < a.length → (S.testBit k = true ↔ 0 ≤ z.getD k 0)) → (∀ k, S.testBit k = true → k < a.length) →
    (∀ k, W.testBit k = true ↔ k < a.length ∧ M.testBit k = true ∧ z.getD k 0 < 0) → (∀ k, k < a.length → -1 ≤ z.getD k 0 ∧ z.getD k 0 ≤ 63) →
    ∃ r, i_DistancesFrom_l2 a (M : Int) (n : Int) z = some r ∧ s_l1Far_l2 a (S : Int) (W : Int) (n : Int) z = some r ∧ r.length = a.length ∧ (∀ k, k < a.length → -1 ≤ r.getD k 0 ∧ r.getD k 0 ≤ 63) ∧ (∀ k, k < a.length → (0 ≤ z.getD k 0 ∨ M.testBit k = true) → 0 ≤ r.getD k 0) := by
  have hm := h.hi
  intro d
  have step : ∀ (S M W n : Nat) (z : List Int), (S < 64) → M < 64 → W < 64 → n ≤ S → z.length = a.length → (∀ k, k < a.length → (S.testBit k = true ↔ 0 ≤ z.getD k 0)) → (∀ k, S.testBit k = true → k < a.length) →
      (∀ k, W.testBit k = true ↔ k < a.length ∧ M.testBit k = true ∧ z.getD k 0 < 0) → (∀ k, k < a.length → -1 ≤ z.getD k 0 ∧ z.getD k 0 ≤ 63) →
      (∃ r, i_DistancesFrom_l2 a (M : Int) (n : Int) z = some r ∧ s_l1Far_l2 a (S : Int) (W : Int) (n : Int) z = some r ∧ r.length = a.length ∧ (∀ k, k < a.length → -1 ≤ r.getD k 0 ∧ r.getD k 0 ≤ 63) ∧ (∀ k, k < a.length → (0 ≤ z.getD k 0 ∨ M.testBit k = true) → 0 ≤ r.getD k 0)) ∨
      ∃ (S' M' W' : Nat) (w : List Int), S < S' ∧ S' < 64 ∧ M' < 64 ∧ W' < 64 ∧ w.length = a.length ∧ (∀ k, k < a.length → (S'.testBit k = true ↔ 0 ≤ w.getD k 0)) ∧ (∀ k, S'.testBit k = true → k < a.length) ∧
        (∀ k, W'.testBit k = true ↔ k < a.length ∧ M'.testBit k = true ∧ w.getD k 0 < 0) ∧ (∀ k, k < a.length → -1 ≤ w.getD k 0 ∧ w.getD k 0 ≤ 63) ∧ (∀ k, k < a.length → (0 ≤ z.getD k 0 ∨ M.testBit k = true) → 0 ≤ w.getD k 0) ∧
        i_DistancesFrom_l2 a (M : Int) (n : Int) z = i_DistancesFrom_l2 a (M' : Int) ((n + 1 : Nat) : Int) w ∧ s_l1Far_l2 a (S : Int) (W : Int) (n : Int) z = s_l1Far_l2 a (S' : Int) (W' : Int) ((n + 1 : Nat) : Int) w := by
    intro S M W n z hS hM hW hn hz hs hs' hw hr
    obtain ⟨Nx, w, p1, p2, p3, p4, p5⟩ := i_pass h (M := M) (n := (n : Int)) z hz 0 (by omega) 0 z (by omega) hz (fun j => by simp) (fun k => by simp)
    have hpass : M ≠ 0 → i_DistancesFrom_l2 a (M : Int) (n : Int) z = i_DistancesFrom_l2 a (Nx : Int) ((n + 1 : Nat) : Int) w := by
      intro h0
      rw [i_DistancesFrom_l2_eq, bne_t (by omega), hz]
      refine p5.trans ?_
      rw [i64w (by omega) (by omega)]
      rfl
    by_cases hW0 : W = 0
    · left
      subst hW0
      have hno : ∀ k, ¬ (k < a.length ∧ M.testBit k = true ∧ z.getD k 0 < 0) := fun k hk => by
        have := (hw k).2 hk
        simp at this
      refine ⟨z, ?_, ?_, hz, hr, fun k hk hc => ?_⟩
      · by_cases h0 : M = 0
        · subst h0
          rw [i_DistancesFrom_l2_eq, bne_f (by rfl)]
        · have e1 : w = z := ext_get (p2.trans hz.symm) fun k hk => by rw [p4, if_neg (hno k)]
          have e2 : Nx = 0 := by
            apply Nat.eq_of_testBit_eq
            intro j
            rw [Nat.zero_testBit]
            cases hj : Nx.testBit j with
            | false => rfl
            | true =>
              obtain ⟨k, q1, q2, q3, _⟩ := (p3 j).1 hj
              exact absurd ⟨q1, q2, q3⟩ (hno k)
          rw [hpass h0, e1, e2, i_DistancesFrom_l2_eq, bne_f (by rfl)]
      · rw [s_l1Far_l2_eq, bne_f (by rfl)]
      · rcases hc with hc | hc
        · exact hc
        · have := hno k
          have := (hr k hk).1
          apply Classical.byContradiction
          intro hneg
          exact hno k ⟨hk, hc, by omega⟩
    · right
      obtain ⟨b, hb⟩ : ∃ b, W.testBit b = true := Nat.exists_testBit_of_ne_zero hW0
      obtain ⟨hb1, hb2, hb3⟩ := (hw b).1 hb
      have hM0 : M ≠ 0 := fun e => by rw [e] at hb2; simp at hb2
      obtain ⟨w', q2, q4, q5⟩ := s_pass h (W := W) (S := (S : Int)) (n := (n : Int)) z hz 0 (by omega) z hz (fun k => by simp)
      have eww : w' = w := ext_get (q2.trans p2.symm) fun k hk => by
        rw [q4, p4]
        by_cases c : k < a.length ∧ W.testBit k = true
        · rw [if_pos c, if_pos ((hw k).1 c.2)]
        · rw [if_neg c, if_neg fun hh => c ⟨hh.1, (hw k).2 hh⟩]
      subst eww
      obtain ⟨R, r1, r2, r3⟩ := s_near h (W := W) 0 (by omega) 0 (by omega) (fun j => by simp)
      have hS' : S ||| W < 64 := or64 hS hW
      obtain ⟨C, c1, c2, c3⟩ := bits_andNot (a := R) (b := S ||| W) (by omega) (by omega)
      have hsb : S.testBit b = false := by
        cases hq : S.testBit b with
        | false => rfl
        | true => have := (hs b hb1).1 hq; omega
      have hlt : S < S ||| W := by
        have h1 : S ≤ S ||| W := Nat.left_le_or
        have h2 : S ≠ S ||| W := fun e => by
          have := congrArg (Nat.testBit · b) e
          simp [Nat.testBit_or, hsb, hb] at this
        omega
      have hneg : ∀ k, k < a.length → ((S ||| W).testBit k = true ↔ 0 ≤ w'.getD k 0) := fun k hk => by
        rw [Nat.testBit_or, Bool.or_eq_true, hs k hk, hw, q4]
        by_cases c : k < a.length ∧ W.testBit k = true
        · rw [if_pos c]
          have := (hw k).1 c.2
          constructor
          · intro _; omega
          · intro _; exact .inr this
        · rw [if_neg c]
          constructor
          · rintro (hh | hh)
            · exact hh
            · exact absurd ⟨hk, (hw k).2 hh⟩ c
          · exact fun hh => .inl hh
      refine ⟨S ||| W, Nx, C, w', hlt, hS', p1, by omega, p2, hneg, fun k hk => ?_, fun k => ?_, fun k hk => ?_, fun k hk hc => ?_, hpass hM0, ?_⟩
      · rw [Nat.testBit_or, Bool.or_eq_true] at hk
        rcases hk with hk | hk
        · exact hs' k hk
        · exact ((hw k).1 hk).1
      · rw [c3, Bool.and_eq_true, r2]
        constructor
        · rintro ⟨⟨i, i1, i2, i3⟩, hk⟩
          have hi := (hw i).1 i2
          have hkl := adj_lt h i1 i3
          refine ⟨hkl, (p3 k).2 ⟨i, i1, hi.2.1, hi.2.2, i3⟩, ?_⟩
          have : ¬ 0 ≤ w'.getD k 0 := fun h0 => by
            rw [(hneg k hkl).2 h0] at hk
            cases hk
          omega
        · rintro ⟨hkl, hk, hk0⟩
          obtain ⟨i, i1, i2, i3, i4⟩ := (p3 k).1 hk
          refine ⟨⟨i, i1, (hw i).2 ⟨i1, i2, i3⟩, i4⟩, ?_⟩
          cases hq : (S ||| W).testBit k with
          | false => rfl
          | true => have := (hneg k hkl).1 hq; omega
      · have := hr k hk
        rw [q4]
        split <;> omega
      · have := hr k hk
        rw [p4]
        by_cases c : k < a.length ∧ M.testBit k = true ∧ z.getD k 0 < 0
        · rw [if_pos c]; omega
        · rw [if_neg c]
          rcases hc with hc | hc
          · exact hc
          · apply Classical.byContradiction
            intro hh
            exact c ⟨hk, hc, by omega⟩
      · rw [s_l1Far_l2_eq, bne_t (by omega)]
        refine q5.trans ?_
        rw [s_l1Far_j4_eq, s_l1Near_f_eq, show s_l1Near_l0 a (W : Int) 0 0 = some (R : Int) from r3, Option.bind_some, (bits_nat (a := S) (b := W) (by omega) (by omega)).2.1, c1, i64w (by omega) (by omega)]
        rfl
  induction d with
  | zero =>
    intro S hd hS M W n z hM hW hn hz hs hs' hw hr
    rcases step S M W n z hS hM hW hn hz hs hs' hw hr with hh | ⟨S', M', W', w, h1, h2, _⟩
    · exact hh
    · omega
  | succ d ih =>
    intro S hd hS M W n z hM hW hn hz hs hs' hw hr
    rcases step S M W n z hS hM hW hn hz hs hs' hw hr with hh | ⟨S', M', W', w, h1, h2, h3, h4, h5, h6, h7, h8, h9, h10, h11, h12⟩
    · exact hh
    · obtain ⟨r, e1, e2, e3, e4, e5⟩ := ih S' (by omega) h2 M' W' (n + 1) w h3 h4 (by omega) h5 h6 h7 h8 h9
      exact ⟨r, h11.trans e1, h12.trans e2, e3, e4, fun k hk hc => e5 k hk (.inl (h10 k hk hc))⟩
omit h in
theorem getD_rep (n k : Nat) (v : Int) : (List.replicate n v).getD k 0 = if k < n then v else 0 := by
  rw [List.getD_eq_getElem?_getD, List.getElem?_replicate]
  split <;> rfl
omit h in
theorem neg_fill : ∀ (n : Nat) (w : List Int), w.length = n → n ≤ 1000 → ∀ (M : Int) (i : Nat), i ≤ n → (∀ k, k < i → w.getD k 0 = -1) → i_DistancesFrom_l0 a M (n : Int) (i : Int) w = i_DistancesFrom_l2 a M 0 (List.replicate n (-1)) := by
  intro n w hw hn M i hi
  obtain ⟨d, hd⟩ : ∃ d, n = i + d := ⟨n - i, by omega⟩
  induction d generalizing i w with
  | zero =>
    intro hk
    have : w = List.replicate n (-1) := ext_get (by simp [hw]) fun k hk' => by rw [hk k (by omega), getD_rep, if_pos (by omega)]
    rw [i_DistancesFrom_l0_eq, cnd_f (by omega), i_DistancesFrom_j1_eq, this]
  | succ d ih =>
    intro hk
    rw [i_DistancesFrom_l0_eq, cnd_t (by omega), if_pos (by omega), w1 (n := n) (by omega) (by omega)]
    refine ih (w := w.set ((i : Int)).toNat (-1)) (by simp [hw]) (i + 1) (by omega) (by omega) fun k hk' => ?_
    rw [Int.toNat_natCast, get_set]
    by_cases e : k = i
    · subst e; rw [if_pos ⟨rfl, by omega⟩]
    · rw [if_neg (by omega)]; exact hk k (by omega)
omit h in
theorem neg_fill_s (M : Int) (hn : a.length ≤ 1000) : ∀ i, i ≤ a.length → s_l1Far_l0 a M (i : Int) (List.replicate i (-1)) = s_l1Far_l2 a 0 M 0 (List.replicate a.length (-1)) := by
  refine advN ?_ fun i hi ih => ?_
  · rw [s_l1Far_l0_eq, cnd_f (by omega), s_l1Far_j1_eq]
  · rw [s_l1Far_l0_eq, cnd_t (by omega), if_pos (by simp; omega), w1 hi (by omega)]
    rw [List.replicate_succ'] at ih
    exact ih
/-- All at once. -/
theorem far_val {M : Nat} (hM : M < 2 ^ a.length) : ∃ r, i_DistancesFrom_f (a, (M : Int)) = some r ∧ s_l1Far_f (a, (M : Int)) = some r ∧ s_DistancesFrom_f (a, (M : Int)) = some r ∧ r.length = a.length ∧ (∀ k, k < a.length → -1 ≤ r.getD k 0 ∧ r.getD k 0 ≤ 63) ∧ (∀ k, k < a.length → M.testBit k = true → 0 ≤ r.getD k 0) := by
  have hm := h.hi
  have hp := pow6 hm
  have h64 : (2 : Nat) ^ a.length ≤ 2 ^ 6 := Nat.pow_le_pow_right (by omega) hm
  have h64' : (2 : Nat) ^ 6 = 64 := rfl
  have hcast : ((2 ^ a.length : Nat) : Int) = (2 : Int) ^ a.length := by push_cast; rfl
  have hbit : ∀ k, M.testBit k = true → k < a.length := fun k hk => by
    apply Classical.byContradiction
    intro hn
    have : 2 ^ a.length ≤ 2 ^ k := Nat.pow_le_pow_right (by omega) (by omega)
    rw [Nat.testBit_lt_two_pow (by omega)] at hk
    cases hk
  obtain ⟨r, e1, e2, e3, e4, e5⟩ := far_same h 63 0 (by omega) (by omega) M M 0 (List.replicate a.length (-1)) (by omega) (by omega) (by omega) (by simp) (fun k hk => by
      rw [getD_rep, if_pos hk, Nat.zero_testBit]; simp) (fun k hk => by rw [Nat.zero_testBit] at hk; cases hk) (fun k => by
      constructor
      · intro hk; exact ⟨hbit k hk, hk, by rw [getD_rep, if_pos (hbit k hk)]; omega⟩
      · exact fun hk => hk.2.1) (fun k hk => by rw [getD_rep, if_pos hk]; omega)
  have hset : i_setOk_f (a, (M : Int)) = some true := by
    rw [i_setOk_f_eq, inet, decide_eq_true h, Option.bind_some, cond_true, cnd_t (by omega), if_neg (by omega), sh1 (by omega), decide_eq_true (by omega)]
  have hf : s_l1Far_f (a, (M : Int)) = some r := by
    rw [s_l1Far_f_eq]
    exact (neg_fill_s (a := a) (M : Int) (by omega) 0 (by omega)).trans e2
  refine ⟨r, ?_, hf, ?_, e3, e4, fun k hk hb => e5 k hk (.inr hb)⟩
  · rw [i_DistancesFrom_f_eq, hset, Option.bind_some, Bool.not_true, cond_false, if_pos ⟨by omega, by omega, by omega⟩, Int.toNat_natCast, List.length_replicate]
    exact (neg_fill (a := a) a.length _ (by simp) (by omega) (M : Int) 0 (by omega) (fun k hk => by omega)).trans e1
  · rw [s_DistancesFrom_f_eq, snet, decide_eq_true h, Option.bind_some, Bool.not_true, cond_false, if_neg (by omega), sh1 (by omega), wsub (by omega) (by omega), l1In_val, Option.bind_some, decide_eq_true (show 0 ≤ (M : Int) ∧ (M : Int) ≤ 2 ^ a.length - 1 by omega), Bool.not_true, cond_false, hf]
    rfl
/-- The first that is come to. -/
theorem i_first {r : List Int} (hr : r.length = a.length) {i m : Nat} (hm : m < a.length) (hk : 0 ≤ r.getD m 0) (hb : ∀ k, k < m → r.getD k 0 < 0) (y : List Int) (hy : y.length ≤ 1000) : ∀ k, k ≤ m → i_PartsOf_l1 a (a.length : Int) (i : Int) r (a.length : Int) (k : Int) y = i_PartsOf_l0 a (a.length : Int) (IntKind.i64.wrap ((i : Int) + 1)) (y ++ [(m : Int)]) := by
  have hm6 := h.hi
  refine advN ?_ fun k hk' ih => ?_
  · rw [i_PartsOf_l1_eq, cnd_t (by omega), if_pos (by omega), gN, cnd_t hk, if_pos (by simp; omega)]
  · rw [i_PartsOf_l1_eq, cnd_t (by omega), if_pos (by omega), gN, cnd_f (by have := hb k hk'; omega), w1 (n := m) hk' (by omega)]
    exact ih
theorem s_first {r : List Int} (hr : r.length = a.length) {i m : Nat} (hi : i < a.length) (hmi : m ≤ i) (hk : 0 ≤ r.getD m 0) (hb : ∀ k, k < m → r.getD k 0 < 0) (y : List Int) (hy : y.length ≤ 1000) : ∀ j : Nat, j ≤ i + 1 → ∀ l : Nat, (j ≤ m → l = m) → l ≤ i → s_PartsOf_l1 a (i : Int) r (l : Int) ((j : Int) - 1) y = s_PartsOf_l0 a (IntKind.i64.wrap ((i : Int) + 1)) (y ++ [(m : Int)])
  | 0, _, l, hl, hli => by
    rw [s_PartsOf_l1_eq, cnd_f (by omega), if_pos (by simp; omega), hl (by omega)]
  | j + 1, hj, l, hl, hli => by
    have hm6 := h.hi
    have e1 : (((j + 1 : Nat) : Int) - 1) = (j : Int) := by omega
    rw [s_PartsOf_l1_eq, e1, cnd_t (by omega), if_pos (by omega), gN, wsub (by omega) (by omega)]
    by_cases c : 0 ≤ r.getD j 0
    · rw [cnd_t c]
      refine s_first hr hi hmi hk hb y hy j (by omega) j (fun hjm => ?_) (by omega)
      by_cases e : j = m
      · exact e
      · have := hb j (by omega); omega
    · rw [cnd_f c]
      refine s_first hr hi hmi hk hb y hy j (by omega) l (fun hjm => hl ?_) hli
      by_cases e : j = m
      · subst e; exact absurd hk c
      · omega
omit h in
theorem least_get {r : List Int} {i : Nat} (hi : 0 ≤ r.getD i 0) : ∃ m, m ≤ i ∧ 0 ≤ r.getD m 0 ∧ ∀ k, k < m → r.getD k 0 < 0 := by
  induction i using Nat.strongRecOn with
  | _ i ih =>
    by_cases c : ∃ k, k < i ∧ 0 ≤ r.getD k 0
    · obtain ⟨k, h1, h2⟩ := c
      obtain ⟨m, m1, m2, m3⟩ := ih k h1 h2
      exact ⟨m, by omega, m2, m3⟩
    · refine ⟨i, Nat.le_refl _, hi, fun k hk => ?_⟩
      apply Classical.byContradiction
      intro hh
      exact c ⟨k, hk, by omega⟩
theorem parts_loop : ∀ i, i ≤ a.length → ∀ y : List Int, y.length = i → (∀ v ∈ y, 0 ≤ v ∧ v ≤ 5) → ∃ r, i_PartsOf_l0 a (a.length : Int) (i : Int) y = some r ∧ s_PartsOf_l0 a (i : Int) y = some r ∧ r.length = a.length ∧ ∀ v ∈ r, 0 ≤ v ∧ v ≤ 5 := by
  have hm := h.hi
  refine advN ?_ fun i hi ih => ?_
  · intro y hy hv
    exact ⟨y, by rw [i_PartsOf_l0_eq, cnd_f (by omega)], by rw [s_PartsOf_l0_eq, cnd_f (by omega)], hy, hv⟩
  · intro y hy hv
    have hlt : 2 ^ i < 2 ^ a.length := Nat.pow_lt_pow_right (by omega) hi
    obtain ⟨r, e1, e2, _, e3, e4, e5⟩ := far_val h (M := 2 ^ i) hlt
    have hb := e5 i hi (by simp [Nat.testBit_two_pow])
    obtain ⟨m, m1, m2, m3⟩ := least_get hb
    have hc : ((2 ^ i : Nat) : Int) = (2 : Int) ^ i := by push_cast; rfl
    rw [hc] at e1 e2
    have hw : IntKind.i64.wrap ((i : Int) + 1) = ((i + 1 : Nat) : Int) := w1 hi (by omega)
    obtain ⟨q, q1, q2, q3, q4⟩ := ih (y ++ [(m : Int)]) (by simp [hy]) (fun v hvm => by
      rcases List.mem_append.1 hvm with hh | hh
      · exact hv v hh
      · rw [List.mem_singleton] at hh; omega)
    refine ⟨q, ?_, ?_, q3, q4⟩
    · rw [i_PartsOf_l0_eq, cnd_t (by omega), if_neg (by omega), sh1 (by omega), e1, Option.bind_some, e3]
      refine (i_first h e3 (by omega) m2 m3 y (by omega) 0 (by omega)).trans ?_
      rw [hw]; exact q1
    · rw [s_PartsOf_l0_eq, cnd_t (by omega), snet, decide_eq_true h, Option.bind_some, cond_true, if_neg (by omega), sh1 (by omega), e2, Option.bind_some]
      have := s_first h e3 hi m1 m2 m3 y (by omega) (i + 1) (Nat.le_refl _) i (fun hh => by omega) (Nat.le_refl _)
      rw [show (((i + 1 : Nat) : Int) - 1) = (i : Int) by omega] at this
      refine this.trans ?_
      rw [hw]; exact q2
theorem parts_val : ∃ r : List Int, i_PartsOf_f a = some r ∧ s_PartsOf_f a = some r ∧ r.length = a.length ∧ ∀ v ∈ r, 0 ≤ v ∧ v ≤ 5 := by
  obtain ⟨r, e1, e2, e3, e4⟩ := parts_loop h 0 (by omega) [] rfl (fun v hv => by cases hv)
  refine ⟨r, ?_, ?_, e3, e4⟩
  · rw [i_PartsOf_f_eq, inet, decide_eq_true h, Option.bind_some, Bool.not_true, cond_false]; exact e1
  · rw [s_PartsOf_f_eq]; exact e2
end
end FN

/-! Numerals of any length. -/
namespace FN
open Go
def isDig (x : UInt8) : Prop := 48 ≤ x.toNat ∧ x.toNat ≤ 57
instance (x : UInt8) : Decidable (isDig x) := inferInstanceAs (Decidable (_ ∧ _))
/-- What digits come to, behind n. -/
def valD (n : Int) (L : List UInt8) : Int := L.foldl (fun n x => 10 * n + dig x) n
theorem valD_cons (n : Int) (x : UInt8) (L : List UInt8) : valD n (x :: L) = valD (10 * n + dig x) L := rfl
theorem valD_app (n : Int) (L M : List UInt8) : valD n (L ++ M) = valD (valD n L) M := by simp [valD]
theorem dig_of {d : Nat} (h : d < 10) : isDig (UInt8.ofNat (48 + d)) ∧ dig (UInt8.ofNat (48 + d)) = (d : Int) := by
  have e : (UInt8.ofNat (48 + d)).toNat = 48 + d := by simp; omega
  constructor
  · exact ⟨by omega, by omega⟩
  · unfold dig; omega
theorem dec_dig (u : Nat) : (∀ x ∈ Lib.decDigits u, isDig x) ∧ valD 0 (Lib.decDigits u) = (u : Int) ∧ 1 ≤ (Lib.decDigits u).length := by
  induction u using Nat.strongRecOn with
  | _ u ih =>
    rw [Lib.decDigits]
    by_cases h : u < 10
    · rw [dif_pos h]
      obtain ⟨h1, h2⟩ := dig_of h
      refine ⟨fun x hx => ?_, ?_, by simp⟩
      · rw [List.mem_singleton] at hx; rw [hx]; exact h1
      · rw [valD_cons, h2]; simp [valD]
    · rw [dif_neg h]
      obtain ⟨i1, i2, i3⟩ := ih (u / 10) (by omega)
      obtain ⟨h1, h2⟩ := dig_of (Nat.mod_lt u (show 0 < 10 by omega))
      refine ⟨fun x hx => ?_, ?_, by simp⟩
      · rcases List.mem_append.1 hx with hx | hx
        · exact i1 x hx
        · rw [List.mem_singleton] at hx; rw [hx]; exact h1
      · rw [valD_app, i2, valD_cons, h2]
        simp only [valD, List.foldl_nil]
        omega
theorem dec_head (u : Nat) (h : 10 ≤ u) : ∃ x L, Lib.decDigits u = x :: L ∧ L ≠ [] ∧ x.toNat ≠ 48 := by
  induction u using Nat.strongRecOn with
  | _ u ih =>
    rw [Lib.decDigits, dif_neg (by omega)]
    by_cases c : u / 10 < 10
    · rw [Lib.decDigits_one c]
      obtain ⟨h1, h2⟩ := dig_of c
      exact ⟨_, _, rfl, by simp, by unfold dig at h2; omega⟩
    · obtain ⟨x, L, e, h1, h2⟩ := ih (u / 10) (by omega) (by omega)
      rw [e]
      exact ⟨x, L ++ _, rfl, by simp, h2⟩
theorem dig_rng {x : UInt8} (h : isDig x) : 0 ≤ dig x ∧ dig x ≤ 9 := by unfold dig; have := h.1; have := h.2; omega
theorem valD_rng {L : List UInt8} (h : ∀ x ∈ L, isDig x) : ∀ {n : Int}, 0 ≤ n → n * ((10 ^ L.length : Nat) : Int) ≤ valD n L ∧ valD n L + 1 ≤ (n + 1) * ((10 ^ L.length : Nat) : Int) := by
  induction L with
  | nil => intro n _; simp [valD]
  | cons x L ih =>
    intro n hn
    have hx := dig_rng (h x (by simp))
    obtain ⟨a1, a2⟩ := ih (fun y hy => h y (by simp [hy])) (n := 10 * n + dig x) (by omega)
    rw [valD_cons, List.length_cons, Nat.pow_succ]
    push_cast at a1 a2 ⊢
    have hp : (0 : Int) ≤ 10 ^ L.length := Int.pow_nonneg (by omega)
    have b1 : (10 * n) * 10 ^ L.length ≤ (10 * n + dig x) * (10 : Int) ^ L.length := Int.mul_le_mul_of_nonneg_right (by omega) hp
    have b2 : (10 * n + dig x + 1) * (10 : Int) ^ L.length ≤ (10 * n + 10) * 10 ^ L.length := Int.mul_le_mul_of_nonneg_right (by omega) hp
    have c1 : n * (10 ^ L.length * 10) = (10 * n) * (10 : Int) ^ L.length := by
      rw [Int.mul_comm ((10 : Int) ^ L.length) 10, ← Int.mul_assoc, Int.mul_comm n 10]
    have c2 : (n + 1) * (10 ^ L.length * 10) = (10 * n + 10) * (10 : Int) ^ L.length := by
      rw [Int.mul_comm ((10 : Int) ^ L.length) 10, ← Int.mul_assoc]
      congr 1
      omega
    exact ⟨by omega, by omega⟩
/-- A numeral without leading zeros. -/
def CanD (L : List UInt8) : Prop := L ≠ [] ∧ (∀ x ∈ L, isDig x) ∧ (1 < L.length → (L.headD 0).toNat ≠ 48)
instance (L : List UInt8) : Decidable (CanD L) := inferInstanceAs (Decidable (_ ∧ _ ∧ _))
theorem dec_can (u : Nat) : CanD (Lib.decDigits u) := by
  obtain ⟨h1, h2, h3⟩ := dec_dig u
  refine ⟨fun h => by rw [h] at h3; simp at h3, h1, fun h => ?_⟩
  by_cases c : u < 10
  · rw [Lib.decDigits_one c] at h; simp at h
  · obtain ⟨x, L, e, _, h5⟩ := dec_head u (by omega)
    rw [e]; exact h5
theorem valD_pos {x : UInt8} {L : List UInt8} (h : ∀ y ∈ x :: L, isDig y) (h0 : x.toNat ≠ 48) : ((10 ^ L.length : Nat) : Int) ≤ valD 0 (x :: L) := by
  have hx := h x (by simp)
  have hd : 1 ≤ dig x := by unfold dig; have := hx.1; omega
  have := (valD_rng (L := L) (fun y hy => h y (by simp [hy])) (n := 10 * 0 + dig x) (by omega)).1
  rw [valD_cons]
  have hp : (0 : Int) ≤ ((10 ^ L.length : Nat) : Int) := Int.natCast_nonneg _
  have b1 : 1 * ((10 ^ L.length : Nat) : Int) ≤ (10 * 0 + dig x) * ((10 ^ L.length : Nat) : Int) := Int.mul_le_mul_of_nonneg_right (by omega) hp
  omega
theorem can_dec {L : List UInt8} (h : CanD L) : Lib.decDigits (valD 0 L).toNat = L := by
  suffices H : ∀ n L, L.length = n → CanD L → Lib.decDigits (valD 0 L).toNat = L from H _ L rfl h
  intro n
  induction n with
  | zero => intro L hl hc; exact absurd (List.eq_nil_of_length_eq_zero hl) hc.1
  | succ n ih =>
    intro L hl hc
    obtain ⟨M, y, rfl⟩ : ∃ M y, L = M ++ [y] := ⟨L.dropLast, L.getLast hc.1, (List.dropLast_concat_getLast hc.1).symm⟩
    have hy := dig_rng (hc.2.1 y (by simp))
    rw [valD_app]
    have e1 : valD (valD 0 M) [y] = 10 * valD 0 M + dig y := rfl
    by_cases hM : M = []
    · subst hM
      rw [e1]
      have e2 : valD 0 ([] : List UInt8) = 0 := rfl
      rw [e2, Lib.decDigits_one (by omega)]
      have : 48 + (10 * 0 + dig y).toNat = y.toNat := by unfold dig at hy ⊢; omega
      rw [this]
      simp
    · have hcM : CanD M := by
        refine ⟨hM, fun x hx => hc.2.1 x (by simp [hx]), fun hl => ?_⟩
        have := hc.2.2 (by simp; omega)
        cases M with
        | nil => exact absurd rfl hM
        | cons x M => simpa using this
      have hi := ih M (by simpa using hl) hcM
      have hpos : 1 ≤ valD 0 M := by
        cases M with
        | nil => exact absurd rfl hM
        | cons x M =>
          have hx := hc.2.2 (by simp)
          have := valD_pos hcM.2.1 (by simpa using hx)
          have : 1 ≤ 10 ^ M.length := Nat.pow_pos (by omega)
          omega
      rw [e1, Lib.decDigits, dif_neg (by omega), show (10 * valD 0 M + dig y).toNat / 10 = (valD 0 M).toNat by omega, hi]
      have : 48 + (10 * valD 0 M + dig y).toNat % 10 = y.toNat := by unfold dig at hy ⊢; omega
      rw [this]
      simp
/-- Their lengths. -/
theorem can_len {L : List UInt8} (h : CanD L) : 0 ≤ valD 0 L ∧ (valD 0 L ≤ 999999 ↔ L.length ≤ 6) := by
  obtain ⟨a1, a2⟩ := valD_rng h.2.1 (n := 0) (by omega)
  refine ⟨by omega, fun hv => ?_, fun hl => ?_⟩
  · cases L with
    | nil => exact absurd rfl h.1
    | cons x L =>
      by_cases c : L = []
      · subst c; simp
      · have hx := h.2.2 (by simp; exact Nat.pos_of_ne_zero fun e => c (List.eq_nil_of_length_eq_zero e))
        have := valD_pos h.2.1 (by simpa using hx)
        rw [List.length_cons]
        by_cases hl : L.length + 1 ≤ 6
        · exact hl
        · have : (10 : Nat) ^ 6 ≤ 10 ^ L.length := Nat.pow_le_pow_right (by omega) (by omega)
          have e6 : (10 : Nat) ^ 6 = 1000000 := rfl
          omega
  · have : (10 : Nat) ^ L.length ≤ 10 ^ 6 := Nat.pow_le_pow_right (by omega) hl
    have e6 : (10 : Nat) ^ 6 = 1000000 := rfl
    omega
/-! l1Digits -/
theorem digits_run {L : List UInt8} (h6 : L.length ≤ 6) : ∀ k, k ≤ L.length → ∀ n : Int, 0 ≤ n → n + 1 ≤ ((10 ^ k : Nat) : Int) → s_l1Digits_l0 (ofL L) n (k : Int) = some (if ∀ x ∈ L.drop k, isDig x then valD n (L.drop k) else -1) := by
  refine advN ?_ fun k hk ih => ?_
  · intro n _ _
    rw [digits_end, List.drop_length, if_pos (fun x hx => by cases hx)]; rfl
  · intro n hn hn'
    have hp : (10 : Nat) ^ k ≤ 10 ^ 5 := Nat.pow_le_pow_right (by omega) (by omega)
    have e5 : (10 : Nat) ^ 5 = 100000 := rfl
    have hps : (10 : Nat) ^ (k + 1) = 10 ^ k * 10 := Nat.pow_succ 10 k
    rw [digits_step hk h6 hn (by omega), List.drop_eq_getElem_cons hk]
    by_cases hd : 48 ≤ L[k].toNat ∧ L[k].toNat ≤ 57
    · have hr := dig_rng (x := L[k]) hd
      rw [if_pos hd, ih (10 * n + dig L[k]) (by omega) (by omega), valD_cons]
      have : (∀ x ∈ L[k] :: L.drop (k + 1), isDig x) ↔ ∀ x ∈ L.drop (k + 1), isDig x := ⟨fun h x hx => h x (List.mem_cons_of_mem _ hx), fun h x hx => by
        rcases List.mem_cons.1 hx with e | hx
        · rw [e]; exact hd
        · exact h x hx⟩
      by_cases c : ∀ x ∈ L.drop (k + 1), isDig x
      · rw [if_pos c, if_pos (this.2 c)]
      · rw [if_neg c, if_neg (fun hh => c (this.1 hh))]
    · rw [if_neg hd, if_neg (fun hh => hd (hh _ (List.mem_cons_self ..)))]
theorem digits_val (L : List UInt8) : s_l1Digits_f (ofL L) = some (if CanD L ∧ L.length ≤ 6 then valD 0 L else -1) := by
  rw [s_l1Digits_f_eq, ofL_size, l1In_val, Option.bind_some]
  by_cases hl : 1 ≤ L.length ∧ L.length ≤ 6
  · rw [decide_eq_true (show 1 ≤ (L.length : Int) ∧ (L.length : Int) ≤ 6 by omega), Bool.not_true, cond_false]
    have hr : s_l1Digits_l0 (ofL L) 0 0 = some (if ∀ x ∈ L, isDig x then valD 0 L else -1) := by
      have := digits_run hl.2 0 (by omega) 0 (by omega) (by simp)
      rw [List.drop_zero] at this
      exact this
    have hne : L ≠ [] := fun e => by rw [e] at hl; simp at hl
    by_cases h2 : 2 ≤ L.length
    · have h0 : 0 < L.length := by omega
      have hg := dgt (L := L) (k := 0) h0
      have hh : (L.headD 0).toNat = L[0].toNat := by
        cases L with
        | nil => exact absurd rfl hne
        | cons x L => rfl
      rw [cnd_t (show (1 : Int) < (L.length : Int) by omega), if_pos (show (0 : Int) ≤ 0 ∧ (0 : Int) < (L.length : Int) by omega), show List.getD (ByteArray.data (ofL L)).toList ((0 : Int)).toNat 0 = L[0] from hg]
      by_cases c : L[0].toNat = 48
      · rw [beq_t (by omega), if_neg]
        rintro ⟨hc, _⟩
        exact hc.2.2 (by omega) (by omega)
      · rw [beq_f (by omega), hr]
        by_cases d : ∀ x ∈ L, isDig x
        · rw [if_pos d, if_pos ⟨⟨hne, d, fun _ => by omega⟩, hl.2⟩]
        · rw [if_neg d, if_neg fun hc => d hc.1.2.1]
    · rw [cnd_f (show ¬ (1 : Int) < (L.length : Int) by omega), hr]
      by_cases d : ∀ x ∈ L, isDig x
      · rw [if_pos d, if_pos ⟨⟨hne, d, fun h => by omega⟩, hl.2⟩]
      · rw [if_neg d, if_neg fun hc => d hc.1.2.1]
  · have hn : ¬ (CanD L ∧ L.length ≤ 6) := by
      rintro ⟨hc, h6⟩
      have : L.length ≠ 0 := fun e => hc.1 (List.eq_nil_of_length_eq_zero e)
      omega
    rw [decide_eq_false (show ¬ (1 ≤ (L.length : Int) ∧ (L.length : Int) ≤ 6) by omega), if_neg hn, Bool.not_false, cond_true]
/-! Atoi -/
theorem decFrom_val {L : List UInt8} (h : ∀ x ∈ L, isDig x) : ∀ n : Nat, ∃ m : Nat, Lib.decFrom n L = some m ∧ (m : Int) = valD (n : Int) L := by
  induction L with
  | nil => exact fun n => ⟨n, rfl, rfl⟩
  | cons x L ih =>
    intro n
    have hx := h x (by simp)
    obtain ⟨m, e1, e2⟩ := ih (fun y hy => h y (by simp [hy])) (n * 10 + (x.toNat - 48))
    refine ⟨m, ?_, ?_⟩
    · show (match Lib.digitVal x with | some d => Lib.decFrom (n * 10 + d) L | none => none) = some m
      rw [show Lib.digitVal x = some (x.toNat - 48) from if_pos hx]
      exact e1
    · rw [e2, valD_cons]
      congr 1
      unfold dig
      have := hx.1
      omega
theorem atoi_can {L : List UInt8} (h : CanD L) (h6 : L.length ≤ 6) : Lib.atoiAll L = .ok (valD 0 L) := by
  rw [Lib.atoiAll_short L (by omega)]
  obtain ⟨m, e1, e2⟩ := decFrom_val h.2.1 0
  have : Lib.atoi L = some (valD 0 L) := by
    cases L with
    | nil => exact absurd rfl h.1
    | cons x L =>
      have hx := h.2.1 x (by simp)
      have n1 : (x == 45) = false := by
        apply beq_false_of_ne
        intro e
        rw [e] at hx
        exact absurd hx (by decide)
      have n2 : (x == 43) = false := by
        apply beq_false_of_ne
        intro e
        rw [e] at hx
        exact absurd hx (by decide)
      show (if x == 45 then _ else if x == 43 then _ else (Lib.decNat (x :: L)).map fun (m : Nat) => (m : Int)) = _
      rw [n1, n2, if_neg (by simp), if_neg (by simp)]
      show (Lib.decFrom 0 (x :: L)).map _ = _
      rw [e1]
      show some (m : Int) = _
      rw [e2]
      rfl
  rw [this]
  rfl
/-! l1Number -/
theorem dg1_val {n : Int} (h0 : 0 ≤ n) (h1 : n < 10) : dg1 n = ofL (Lib.decDigits n.toNat) := by
  have := (dg_at h0 (by omega)).1
  rw [if_pos h1] at this
  exact this
theorem dgL_val {n : Int} (h0 : 0 ≤ n) : dgL n = ofL [UInt8.ofNat (48 + n.toNat % 10)] := by
  have e : Int.tmod n 10 = Int.tmod ((n.toNat % 10 : Nat) : Int) 10 := by
    rw [Int.tmod_eq_emod_of_nonneg h0, Int.tmod_eq_emod_of_nonneg (by omega)]; omega
  have hl : dgL n = dgL ((n.toNat % 10 : Nat) : Int) := by unfold dgL; rw [e]
  rw [hl]
  have hd : n.toNat % 10 < 10 := Nat.mod_lt _ (by omega)
  have : dgL ((n.toNat % 10 : Nat) : Int) = dg1 ((n.toNat % 10 : Nat) : Int) := by
    unfold dgL dg1
    rw [Int.tmod_eq_emod_of_nonneg (by omega), Int.emod_eq_of_lt (by omega) (by omega), if_neg (by omega)]
  rw [this, dg1_val (by omega) (by omega), Int.toNat_natCast, Lib.decDigits_one hd]
theorem num_gen : ∀ (u : Nat), u ≤ 1000000000000 → (Lib.decDigits u).length ≤ u + 1 ∧ (∃ k, s_l1Number_g k (u : Int) = some (ofL (Lib.decDigits u))) ∧ ∀ k r, s_l1Number_g k (u : Int) = some r → r = ofL (Lib.decDigits u) := by
  intro u
  induction u using Nat.strongRecOn with
  | _ u ih =>
    intro hu
    by_cases h : u < 10
    · have e := dg1_val (n := (u : Int)) (by omega) (by omega)
      rw [Int.toNat_natCast] at e
      refine ⟨by rw [Lib.decDigits_one h]; simp, ⟨1, by rw [num_low 0 (by omega), e]⟩, fun k r hk => ?_⟩
      cases k with
      | zero => rw [num_g0] at hk; cases hk
      | succ k => rw [num_low k (by omega), e] at hk; exact (Option.some.inj hk).symm
    · obtain ⟨i0, ⟨k0, i1⟩, i2⟩ := ih (u / 10) (by omega) (by omega)
      have hd : IntKind.i64.wrap (Int.tdiv (u : Int) 10) = ((u / 10 : Nat) : Int) := by
        rw [Int.tdiv_eq_ediv_of_nonneg (by omega), i64w (by omega) (by omega)]; omega
      have eL := dgL_val (n := (u : Int)) (by omega)
      rw [Int.toNat_natCast] at eL
      have hl : (Lib.decDigits u).length ≤ u + 1 := by rw [Lib.decDigits, dif_neg h]; simp; omega
      have he : ofL (Lib.decDigits (u / 10)) ++ dgL (u : Int) = ofL (Lib.decDigits u) := by
        rw [eL, ofL_app]
        congr 1
        rw [Lib.decDigits.eq_1 u, dif_neg h]
      have hsz : (ofL (Lib.decDigits (u / 10))).size + (dgL (u : Int)).size ≤ 9223372036854775807 := by
        rw [eL, ofL_size, ofL_size]; simp; omega
      have stp : ∀ k, s_l1Number_g (k + 1) (u : Int) = (s_l1Number_g k ((u / 10 : Nat) : Int)).bind fun b => if b.size + (dgL (u : Int)).size ≤ 9223372036854775807 then some (b ++ dgL (u : Int)) else none := by
        intro k
        rw [s_l1Number_g_eq, cnd_f (by omega), hd]
        rfl
      refine ⟨hl, ⟨k0 + 1, ?_⟩, fun k r hk => ?_⟩
      · rw [stp, i1, Option.bind_some, if_pos hsz, he]
      · cases k with
        | zero => rw [num_g0] at hk; cases hk
        | succ k =>
          rw [stp] at hk
          obtain ⟨b, hb, hk⟩ := Option.bind_eq_some_iff.1 hk
          rw [i2 k b hb, if_pos hsz, he] at hk
          exact (Option.some.inj hk).symm
theorem num_all {n : Int} (h0 : 0 ≤ n) (h1 : n ≤ 1000000000000) : s_l1Number_f n = some (ofL (Lib.itoa n)) := by
  obtain ⟨u, rfl⟩ : ∃ u : Nat, n = u := ⟨n.toNat, by omega⟩
  obtain ⟨_, a, b⟩ := num_gen u (by omega)
  rw [Lib.itoa_nonneg]
  exact lim_of a b
end FN

/-! Rows as texts; counts. -/
namespace FN
open Go
theorem itoaG_eq (n : Int) : itoaG n = ofL (Lib.itoa n) := rfl
theorem itoaG_val {n : Int} (h0 : -9223372036854775808 ≤ n) (h1 : n ≤ 9223372036854775807) : x_strconv_ItoaG_f n = some (itoaG n) := if_pos ⟨h0, h1⟩
theorem itoaG_size {n : Int} (h0 : -9223372036854775808 ≤ n) (h1 : n ≤ 9223372036854775807) : (itoaG n).size ≤ 21 := by
  rw [itoaG_eq, ofL_size]
  exact Lib.itoa_length_le n h0 h1
theorem itoaG_pos (n : Int) : 0 < (itoaG n).size := by
  rw [itoaG_eq, ofL_size]
  unfold Lib.itoa
  split
  · simp
  · exact (dec_dig n.toNat).2.2
theorem itoaG_neg {n : Int} (h : n < 0) : str48 ++ itoaG (-n) = itoaG n := by
  obtain ⟨u, rfl⟩ : ∃ u : Nat, n = -(u : Int) := ⟨n.natAbs, by omega⟩
  rw [Int.neg_neg, itoaG_eq, itoaG_eq, Lib.itoa_nonneg, Lib.itoa_neg u (by omega)]
  exact ofL_app [45] _
/-- Their texts, with commas. -/
def rowV (l : List Int) : ByteArray := if l = [] then str40 else joinS (l.map itoaG) str14
theorem rev_ind {P : List Int → Prop} (h0 : P []) (h1 : ∀ l x, P l → P (l ++ [x])) (l : List Int) : P l := by
  rw [← l.reverse_reverse]
  induction l.reverse with
  | nil => exact h0
  | cons x t ih => rw [List.reverse_cons]; exact h1 _ _ ih
theorem join_size : ∀ {l : List Int}, (∀ v ∈ l, -1000000000 ≤ v ∧ v ≤ 1000000000) → (joinS (l.map itoaG) str14).size ≤ 22 * l.length := by
  intro l
  refine rev_ind (P := fun l => (∀ v ∈ l, -1000000000 ≤ v ∧ v ≤ 1000000000) → (joinS (l.map itoaG) str14).size ≤ 22 * l.length) (fun _ => Nat.le_refl _) (fun l x ih => ?_) l
  · intro h
    have hx := h x (by simp)
    have hi := ih fun v hv => h v (by simp [hv])
    have hs := itoaG_size (n := x) (by omega) (by omega)
    have z14 : ByteArray.size str14 = 1 := rfl
    rw [List.map_append, List.map_singleton, List.length_append, List.length_singleton]
    by_cases c : l = []
    · subst c
      rw [List.map_nil, List.nil_append, joinS_one]
      omega
    · rw [joinS_snoc (by simpa using c), ByteArray.size_append, ByteArray.size_append]
      omega
theorem i_row_loop {l : List Int} (hl : l.length ≤ 1000) (hv : ∀ v ∈ l, -1000000000 ≤ v ∧ v ≤ 1000000000) : ∀ i, i ≤ l.length → i_rowText_l0 l (l.length : Int) (i : Int) ((l.take i).map itoaG) = some (joinS (l.map itoaG) str14) := by
  refine advN ?_ fun i hi ih => ?_
  · rw [i_rowText_l0_eq, cnd_f (by omega), List.take_length, x_strings_Join_f_eq, if_pos ⟨by rw [List.length_map]; omega, by have := join_size hv; omega⟩]
    rfl
  · have hx := hv (l.getD i 0) (by rw [List.getD_eq_getElem?_getD, List.getElem?_eq_getElem hi]; exact List.getElem_mem hi)
    rw [i_rowText_l0_eq, cnd_t (by omega), if_pos (inN hi), gN, itoaG_val (by omega) (by omega), Option.bind_some, if_pos (by simp; omega), w1 hi (by omega)]
    rw [List.take_succ_eq_append_getElem hi, List.map_append, List.map_singleton] at ih
    rw [show l.getD i 0 = l[i] by rw [List.getD_eq_getElem?_getD, List.getElem?_eq_getElem hi]; rfl]
    exact ih
theorem i_row {l : List Int} (hl : l.length ≤ 1000) (hv : ∀ v ∈ l, -1000000000 ≤ v ∧ v ≤ 1000000000) : i_rowText_f l = some (rowV l) := by
  rw [i_rowText_f_eq]
  unfold rowV
  by_cases c : l = []
  · subst c; rfl
  · have : l.length ≠ 0 := fun e => c (List.eq_nil_of_length_eq_zero e)
    rw [beq_f (by omega), if_neg c]
    exact i_row_loop hl hv 0 (by omega)
theorem s_row_loop {l : List Int} (hl : l.length ≤ 1000) (hv : ∀ v ∈ l, -1000000000 ≤ v ∧ v ≤ 1000000000) : ∀ i, i ≤ l.length → s_l15Row_l0 l (joinS ((l.take i).map itoaG) str14) (i : Int) = s_l15Row_j2 l (joinS (l.map itoaG) str14) := by
  have z14 : ByteArray.size str14 = 1 := rfl
  have z48 : ByteArray.size str48 = 1 := rfl
  refine advN ?_ fun i hi ih => ?_
  · rw [s_l15Row_l0_eq, cnd_f (by omega), List.take_length]
  · have hg : l.getD i 0 = l[i] := by rw [List.getD_eq_getElem?_getD, List.getElem?_eq_getElem hi]; rfl
    have hx := hv (l.getD i 0) (by rw [hg]; exact List.getElem_mem hi)
    have hsz : (joinS ((l.take i).map itoaG) str14).size ≤ 22 * 1000 := by
      have := join_size (l := l.take i) fun v hm => hv v (List.mem_of_mem_take hm)
      have h2 : (l.take i).length ≤ 1000 := by rw [List.length_take]; omega
      omega
    have hs := itoaG_size (n := l.getD i 0) (by omega) (by omega)
    have go : ∀ y : ByteArray, y.size ≤ 22 * 1000 + 1 → y ++ itoaG (l.getD i 0) = joinS ((l.take (i + 1)).map itoaG) str14 → s_l15Row_j1 l y (i : Int) = s_l15Row_j2 l (joinS (l.map itoaG) str14) := by
      intro y hy he
      rw [s_l15Row_j1_eq, if_pos (inN hi), gN]
      by_cases c : l.getD i 0 < 0
      · have e1 := itoaG_neg c
        have hs2 : (itoaG (-l.getD i 0)).size ≤ 21 := itoaG_size (by omega) (by omega)
        rw [cnd_t c, if_pos (by omega), if_pos (inN hi), i64w (by omega) (by omega), show 0 - l.getD i 0 = -l.getD i 0 by omega, num_all (by omega) (by omega), Option.bind_some, ← itoaG_eq, if_pos (by rw [ByteArray.size_append]; omega), w1 hi (by omega), ByteArray.append_assoc, e1, he]
        exact ih
      · rw [cnd_f c, if_pos (inN hi), num_all (by omega) (by omega), Option.bind_some, ← itoaG_eq, if_pos (by omega), w1 hi (by omega), he]
        exact ih
    have hlast : (l.take (i + 1)).map itoaG = (l.take i).map itoaG ++ [itoaG (l.getD i 0)] := by
      rw [List.take_succ_eq_append_getElem hi, List.map_append, List.map_singleton, hg]
    rw [s_l15Row_l0_eq, cnd_t (by omega)]
    by_cases c : 0 < i
    · have hne : (l.take i).map itoaG ≠ [] := fun e => by
        have := congrArg List.length e
        rw [List.length_map, List.length_take, List.length_nil] at this
        omega
      rw [cnd_t (show (0 : Int) < (i : Int) by omega), if_pos (by omega)]
      exact go _ (by rw [ByteArray.size_append]; omega) (by rw [hlast, joinS_snoc hne])
    · have c0 : i = 0 := by omega
      rw [cnd_f (show ¬ (0 : Int) < (i : Int) by omega)]
      refine go _ (by omega) ?_
      rw [hlast]
      subst c0
      rw [List.take_zero, List.map_nil, List.nil_append, joinS_one, joinS_nil]
      exact ba_ext (by simp)
theorem s_row {l : List Int} (hl : l.length ≤ 1000) (hv : ∀ v ∈ l, -1000000000 ≤ v ∧ v ≤ 1000000000) : s_l15Row_f l = some (rowV l) := by
  rw [s_l15Row_f_eq]
  refine (s_row_loop hl hv 0 (by omega)).trans ?_
  rw [s_l15Row_j2_eq]
  unfold rowV
  by_cases c : l = []
  · subst c; rfl
  · have : l.length ≠ 0 := fun e => c (List.eq_nil_of_length_eq_zero e)
    rw [beq_f (by omega), if_neg c]
/-! Counts. -/
theorem counts_loop {k : Int} {s : List Int} (h : StP k s) : ∀ i, i ≤ s.length → ∀ w : List Int, (w.length : Int) = k → (∀ v ∈ w, 0 ≤ v ∧ v ≤ (i : Int)) → ∃ r, i_CountsOf_l0 s (s.length : Int) (i : Int) w = some r ∧ s_CountsOf_l0 s (i : Int) w = some r ∧ (r.length : Int) = k ∧ ∀ v ∈ r, 0 ≤ v ∧ v ≤ 6 := by
  have hs := h.2.2.2.2
  refine advN ?_ fun i hi ih => ?_
  · intro w hw hv
    exact ⟨w, by rw [i_CountsOf_l0_eq, cnd_f (by omega)], by rw [s_CountsOf_l0_eq, cnd_f (by omega)], hw, fun v hm => by have := hv v hm; omega⟩
  · intro w hw hv
    have hr := h.1 i hi
    have hge : 0 ≤ w.getD (s.getD i 0).toNat 0 ∧ w.getD (s.getD i 0).toNat 0 ≤ (i : Int) := by
      have hlt : (s.getD i 0).toNat < w.length := by omega
      rw [List.getD_eq_getElem?_getD, List.getElem?_eq_getElem hlt]
      exact hv _ (List.getElem_mem hlt)
    obtain ⟨r, e1, e2, e3, e4⟩ := ih (w.set (s.getD i 0).toNat (w.getD (s.getD i 0).toNat 0 + 1)) (by simp [hw]) (fun v hm => by
      rcases List.mem_or_eq_of_mem_set hm with hm | hm
      · have := hv v hm; omega
      · rw [hm]; omega)
    refine ⟨r, ?_, ?_, e3, e4⟩
    · rw [i_CountsOf_l0_eq, cnd_t (by omega), if_pos (inN hi), gN, if_pos (by omega), if_pos (by omega), w1 hi (by omega), i64w (by omega) (by omega)]
      exact e1
    · rw [s_CountsOf_l0_eq, cnd_t (by omega), if_pos (inN hi), if_pos (inN hi), gN, if_pos (by omega), if_pos (by omega), w1 hi (by omega), i64w (by omega) (by omega)]
      exact e2
theorem counts_val {k : Int} {s : List Int} (h : StP k s) : ∃ r : List Int, i_CountsOf_f (k, s) = some r ∧ s_CountsOf_f (k, s) = some r ∧ (r.length : Int) = k ∧ ∀ v ∈ r, 0 ≤ v ∧ v ≤ 6 := by
  have hk := h.2
  obtain ⟨r, e1, e2, e3, e4⟩ := counts_loop h 0 (by omega) (List.replicate k.toNat 0) (by simp; omega) (fun v hv => by
    rw [List.eq_of_mem_replicate hv]; omega)
  refine ⟨r, ?_, ?_, e3, e4⟩
  · rw [i_CountsOf_f_eq, ist k s (by omega), decide_eq_true h, Option.bind_some, Bool.not_true, cond_false, if_pos ⟨by omega, by omega, by omega⟩]
    exact e1
  · rw [s_CountsOf_f_eq, sst k s (by omega), decide_eq_true h, Option.bind_some, Bool.not_true, cond_false, if_pos ⟨by omega, by omega, by omega⟩]
    exact e2
end FN

/-! The first repetition of a sequence of numbers. -/
namespace FN
open Go
structure RepAt (g : Nat → Int) (i n : Nat) : Prop where
  lt : i < n
  eq : g i = g n
  apart : ∀ a b, a < b → b < n → g a ≠ g b
theorem RepAt.uniq {g : Nat → Int} {i n i' n' : Nat} (h : RepAt g i n) (k : RepAt g i' n') : i = i' ∧ n = n' := by
  have hn : n = n' := by
    rcases Nat.lt_trichotomy n n' with hc | hc | hc
    · exact absurd h.eq (k.apart i n h.lt hc)
    · exact hc
    · exact absurd k.eq (h.apart i' n' k.lt hc)
  subst hn
  refine ⟨?_, rfl⟩
  rcases Nat.lt_trichotomy i i' with hc | hc | hc
  · exact absurd (h.eq.trans k.eq.symm) (h.apart i i' hc k.lt)
  · exact hc
  · exact absurd (k.eq.trans h.eq.symm) (h.apart i' i hc h.lt)
theorem pigeon : ∀ (N : Nat) (f : Nat → Nat), (∀ k, k ≤ N → f k < N) → ∃ a b, a < b ∧ b ≤ N ∧ f a = f b
  | 0, f, h => absurd (h 0 (Nat.le_refl 0)) (by omega)
  | N + 1, f, h => by
    by_cases hc : ∃ a, a ≤ N ∧ f a = f (N + 1)
    · obtain ⟨a, h1, h2⟩ := hc
      exact ⟨a, N + 1, by omega, Nat.le_refl _, h2⟩
    · have hne : ∀ a, a ≤ N → f a ≠ f (N + 1) := fun a ha e => hc ⟨a, ha, e⟩
      obtain ⟨a, b, h1, h2, h3⟩ := pigeon N (fun k => if f (N + 1) < f k then f k - 1 else f k) (fun k hk => by
        have h4 := h k (by omega)
        have h5 := hne k hk
        have h6 := h (N + 1) (Nat.le_refl _)
        show (if f (N + 1) < f k then f k - 1 else f k) < N
        split <;> omega)
      refine ⟨a, b, h1, by omega, ?_⟩
      have h4 := hne a (by omega)
      have h5 := hne b h2
      have h3' : (if f (N + 1) < f a then f a - 1 else f a) = (if f (N + 1) < f b then f b - 1 else f b) := h3
      split at h3' <;> split at h3' <;> omega
theorem RepAt.ex {g : Nat → Int} {N : Nat} (h : ∀ k, 0 ≤ g k ∧ g k < N) : ∃ i n, n ≤ N ∧ RepAt g i n := by
  obtain ⟨a, b, h1, h2, h3⟩ := pigeon N (fun k => (g k).toNat) (fun k _ => by have := h k; omega)
  have hab : g a = g b := by have := h a; have := h b; have h3' : (g a).toNat = (g b).toNat := h3; omega
  -- the least such b
  have key : ∀ m, m ≤ b → (∃ i n, n ≤ N ∧ RepAt g i n) ∨ ∀ x y, x < y → y < m → g x ≠ g y := by
    intro m
    induction m with
    | zero => exact fun _ => .inr fun x y _ hy => absurd hy (by omega)
    | succ m ih =>
      intro hm
      rcases ih (by omega) with h4 | h4
      · exact .inl h4
      · by_cases hc : ∃ i, i < m ∧ g i = g m
        · obtain ⟨i, h5, h6⟩ := hc
          exact .inl ⟨i, m, by omega, h5, h6, h4⟩
        · refine .inr fun x y hxy hy e => ?_
          by_cases hym : y = m
          · subst hym; exact hc ⟨x, hxy, e⟩
          · exact h4 x y hxy (by omega) e
  rcases key b (Nat.le_refl _) with h4 | h4
  · exact h4
  · exact ⟨a, b, h2, h1, hab, h4⟩
/-- One step later. -/
theorem RepAt.shift {g : Nat → Int} {i n : Nat} (hf : ∀ a b, g a = g b → g (a + 1) = g (b + 1)) (h : RepAt g i n) : RepAt (fun k => g (k + 1)) (i - 1) (if i = 0 then n else n - 1) := by
  have hlt := h.lt
  by_cases hi : i = 0
  · subst hi
    rw [if_pos rfl]
    refine ⟨h.lt, hf _ _ h.eq, fun a b hab hb => ?_⟩
    by_cases hc : b + 1 < n
    · exact h.apart (a + 1) (b + 1) (by omega) hc
    · have e : b + 1 = n := by omega
      show g (a + 1) ≠ g (b + 1)
      rw [e, ← h.eq]
      exact fun e => h.apart 0 (a + 1) (by omega) (by omega) e.symm
  · rw [if_neg hi]
    refine ⟨by omega, ?_, fun a b hab hb => h.apart (a + 1) (b + 1) (by omega) (by omega)⟩
    show g (i - 1 + 1) = g (n - 1 + 1)
    rw [show i - 1 + 1 = i by omega, show n - 1 + 1 = n by omega]
    exact h.eq
theorem loopG_val {num : List Int → Option Int} {step : List Int → Option (List Int)} {g : Nat → Int} {S : Nat → List Int} {i n : Nat} (hr : RepAt g i n) (hs : ∀ j, j < n → step (S j) = some (S (j + 1))) (hn : ∀ j, j ≤ n → num (S j) = some (g j)) (hb : ∀ j, 0 ≤ g j ∧ g j ≤ 4611686018427387904) (f : Nat) (hf : n < f) :
    loopG num step f [] (S 0) = some ((i : Int), (n : Int) - (i : Int)) := by
  have key : ∀ d j, n - j = d → j ≤ n → ∀ f, d < f → loopG num step f ((List.range j).map g) (S j) = some ((i : Int), (n : Int) - (i : Int)) := by
    intro d
    induction d with
    | zero =>
      intro j hd hj f hf
      have hjn : j = n := by omega
      subst hjn
      cases f with
      | zero => omega
      | succ f =>
        have hfi : ((List.range j).map g).findIdx? (· == g j) = some i := by
          rw [List.findIdx?_eq_some_iff_getElem]
          refine ⟨by simpa using hr.lt, by simp [hr.eq], fun k hk => ?_⟩
          have hkj : k < j := Nat.lt_trans hk hr.lt
          have := hr.apart k i hk hr.lt
          simp only [List.getElem_map, List.getElem_range, beq_iff_eq]
          rw [← hr.eq]
          simpa using this
        unfold loopG
        rw [hn j (Nat.le_refl j), Option.bind_some, if_pos (hb j)]
        simp only [hfi]
        simp
    | succ d ih =>
      intro j hd hj f hf
      have hjn : j < n := by omega
      cases f with
      | zero => omega
      | succ f =>
        have hfi : ((List.range j).map g).findIdx? (· == g j) = none := by
          rw [List.findIdx?_eq_none_iff]
          intro x hx
          obtain ⟨k, hk, rfl⟩ := List.mem_map.1 hx
          have := hr.apart k j (List.mem_range.1 hk) hjn
          simpa using this
        unfold loopG
        rw [hn j hj, Option.bind_some, if_pos (hb j)]
        simp only [hfi]
        rw [hs j hjn, Option.bind_some]
        have := ih (j + 1) (by omega) (by omega) f (by omega)
        rw [List.range_succ, List.map_append] at this
        exact this
  have := key (n - 0) 0 rfl (by omega) f (by omega)
  simpa using this
end FN

/-! A state's number; the states that come. -/
namespace FN
open Go
def numV (k : Int) (b : List Int) : Int := b.foldr (fun x n => n * k + x) 0
theorem numV_cons (k x : Int) (l : List Int) : numV k (x :: l) = numV k l * k + x := rfl
theorem numV_inj {k : Int} : ∀ {b b' : List Int}, b.length = b'.length → (∀ x ∈ b, 0 ≤ x ∧ x < k) → (∀ x ∈ b', 0 ≤ x ∧ x < k) → numV k b = numV k b' → b = b'
  | [], [], _, _, _, _ => rfl
  | [], _ :: _, h, _, _, _ => by simp at h
  | _ :: _, [], h, _, _, _ => by simp at h
  | x :: l, y :: m, h, h1, h2, e => by
    have hx := h1 x (by simp)
    have hy := h2 y (by simp)
    rw [numV_cons, numV_cons] at e
    have e1 : x = y := by
      have := congrArg (· % k) e
      simp only [Int.mul_add_emod_self_right] at this
      rwa [Int.emod_eq_of_lt hx.1 hx.2, Int.emod_eq_of_lt hy.1 hy.2] at this
    subst e1
    have e2 : numV k l * k = numV k m * k := by omega
    have e3 : numV k l = numV k m := Int.eq_of_mul_eq_mul_right (by omega) e2
    rw [numV_inj (b := l) (b' := m) (by simpa using h) (fun z hz => h1 z (by simp [hz])) (fun z hz => h2 z (by simp [hz])) e3]
theorem numV_bound {k : Int} (hk : 0 < k) : ∀ {b : List Int}, (∀ x ∈ b, 0 ≤ x ∧ x < k) → 0 ≤ numV k b ∧ numV k b + 1 ≤ k ^ b.length
  | [], _ => by simp [numV]
  | x :: l, h => by
    have hx := h x (by simp)
    obtain ⟨a1, a2⟩ := numV_bound hk (b := l) fun z hz => h z (by simp [hz])
    rw [numV_cons, List.length_cons, Int.pow_succ]
    have h1 : 0 ≤ numV k l * k := Int.mul_nonneg a1 (by omega)
    have h2 : (numV k l + 1) * k ≤ k ^ l.length * k := Int.mul_le_mul_of_nonneg_right a2 (by omega)
    rw [Int.add_mul, Int.one_mul] at h2
    omega
theorem StP.mem {k : Int} {s : List Int} (h : StP k s) : ∀ x ∈ s, 0 ≤ x ∧ x < k := by
  intro x hx
  obtain ⟨i, hi, rfl⟩ := List.getElem_of_mem hx
  have := h.1 i hi
  rwa [List.getD_eq_getElem?_getD, List.getElem?_eq_getElem hi] at this
theorem StP.num {k : Int} {s : List Int} (h : StP k s) : 0 ≤ numV k s ∧ numV k s < 15625 := by
  obtain ⟨a1, a2⟩ := numV_bound (by have := h.2.1; omega) h.mem
  refine ⟨a1, ?_⟩
  have h1 : k = 3 ∨ k = 4 ∨ k = 5 := by have := h.2; omega
  have h2 : s.length = 1 ∨ s.length = 2 ∨ s.length = 3 ∨ s.length = 4 ∨ s.length = 5 ∨ s.length = 6 := by have := h.2; omega
  have h3 : k ^ s.length ≤ 15625 := by
    rcases h1 with rfl | rfl | rfl <;> rcases h2 with e | e | e | e | e | e <;> rw [e] <;> decide
  omega
theorem numV_le {k : Int} {l : List Int} (h3 : 3 ≤ k) (h5 : k ≤ 5) (hl : l.length ≤ 6) (h : ∀ x ∈ l, 0 ≤ x ∧ x < k) : 0 ≤ numV k l ∧ numV k l < 15625 := by
  obtain ⟨a1, a2⟩ := numV_bound (by omega) h
  refine ⟨a1, ?_⟩
  have h1 : k = 3 ∨ k = 4 ∨ k = 5 := by omega
  have h2 : l.length = 0 ∨ l.length = 1 ∨ l.length = 2 ∨ l.length = 3 ∨ l.length = 4 ∨ l.length = 5 ∨ l.length = 6 := by omega
  have h3 : k ^ l.length ≤ 15625 := by
    rcases h1 with rfl | rfl | rfl <;> rcases h2 with e | e | e | e | e | e | e <;> rw [e] <;> decide
  omega
theorem num_loop {k : Int} {b : List Int} (h : StP k b) : ∀ m : Nat, m ≤ b.length → i_NumberOf_l0 k b (numV k (b.drop m)) ((m : Int) - 1) = some (numV k b)
  | 0, _ => by
    rw [i_NumberOf_l0_eq, cnd_f (by omega), List.drop_zero]
  | m + 1, hm => by
    have hd : b.drop m = b.getD m 0 :: b.drop (m + 1) := by
      rw [List.drop_eq_getElem_cons (by omega), List.getD_eq_getElem?_getD, List.getElem?_eq_getElem (by omega)]
      rfl
    have hk := h.2
    have hq := numV_le (l := b.drop (m + 1)) hk.1 hk.2.1 (by rw [List.length_drop]; omega) fun x hx => h.mem x (List.mem_of_mem_drop hx)
    have hx := h.1 m (by omega)
    have hmul : 0 ≤ numV k (b.drop (m + 1)) * k ∧ numV k (b.drop (m + 1)) * k ≤ 15625 * 5 := by
      refine ⟨Int.mul_nonneg hq.1 (by omega), ?_⟩
      exact Int.mul_le_mul (by omega) hk.2.1 (by omega) (by omega)
    have e1 : (((m + 1 : Nat) : Int) - 1) = (m : Int) := by omega
    rw [i_NumberOf_l0_eq, e1, cnd_t (by omega), if_pos ⟨by omega, by omega⟩, gN, i64w (n := numV k (b.drop (m + 1)) * k) (by omega) (by omega), i64w (n := numV k (b.drop (m + 1)) * k + b.getD m 0) (by omega) (by omega), i64w (n := (m : Int) - 1) (by omega) (by omega)]
    have := num_loop h m (by omega)
    rw [hd, numV_cons] at this
    exact this
theorem numOf_val {k : Int} {b : List Int} (h : StP k b) : i_NumberOf_f (k, b) = some (numV k b) := by
  have hl := h.2.2.2
  rw [i_NumberOf_f_eq, ist k b (by omega), Option.bind_some, decide_eq_true h, Bool.not_true, cond_false, i64w (by omega) (by omega)]
  have := num_loop h b.length (Nat.le_refl _)
  rw [List.drop_length] at this
  exact this
theorem stepV_ok {a : List Int} {k : Int} {b : List Int} (h : PlP a k b) : PlP a k (stepV a k b) := by
  have hl := stepV_len a k b
  refine ⟨h.1, ⟨fun i hi => ?_, h.2.1.2.1, h.2.1.2.2.1, by rw [hl]; exact h.2.1.2.2.2.1, by rw [hl]; exact h.2.1.2.2.2.2⟩, by rw [hl]; exact h.2.2⟩
  rw [hl] at hi
  rw [stepV_get h hi]
  have hb := h.2.1.1 i hi
  have hk := h.2.1.2.1
  unfold stepAt
  split
  · constructor
    · exact Int.tmod_nonneg _ (by omega)
    · exact Int.tmod_lt_of_pos _ (by omega)
  · split <;> omega
/-- The states that come. -/
noncomputable def stN (a : List Int) (k : Int) (b : List Int) : Nat → List Int
  | 0 => b
  | n + 1 => stepV a k (stN a k b n)
theorem stN_ok {a : List Int} {k : Int} {b : List Int} (h : PlP a k b) : ∀ n, PlP a k (stN a k b n) ∧ (stN a k b n).length = b.length
  | 0 => ⟨h, rfl⟩
  | n + 1 => ⟨stepV_ok (stN_ok h n).1, by rw [stN, stepV_len]; exact (stN_ok h n).2⟩
noncomputable def gN_ (a : List Int) (k : Int) (b : List Int) (n : Nat) : Int := numV k (stN a k b n)
theorem gN_next {a : List Int} {k : Int} {b : List Int} (h : PlP a k b) (i j : Nat) (e : gN_ a k b i = gN_ a k b j) : gN_ a k b (i + 1) = gN_ a k b (j + 1) := by
  have := numV_inj (by rw [(stN_ok h i).2, (stN_ok h j).2]) (stN_ok h i).1.2.1.mem (stN_ok h j).1.2.1.mem e
  show numV k (stepV a k (stN a k b i)) = numV k (stepV a k (stN a k b j))
  rw [this]
theorem gN_rep {a : List Int} {k : Int} {b : List Int} (h : PlP a k b) : ∃ i n, n ≤ 15625 ∧ RepAt (gN_ a k b) i n :=
  RepAt.ex (N := 15625) fun j => (stN_ok h j).1.2.1.num
theorem loop_val {a : List Int} {k : Int} {b : List Int} (h : PlP a k b) : ∃ i n, n ≤ 15625 ∧ RepAt (gN_ a k b) i n ∧ i_LoopOf_f (a, k, b) = some ((i : Int), (n : Int) - (i : Int)) := by
  obtain ⟨i, n, hn, hr⟩ := gN_rep h
  refine ⟨i, n, hn, hr, ?_⟩
  have hm := PlP.sm h
  rw [i_LoopOf_f_eq, iasked a k b (by omega), Option.bind_some, decide_eq_true h, cond_true]
  have key := fun f hf => loopG_val (num := fun s => i_NumberOf_f (k, s)) (step := fun s => i_needStep_f (a, k, (), s)) (g := gN_ a k b) (S := stN a k b) hr (fun j _ => i_step (stN_ok h j).1) (fun j _ => numOf_val (stN_ok h j).1.2.1) (fun j => by
    have := (stN_ok h j).1.2.1.num
    exact ⟨this.1, by have := this.2; show numV k (stN a k b j) ≤ _; omega⟩) f hf
  have e0 : stN a k b 0 = b := rfl
  rw [e0] at key
  have hf : n < 20000 := by omega
  generalize (20000 : Nat) = f at hf ⊢
  exact key f hf
end FN

/-! The hare and the tortoise. -/
namespace FN
open Go
section
variable {g : Nat → Int} {i n : Nat} (hf : ∀ a b, g a = g b → g (a + 1) = g (b + 1)) (h : RepAt g i n)
include hf h
theorem RepAt.per (a : Nat) (ha : i ≤ a) : g (a + (n - i)) = g a := by
  obtain ⟨d, rfl⟩ : ∃ d, a = i + d := ⟨a - i, by omega⟩
  have hlt := h.lt
  induction d with
  | zero =>
    show g (i + (n - i)) = g i
    rw [show i + (n - i) = n by omega]
    exact h.eq.symm
  | succ d ih =>
    have := hf _ _ (ih (by omega))
    rw [show i + (d + 1) + (n - i) = i + d + (n - i) + 1 by omega, show i + (d + 1) = i + d + 1 by omega]
    exact this
theorem RepAt.perN (a : Nat) (ha : i ≤ a) (k : Nat) : g (a + k * (n - i)) = g a := by
  induction k with
  | zero => rw [Nat.zero_mul, Nat.add_zero]
  | succ k ih => rw [Nat.add_mul, Nat.one_mul, ← Nat.add_assoc, h.per hf (a + k * (n - i)) (by omega), ih]
theorem RepAt.rest (a : Nat) (ha : i ≤ a) : g a = g (i + (a - i) % (n - i)) := by
  have hd : a = i + (a - i) % (n - i) + (a - i) / (n - i) * (n - i) := by
    have := Nat.mod_add_div (a - i) (n - i)
    rw [Nat.mul_comm] at this
    omega
  have := h.perN hf (i + (a - i) % (n - i)) (by omega) ((a - i) / (n - i))
  rw [← hd] at this
  exact this
theorem RepAt.eq_iff (a b : Nat) (hab : a ≤ b) : g a = g b ↔ a = b ∨ (i ≤ a ∧ (n - i) ∣ (b - a)) := by
  have hlt := h.lt
  have hpos : 0 < n - i := by omega
  have inj : ∀ x y, x < n → y < n → g x = g y → x = y := by
    intro x y hx hy e
    rcases Nat.lt_trichotomy x y with c | c | c
    · exact absurd e (h.apart x y c hy)
    · exact c
    · exact absurd e.symm (h.apart y x c hx)
  have hm : ∀ z, i + z % (n - i) < n := fun z => by have := Nat.mod_lt z hpos; omega
  constructor
  · intro e
    by_cases ha : i ≤ a
    · rw [h.rest hf a ha, h.rest hf b (by omega)] at e
      have e2 := inj _ _ (hm _) (hm _) e
      have e3 : (a - i) % (n - i) = (b - i) % (n - i) := by omega
      refine .inr ⟨ha, ?_⟩
      have e4 : (b - i) = (a - i) + (b - a) := by omega
      have h1 := Nat.sub_mod_eq_zero_of_mod_eq e3.symm
      rw [show b - i - (a - i) = b - a by omega] at h1
      exact Nat.dvd_of_mod_eq_zero h1
    · by_cases hb : i ≤ b
      · rw [h.rest hf b hb] at e
        have := inj a _ (by omega) (hm _) e
        omega
      · exact .inl (inj a b (by omega) (by omega) e)
  · rintro (rfl | ⟨ha, k, hk⟩)
    · rfl
    · have := h.perN hf a ha k
      rw [Nat.mul_comm, ← hk, show a + (b - a) = b by omega] at this
      exact this.symm
/-- Where both meet first. -/
theorem RepAt.meet : ∃ K, 1 ≤ K ∧ g K = g (2 * K) ∧ (∀ k, 1 ≤ k → k < K → g k ≠ g (2 * k)) ∧ (∀ b, g b = g (K + b) ↔ i ≤ b) := by
  have hlt := h.lt
  have hpos : 0 < n - i := by omega
  have hex : ∃ K, 1 ≤ K ∧ g K = g (2 * K) := by
    refine ⟨(i + 1) * (n - i), Nat.mul_pos (by omega) hpos, (h.eq_iff hf _ _ (by omega)).2 (.inr ⟨?_, ?_⟩)⟩
    · have : i + 1 ≤ (i + 1) * (n - i) := Nat.le_mul_of_pos_right _ hpos
      omega
    · rw [show 2 * ((i + 1) * (n - i)) - (i + 1) * (n - i) = (i + 1) * (n - i) by omega]
      exact Nat.dvd_mul_left _ _
  -- the least one
  have key : ∀ m, (∃ K, K < m ∧ 1 ≤ K ∧ g K = g (2 * K) ∧ ∀ k, 1 ≤ k → k < K → g k ≠ g (2 * k)) ∨ ∀ k, 1 ≤ k → k < m → g k ≠ g (2 * k) := by
    intro m
    induction m with
    | zero => exact .inr fun k _ hk => absurd hk (by omega)
    | succ m ih =>
      rcases ih with ⟨K, h1, h2, h3, h4⟩ | h1
      · exact .inl ⟨K, by omega, h2, h3, h4⟩
      · by_cases c : 1 ≤ m ∧ g m = g (2 * m)
        · exact .inl ⟨m, by omega, c.1, c.2, h1⟩
        · refine .inr fun k hk1 hk2 e => ?_
          by_cases hkm : k = m
          · subst hkm; exact c ⟨hk1, e⟩
          · exact h1 k hk1 (by omega) e
  obtain ⟨K0, a1, a2⟩ := hex
  rcases key (K0 + 1) with ⟨K, _, h2, h3, h4⟩ | h1
  · refine ⟨K, h2, h3, h4, fun b => ?_⟩
    rcases (h.eq_iff hf K (2 * K) (by omega)).1 h3 with c | ⟨c1, c2⟩
    · omega
    · rw [show 2 * K - K = K by omega] at c2
      rw [h.eq_iff hf b (K + b) (by omega), show K + b - b = K by omega]
      constructor
      · rintro (c | c)
        · omega
        · exact c.1
      · exact fun hb => .inr ⟨hb, c2⟩
  · exact absurd a2 (h1 K0 a1 (by omega))
/-- How long the loop is. -/
theorem RepAt.long (L : Nat) : g i = g (i + L) ↔ (n - i) ∣ L := by
  rw [h.eq_iff hf i (i + L) (by omega), show i + L - i = L by omega]
  constructor
  · rintro (c | c)
    · have : L = 0 := by omega
      subst this
      exact Nat.dvd_zero _
    · exact c.2
  · exact fun c => .inr ⟨Nat.le_refl _, c⟩
end
end FN

/-! Where it comes to rest. -/
namespace FN
open Go
theorem RepAt.zero {g : Nat → Int} {i n j : Nat} (hr : RepAt g i n) (hz : ∀ a, g a = 0 → g (a + 1) = 0) (hj : g j = 0) (hjn : j ≤ n) (hb : ∀ m, m < j → g m ≠ 0) : i = j ∧ n = j + 1 := by
  have hlt := hr.lt
  have hne : j ≠ n := by
    rintro rfl
    exact hb i hlt (hr.eq.trans hj)
  have h1 := hz j hj
  have hn : n = j + 1 := by
    by_cases c : j + 1 < n
    · exact absurd (hj.trans h1.symm) (hr.apart j (j + 1) (by omega) c)
    · omega
  subst hn
  refine ⟨?_, rfl⟩
  by_cases c : i < j
  · exact absurd (hr.eq.trans h1) (hb i c)
  · omega
theorem endsG_val {num : List Int → Option Int} {step : List Int → Option (List Int)} {g : Nat → Int} {S : Nat → List Int} {i n : Nat} (hr : RepAt g i n) (hz : ∀ a, g a = 0 → g (a + 1) = 0) (hs : ∀ j, j < n → step (S j) = some (S (j + 1))) (hn : ∀ j, j ≤ n → num (S j) = some (g j)) (hb : ∀ j, 0 ≤ g j ∧ g j ≤ 4611686018427387904) (f : Nat) (hf : n < f) :
    endsG num step f [] (S 0) = some (if g i = 0 then (i : Int) else -1) := by
  have hlt := hr.lt
  have key : ∀ d j, n - j = d → j ≤ n → (∀ m, m < j → g m ≠ 0) → ∀ f, d < f → endsG num step f ((List.range j).map g) (S j) = some (if g i = 0 then (i : Int) else -1) := by
    intro d
    induction d with
    | zero =>
      intro j hd hj hm f hf
      have hjn : j = n := by omega
      subst hjn
      cases f with
      | zero => omega
      | succ f =>
        unfold endsG
        rw [hn j (Nat.le_refl j), Option.bind_some, if_pos (hb j)]
        have h0 : g j ≠ 0 := fun e => by
          have := (hr.zero hz e (Nat.le_refl _) hm).2
          omega
        have hmem : g j ∈ (List.range j).map g := List.mem_map.2 ⟨i, List.mem_range.2 hlt, hr.eq⟩
        rw [if_neg h0, if_pos hmem, if_neg (fun e => h0 (hr.eq ▸ e))]
    | succ d ih =>
      intro j hd hj hm f hf
      have hjn : j < n := by omega
      cases f with
      | zero => omega
      | succ f =>
        unfold endsG
        rw [hn j hj, Option.bind_some, if_pos (hb j)]
        by_cases h0 : g j = 0
        · obtain ⟨e1, e2⟩ := hr.zero hz h0 hj hm
          rw [if_pos h0, e1, if_pos h0]
          simp
        · have hmem : g j ∉ (List.range j).map g := fun hx => by
            obtain ⟨k, hk, e⟩ := List.mem_map.1 hx
            exact hr.apart k j (List.mem_range.1 hk) hjn e
          rw [if_neg h0, if_neg hmem, hs j hjn, Option.bind_some]
          have := ih (j + 1) (by omega) (by omega) (fun m hm' => by
            by_cases e : m = j
            · rw [e]; exact h0
            · exact hm m (by omega)) f (by omega)
          rw [List.range_succ, List.map_append] at this
          exact this
  have := key (n - 0) 0 rfl (by omega) (fun m hm => by omega) f (by omega)
  simpa using this
end FN

/-! LoopOf and EndsAt: the program's and the reference's alike. -/
namespace FN
open Go
theorem same_val {u v : List Int} (h : u.length = v.length) (h6 : u.length ≤ 1000) : s_l3Same_f (u, v) = some (decide (u = v)) := by
  apply Tells.val
  rw [s_l3Same_f_eq]
  have main : ∀ i, i ≤ u.length → Tells (s_l3Same_l0 u v (i : Int)) (∀ k, i ≤ k → k < u.length → u.getD k 0 = v.getD k 0) := by
    refine advN ?_ fun i hi ih => ?_
    · refine Tells.eq ?_ (Tells.yes fun k h1 h2 => by omega)
      rw [s_l3Same_l0_eq, cnd_f (by omega)]
    · rw [s_l3Same_l0_eq, cnd_t (by omega), if_pos (inN hi), if_pos (by rw [← h]; exact inN hi), gN, gN, w1 hi (by omega)]
      by_cases c : u.getD i 0 = v.getD i 0
      · rw [bne_f c]
        refine ih.iff ⟨fun hh k h1 h2 => ?_, fun hh k h1 h2 => hh k (by omega) h2⟩
        by_cases e : k = i
        · rw [e]; exact c
        · exact hh k (by omega) h2
      · rw [bne_t c]
        exact Tells.no fun hh => c (hh i (Nat.le_refl i) hi)
  exact (main 0 (by omega)).iff ⟨fun hh => ext_get h fun k hk => hh k (by omega) hk, fun e k _ _ => by rw [e]⟩
theorem numV_zero {k : Int} (hk : 0 < k) : ∀ {l : List Int}, (∀ x ∈ l, 0 ≤ x ∧ x < k) → (numV k l = 0 ↔ ∀ j, j < l.length → l.getD j 0 = 0)
  | [], _ => ⟨fun _ j hj => by simp at hj, fun _ => rfl⟩
  | x :: l, h => by
    have hx := h x (by simp)
    have hl : ∀ y ∈ l, 0 ≤ y ∧ y < k := fun y hy => h y (by simp [hy])
    have h0 := (numV_bound hk hl).1
    have hm : 0 ≤ numV k l * k := Int.mul_nonneg h0 (by omega)
    rw [numV_cons]
    constructor
    · intro e
      have e1 : x = 0 := by omega
      have e2 : numV k l = 0 := by
        have : numV k l * k = 0 := by omega
        rcases Int.mul_eq_zero.1 this with c | c
        · exact c
        · omega
      have := (numV_zero hk hl).1 e2
      intro j hj
      cases j with
      | zero => simpa using e1
      | succ j => simpa using this j (by simpa using hj)
    · intro hz
      have e1 : x = 0 := by simpa using hz 0 (by simp)
      have e2 := (numV_zero hk hl).2 fun j hj => by simpa using hz (j + 1) (by simpa using hj)
      rw [e1, e2]
      omega
section
variable {a : List Int} {k : Int} {b : List Int} (h : PlP a k b)
include h
theorem st_len (j : Nat) : (stN a k b j).length = b.length := (stN_ok h j).2
theorem st_eq (i j : Nat) : stN a k b i = stN a k b j ↔ gN_ a k b i = gN_ a k b j :=
  ⟨fun e => by unfold gN_; rw [e], fun e => numV_inj (by rw [st_len h, st_len h]) (stN_ok h i).1.2.1.mem (stN_ok h j).1.2.1.mem e⟩
theorem st_step (j : Nat) : s_l3Step_f (a, k, stN a k b j) = some (stN a k b (j + 1)) := s_step (stN_ok h j).1
theorem st_same (i j : Nat) : s_l3Same_f (stN a k b i, stN a k b j) = some (decide (gN_ a k b i = gN_ a k b j)) := by
  have hl := h.2.1.2.2.2.2
  rw [same_val (by rw [st_len h, st_len h]) (by rw [st_len h]; omega)]
  congr 1
  rw [Bool.eq_iff_iff, decide_eq_true_eq, decide_eq_true_eq]
  exact st_eq h i j
theorem g_zero (j : Nat) (e : gN_ a k b j = 0) : gN_ a k b (j + 1) = 0 := by
  have hp := (stN_ok h j).1
  have hp' := (stN_ok h (j + 1)).1
  have hk := h.2.1.2.1
  have hz := (numV_zero (by omega) hp.2.1.mem).1 e
  refine (numV_zero (by omega) hp'.2.1.mem).2 fun i hi => ?_
  have hl : i < (stN a k b j).length := by rw [st_len h] at hi ⊢; exact hi
  show (stepV a k (stN a k b j)).getD i 0 = 0
  rw [stepV_get hp hl]
  unfold stepAt
  have hi0 := hz i hl
  rw [if_neg (by omega), if_neg]
  rintro ⟨m, m1, m2, m3⟩
  have := hz m m1
  omega
section
variable {i n : Nat} (hr : RepAt (gN_ a k b) i n)
include hr
theorem loop_far {K : Nat} (h1 : 1 ≤ K) (h2 : gN_ a k b K = gN_ a k b (2 * K)) (h3 : ∀ m, 1 ≤ m → m < K → gN_ a k b m ≠ gN_ a k b (2 * m)) : ∀ m, m ≤ K → 1 ≤ m → s_LoopOf_l0 a k b (stN a k b m) (stN a k b (2 * m)) = s_LoopOf_j1 a k b (stN a k b (2 * K)) := by
  refine advN ?_ fun m hm ih => ?_
  · intro _
    rw [s_LoopOf_l0_eq, st_same h, Option.bind_some, decide_eq_true h2, Bool.not_true, cond_false]
  · intro hm1
    rw [s_LoopOf_l0_eq, st_same h, Option.bind_some, decide_eq_false (h3 m hm1 hm), Bool.not_false, cond_true, st_step h, Option.bind_some, st_step h, Option.bind_some, st_step h, Option.bind_some]
    have := ih (by omega)
    rw [show 2 * (m + 1) = 2 * m + 1 + 1 by omega] at this
    exact this
theorem loop_long (hn : n ≤ 15625) (hni : n - i ≤ 15625) : ∀ L, L ≤ n - i → 1 ≤ L → s_LoopOf_l6 a k (stN a k b (i + L)) (i : Int) (L : Int) (stN a k b i) = some ((i : Int), ((n - i : Nat) : Int)) ∧ s_LoopOf_l7 a k (stN a k b i) (stN a k b (i + L)) (i : Int) (L : Int) = some ((i : Int), ((n - i : Nat) : Int)) := by
  have hlt := hr.lt
  have hd := hr.long (gN_next h)
  refine advN ?_ fun L hL ih => ?_
  · intro _
    have e : gN_ a k b i = gN_ a k b (i + (n - i)) := (hd (n - i)).2 (Nat.dvd_refl _)
    constructor
    · rw [s_LoopOf_l6_eq, st_same h, Option.bind_some, decide_eq_true e, Bool.not_true, cond_false]
    · rw [s_LoopOf_l7_eq, st_same h, Option.bind_some, decide_eq_true e, Bool.not_true, cond_false]
  · intro h1
    have e : ¬ gN_ a k b i = gN_ a k b (i + L) := fun e => by
      have := Nat.le_of_dvd (by omega) ((hd L).1 e)
      omega
    obtain ⟨i1, i2⟩ := ih (by omega)
    have hw : IntKind.i64.wrap ((L : Int) + 1) = ((L + 1 : Nat) : Int) := w1 (n := n - i) hL (by omega)
    constructor
    · rw [s_LoopOf_l6_eq, st_same h, Option.bind_some, decide_eq_false e, Bool.not_false, cond_true, st_step h, Option.bind_some, hw]
      exact i1
    · rw [s_LoopOf_l7_eq, st_same h, Option.bind_some, decide_eq_false e, Bool.not_false, cond_true, st_step h, Option.bind_some, hw]
      exact i2
theorem meet_iff {K : Nat} (h1 : 1 ≤ K) (h2 : gN_ a k b K = gN_ a k b (2 * K)) (m : Nat) : gN_ a k b m = gN_ a k b (2 * K + m) ↔ i ≤ m := by
  have hq := hr.eq_iff (gN_next h)
  rcases (hq K (2 * K) (by omega)).1 h2 with c | ⟨c1, c2⟩
  · omega
  · rw [show 2 * K - K = K by omega] at c2
    rw [hq m (2 * K + m) (by omega), show 2 * K + m - m = 2 * K by omega]
    constructor
    · rintro (c | c)
      · omega
      · exact c.1
    · exact fun hm => .inr ⟨hm, Nat.dvd_trans c2 (Nat.dvd_mul_left _ _)⟩
theorem loop_before (hn : n ≤ 15625) {K : Nat} (h1 : 1 ≤ K) (h2 : gN_ a k b K = gN_ a k b (2 * K)) : ∀ m, m ≤ i → 1 ≤ m → s_LoopOf_l3 a k (stN a k b m) (stN a k b (2 * K + m)) (m : Int) = some ((i : Int), ((n - i : Nat) : Int)) := by
  have hlt := hr.lt
  have hmi := meet_iff h hr h1 h2
  refine advN ?_ fun m hm ih => ?_
  · intro hi
    rw [s_LoopOf_l3_eq, st_same h, Option.bind_some, decide_eq_true ((hmi i).2 (Nat.le_refl _)), Bool.not_true, cond_false, s_LoopOf_j5_eq, st_step h, Option.bind_some]
    exact (loop_long h hr hn (by omega) 1 (by omega) (Nat.le_refl _)).2
  · intro hm1
    rw [s_LoopOf_l3_eq, st_same h, Option.bind_some, decide_eq_false (fun e => by have := (hmi m).1 e; omega), Bool.not_false, cond_true, st_step h, Option.bind_some, st_step h, Option.bind_some, w1 hm (by omega)]
    exact ih (by omega)
theorem sloop_val (hn : n ≤ 15625) : s_LoopOf_f (a, k, b) = some ((i : Int), (n : Int) - (i : Int)) := by
  have hm := PlP.sm h
  have hlt := hr.lt
  obtain ⟨K, k1, k2, k3, _⟩ := hr.meet (gN_next h)
  have hmi := meet_iff h hr k1 k2
  have e0 : stN a k b 0 = b := rfl
  have st0 := st_step h 0
  rw [e0] at st0
  have hni : ((n - i : Nat) : Int) = (n : Int) - (i : Int) := by omega
  rw [s_LoopOf_f_eq, sl3 a k b (by omega), Option.bind_some, decide_eq_true h, Bool.not_true, cond_false, st0, Option.bind_some, st_step h, Option.bind_some]
  refine (loop_far h hr k1 k2 k3 1 k1 (Nat.le_refl _)).trans ?_
  rw [s_LoopOf_j1_eq, if_pos (by simp; omega), List.nil_append, s_LoopOf_l2_eq]
  have hs := st_same h 0 (2 * K)
  rw [e0] at hs
  rw [hs, Option.bind_some]
  by_cases c : i = 0
  · subst c
    have := (hmi 0).2 (Nat.le_refl _)
    rw [Nat.add_zero] at this
    rw [decide_eq_true this, Bool.not_true, cond_false, s_LoopOf_j4_eq, st0, Option.bind_some, ← hni]
    exact (loop_long h hr hn (by omega) 1 (by omega) (Nat.le_refl _)).1
  · rw [decide_eq_false (fun e => by have := (hmi 0).1 e; omega), Bool.not_false, cond_true, st0, Option.bind_some, st_step h, Option.bind_some, i64w (by omega) (by omega), ← hni]
    exact loop_before h hr hn k1 k2 1 (by omega) (Nat.le_refl _)
end
theorem ends_look (y : Int) {s : List Int} (hs : s.length ≤ 1000) : s_EndsAt_l4 y 0 s = some (if ∀ j, j < s.length → s.getD j 0 = 0 then y else -1) ∧ s_EndsAt_l5 y s 0 = some (if ∀ j, j < s.length → s.getD j 0 = 0 then y else -1) := by
  have main : ∀ i, i ≤ s.length → (∀ j, j < i → s.getD j 0 = 0) → s_EndsAt_l4 y (i : Int) s = some (if ∀ j, j < s.length → s.getD j 0 = 0 then y else -1) ∧ s_EndsAt_l5 y s (i : Int) = some (if ∀ j, j < s.length → s.getD j 0 = 0 then y else -1) := by
    refine advN ?_ fun i hi ih => ?_
    · intro hz
      rw [if_pos hz, s_EndsAt_l4_eq, s_EndsAt_l5_eq, cnd_f (by omega), cnd_f (by omega)]
      exact ⟨rfl, rfl⟩
    · intro hz
      rw [s_EndsAt_l4_eq, s_EndsAt_l5_eq, cnd_t (by omega), cnd_t (by omega), if_pos (inN hi), if_pos (inN hi), gN, w1 hi (by omega)]
      by_cases c : s.getD i 0 = 0
      · rw [bne_f c, bne_f c]
        refine ih fun j hj => ?_
        by_cases e : j = i
        · rw [e]; exact c
        · exact hz j (by omega)
      · rw [bne_t c, bne_t c, if_neg (fun hh => c (hh i hi))]
        exact ⟨rfl, rfl⟩
  exact main 0 (by omega) fun j hj => by omega
theorem ends_walk {i : Nat} (hi : i ≤ 15625) : ∀ m, m ≤ i → 1 ≤ m → s_EndsAt_l1 a k (i : Int) (stN a k b m) (m : Int) = s_EndsAt_j3 (i : Int) (stN a k b i) := by
  refine advN ?_ fun m hm ih => ?_
  · intro _
    rw [s_EndsAt_l1_eq, cnd_f (by omega)]
  · intro h1
    rw [s_EndsAt_l1_eq, cnd_t (by omega), st_step h, Option.bind_some, w1 hm (by omega)]
    exact ih (by omega)
/-- Both: where it comes to a loop, and to rest. -/
theorem loop_both : ∃ i n : Nat, n ≤ 15625 ∧ i < n ∧ i_LoopOf_f (a, k, b) = some ((i : Int), (n : Int) - (i : Int)) ∧ s_LoopOf_f (a, k, b) = some ((i : Int), (n : Int) - (i : Int)) := by
  obtain ⟨i, n, hn, hr, e⟩ := loop_val h
  exact ⟨i, n, hn, hr.lt, e, sloop_val h hr hn⟩
theorem ends_both : ∃ r : Int, -1 ≤ r ∧ r ≤ 15625 ∧ i_EndsAt_f (a, k, b) = some r ∧ s_EndsAt_f (a, k, b) = some r := by
  obtain ⟨i, n, hn, hr⟩ := gN_rep h
  have hlt := hr.lt
  have hm := PlP.sm h
  have hk := h.2.1.2.1
  have e0 : stN a k b 0 = b := rfl
  refine ⟨if gN_ a k b i = 0 then (i : Int) else -1, by split <;> omega, by split <;> omega, ?_, ?_⟩
  · rw [i_EndsAt_f_eq, iasked a k b (by omega), Option.bind_some, decide_eq_true h, cond_true]
    have key := fun f hf => endsG_val (num := fun s => i_NumberOf_f (k, s)) (step := fun s => i_needStep_f (a, k, (), s)) (g := gN_ a k b) (S := stN a k b) hr (g_zero h) (fun j _ => i_step (stN_ok h j).1) (fun j _ => numOf_val (stN_ok h j).1.2.1) (fun j => by
      have := (stN_ok h j).1.2.1.num
      exact ⟨this.1, by have := this.2; show numV k (stN a k b j) ≤ _; omega⟩) f hf
    rw [e0] at key
    have hf : n < 20000 := by omega
    generalize (20000 : Nat) = f at hf ⊢
    exact key f hf
  · have hzz : (∀ j, j < (stN a k b i).length → (stN a k b i).getD j 0 = 0) ↔ gN_ a k b i = 0 := (numV_zero (by omega) (stN_ok h i).1.2.1.mem).symm
    rw [s_EndsAt_f_eq, sloop_val h hr hn, Option.bind_some, cnd_f (show ¬ (i : Int) < 0 by omega)]
    by_cases c : 1 < (n : Int) - (i : Int)
    · rw [cnd_t c, if_neg]
      intro hz
      have := g_zero h i hz
      exact hr.apart i (i + 1) (by omega) (by omega) (hz.trans this.symm)
    · rw [cnd_f c, if_pos (by simp; omega), List.nil_append, s_EndsAt_l0_eq]
      by_cases ci : i = 0
      · subst ci
        rw [cnd_f (by omega), s_EndsAt_j2_eq]
        have := (ends_look h ((0 : Nat) : Int) (s := stN a k b 0) (by rw [st_len h]; omega)).1
        simp only [hzz] at this
        exact this
      · have st0 := st_step h 0
        rw [e0] at st0
        rw [cnd_t (by omega), st0, Option.bind_some, i64w (by omega) (by omega)]
        refine (ends_walk h (by omega) 1 (by omega) (Nat.le_refl _)).trans ?_
        rw [s_EndsAt_j3_eq]
        have := (ends_look h (i : Int) (s := stN a k b i) (by rw [st_len h]; omega)).2
        simp only [hzz] at this
        exact this
end
end FN

/-! How often they fire, and turn: the program's and the reference's alike. -/
namespace FN
open Go
/-- The first i, where told, one more. -/
def bump (P : Nat → Bool) (i : Nat) (y : List Int) : List Int := (List.range y.length).map fun k => if k < i ∧ P k = true then y.getD k 0 + 1 else y.getD k 0
theorem bump_len (P : Nat → Bool) (i : Nat) (y : List Int) : (bump P i y).length = y.length := by simp [bump]
theorem bump_get (P : Nat → Bool) (i : Nat) (y : List Int) (k : Nat) : (bump P i y).getD k 0 = if k < y.length then (if k < i ∧ P k = true then y.getD k 0 + 1 else y.getD k 0) else 0 := by
  unfold bump
  rw [List.getD_eq_getElem?_getD, List.getElem?_map]
  by_cases h : k < y.length
  · rw [if_pos h, List.getElem?_range h]; rfl
  · rw [if_neg h, List.getElem?_eq_none (by simp; omega)]; rfl
theorem bump_zero (P : Nat → Bool) (y : List Int) : bump P 0 y = y := ext_get (bump_len P 0 y) fun k hk => by
  rw [bump_len] at hk
  rw [bump_get, if_pos hk, if_neg (by omega)]
theorem bump_at (P : Nat → Bool) {i : Nat} {y : List Int} (hi : i < y.length) : (bump P i y).getD i 0 = y.getD i 0 := by
  rw [bump_get, if_pos hi, if_neg (by omega)]
theorem bump_t {P : Nat → Bool} {i : Nat} {y : List Int} (hi : i < y.length) (h : P i = true) : (bump P i y).set i (y.getD i 0 + 1) = bump P (i + 1) y := ext_get (by simp [bump_len]) fun k hk => by
  have hk' : k < y.length := by simpa [bump_len] using hk
  rw [get_set, bump_get, bump_get, if_pos hk', if_pos hk', bump_len]
  by_cases e : k = i
  · subst e; rw [if_pos ⟨rfl, hi⟩, if_pos ⟨by omega, h⟩]
  · rw [if_neg (by omega)]
    have : k < i ↔ k < i + 1 := by omega
    simp only [this]
theorem bump_f {P : Nat → Bool} {i : Nat} {y : List Int} (h : P i = false) : bump P i y = bump P (i + 1) y := ext_get (by simp [bump_len]) fun k hk => by
  have hk' : k < y.length := by simpa [bump_len] using hk
  rw [bump_get, bump_get, if_pos hk', if_pos hk']
  by_cases e : k = i
  · subst e; rw [if_neg (by omega), if_neg (by simp [h])]
  · have : k < i ↔ k < i + 1 := by omega
    simp only [this]
theorem bump_rng {P : Nat → Bool} {i : Nat} {y : List Int} {t : Nat} (h : ∀ k, k < y.length → 0 ≤ y.getD k 0 ∧ y.getD k 0 ≤ (t : Int)) : ∀ k, k < (bump P i y).length → 0 ≤ (bump P i y).getD k 0 ∧ (bump P i y).getD k 0 ≤ ((t + 1 : Nat) : Int) := fun k hk => by
  rw [bump_len] at hk
  have := h k hk
  rw [bump_get, if_pos hk]
  split <;> omega
section
variable {a : List Int} {k : Int} {b : List Int} (h : PlP a k b)
include h
theorem one_new {t i : Nat} (hi : i < b.length) (e : (stN a k b (t + 1)).getD i 0 = 1) : (stN a k b t).getD i 0 ≠ 1 := by
  have hp := (stN_ok h t).1
  have hl := st_len h t
  have hk := h.2.1.2.1
  intro e1
  have e2 : (stepV a k (stN a k b t)).getD i 0 = 1 := e
  rw [stepV_get hp (by omega)] at e2
  unfold stepAt at e2
  rw [if_pos (by omega), e1, Int.tmod_eq_emod_of_nonneg (by omega)] at e2
  rw [Int.emod_eq_of_lt (by omega) (by omega)] at e2
  omega
noncomputable abbrev P1 (a : List Int) (k : Int) (b : List Int) (t : Nat) : Nat → Bool := fun i => (stN a k b (t + 1)).getD i 0 == 1
theorem i_fire_in {t T : Nat} {y : List Int} (ht : t < T) (hT : T ≤ 60) (hy : y.length = b.length) (hr : ∀ j, j < y.length → 0 ≤ y.getD j 0 ∧ y.getD j 0 ≤ (t : Int)) : ∀ i, i ≤ b.length → i_scripted_l3 a k (T : Int) (t : Int) (b.length : Int) (i : Int) (stN a k b t) (bump (P1 a k b t) i y) (stN a k b (t + 1)) = i_scripted_l0 a k (T : Int) ((t + 1 : Nat) : Int) (stN a k b (t + 1)) (bump (P1 a k b t) b.length y) := by
  have hm := PlP.sm h
  have l0 := st_len h t
  have l1 := st_len h (t + 1)
  refine advN ?_ fun i hi ih => ?_
  · rw [i_scripted_l3_eq, cnd_f (by omega), w1 ht (by omega)]
  · have hyi := hr i (by omega)
    rw [i_scripted_l3_eq, cnd_t (by omega), if_pos (by rw [l1]; exact inN hi), gN, gN, gN, Int.toNat_natCast, w1 hi (by omega)]
    by_cases c : (stN a k b (t + 1)).getD i 0 = 1
    · have hP : P1 a k b t i = true := beq_iff_eq.2 c
      rw [beq_t c, if_pos (by rw [l0]; exact inN hi), bne_t (one_new h hi c), if_pos (by rw [bump_len, hy]; exact inN hi), if_pos (by rw [bump_len, hy]; exact inN hi), bump_at _ (by omega), i64w (by omega) (by omega), bump_t (by omega) hP]
      exact ih
    · have hP : P1 a k b t i = false := beq_false_of_ne c
      rw [beq_f c, bump_f hP]
      exact ih
theorem s_fire_in {t T : Nat} {y : List Int} (ht : t < T) (hT : T ≤ 60) (hy : y.length = b.length) (hr : ∀ j, j < y.length → 0 ≤ y.getD j 0 ∧ y.getD j 0 ≤ (t : Int)) : ∀ i, i ≤ b.length → s_FiredRow_l1 a k (T : Int) (stN a k b (t + 1)) (t : Int) (i : Int) (bump (P1 a k b t) i y) = s_FiredRow_l2 a k (T : Int) (stN a k b (t + 1)) ((t + 1 : Nat) : Int) (bump (P1 a k b t) b.length y) := by
  have hm := PlP.sm h
  have l1 := st_len h (t + 1)
  refine advN ?_ fun i hi ih => ?_
  · rw [s_FiredRow_l1_eq, l1, cnd_f (by omega), w1 ht (by omega)]
  · have hyi := hr i (by omega)
    rw [s_FiredRow_l1_eq, l1, cnd_t (by omega), if_pos (inN hi), gN, gN, Int.toNat_natCast, w1 hi (by omega)]
    by_cases c : (stN a k b (t + 1)).getD i 0 = 1
    · have hP : P1 a k b t i = true := beq_iff_eq.2 c
      rw [beq_t c, if_pos (by rw [bump_len, hy]; exact inN hi), if_pos (by rw [bump_len, hy]; exact inN hi), bump_at _ (by omega), i64w (by omega) (by omega), bump_t (by omega) hP]
      exact ih
    · have hP : P1 a k b t i = false := beq_false_of_ne c
      rw [beq_f c, bump_f hP]
      exact ih
theorem fire_loop {T : Nat} (hT : T ≤ 60) : ∀ t, t ≤ T → ∀ y : List Int, y.length = b.length → (∀ j, j < y.length → 0 ≤ y.getD j 0 ∧ y.getD j 0 ≤ (t : Int)) → ∃ r, i_scripted_l0 a k (T : Int) (t : Int) (stN a k b t) y = some (stN a k b T, r) ∧ s_FiredRow_l0 a k (T : Int) (t : Int) y (stN a k b t) = some r ∧ s_FiredRow_l2 a k (T : Int) (stN a k b t) (t : Int) y = some r ∧ r.length = b.length ∧ ∀ j, j < r.length → 0 ≤ r.getD j 0 ∧ r.getD j 0 ≤ 60 := by
  have hm := PlP.sm h
  refine advN ?_ fun t ht ih => ?_
  · intro y hy hr
    exact ⟨y, by rw [i_scripted_l0_eq, cnd_f (by omega)], by rw [s_FiredRow_l0_eq, cnd_f (by omega)], by rw [s_FiredRow_l2_eq, cnd_f (by omega)], hy, fun j hj => by have := hr j hj; omega⟩
  · intro y hy hr
    obtain ⟨r, e1, e2, e3, e4, e5⟩ := ih (bump (P1 a k b t) b.length y) (by rw [bump_len, hy]) (bump_rng hr)
    have b0 : bump (P1 a k b t) 0 y = y := bump_zero _ y
    have i1 := i_fire_in h ht hT hy hr 0 (by omega)
    have s1 := s_fire_in h ht hT hy hr 0 (by omega)
    rw [b0] at i1 s1
    refine ⟨r, ?_, ?_, ?_, e4, e5⟩
    · rw [i_scripted_l0_eq, cnd_t (by omega), i_scripted_l1_eq, cnd_f (by omega), i_scripted_j2_eq, i_step (stN_ok h t).1, Option.bind_some, stepV_len, st_len h]
      exact i1.trans e1
    · rw [s_FiredRow_l0_eq, cnd_t (by omega), st_step h, Option.bind_some]
      exact s1.trans e3
    · rw [s_FiredRow_l2_eq, cnd_t (by omega), st_step h, Option.bind_some]
      exact s1.trans e3
omit h in
theorem cloneL_val {l : List Int} (h1 : l.length ≠ 0) (h2 : l.length ≤ 1000) : x_slices_Clone_int_int_f l = some l := by
  rw [x_slices_Clone_int_int_f_eq, if_pos ⟨rfl, h1⟩, if_pos (by simp; omega), List.nil_append]
theorem fired_val {n : Int} (h0 : 0 ≤ n) : ∃ r, i_FiredRow_f (a, k, b, n) = some r ∧ s_FiredRow_f (a, k, b, n) = some r ∧ r.length ≤ 6 ∧ ∀ j, j < r.length → 0 ≤ r.getD j 0 ∧ r.getD j 0 ≤ 60 := by
  have hm := PlP.sm h
  have ha := h.1.lo
  have hab := h.2.2
  have hs : i_ScriptOk_f ((a.length : Int), ()) = some true := by
    rw [i_ScriptOk_f_eq, i_ScriptOk_l0_eq, cnd_f (by omega), i_ScriptOk_j1_eq, cnd_t (by omega), cnd_t (by omega)]
  rw [i_FiredRow_f_eq, i_ScriptFired_f_eq, iasked a k b (by omega), Option.bind_some, decide_eq_true h, Bool.not_true, cond_false, hs, Option.bind_some, Bool.not_true, cond_false, cnd_f (show ¬ n < 0 by omega), s_FiredRow_f_eq, sl3 a k b (by omega), Option.bind_some, decide_eq_true h, Bool.not_true, cond_false, l1In_val, Option.bind_some]
  by_cases c : n ≤ 60
  · obtain ⟨T, rfl⟩ : ∃ T : Nat, n = T := ⟨n.toNat, by omega⟩
    obtain ⟨r, e1, e2, _, e4, e5⟩ := fire_loop h (T := T) (by omega) 0 (by omega) (List.replicate a.length 0) (by simp [hab]) (fun j hj => by
      rw [getD_rep]; split <;> omega)
    have e0 : stN a k b 0 = b := rfl
    rw [e0] at e1 e2
    refine ⟨r, ?_, ?_, by omega, e5⟩
    · rw [cnd_f (show ¬ (60 : Int) < (T : Int) by omega), i_scripted_f_eq, cloneL_val (by omega) (by omega), Option.bind_some, if_pos ⟨by omega, by omega, by omega⟩, Int.toNat_natCast]
      rw [show i_scripted_l0 a k (T : Int) 0 b (List.replicate a.length 0) = some (stN a k b T, r) from e1]
      rfl
    · rw [decide_eq_true (show 0 ≤ (T : Int) ∧ (T : Int) ≤ 60 by omega), Bool.not_true, cond_false, if_pos ⟨by omega, by omega, by omega⟩, if_pos (by simp; omega), Int.toNat_natCast, List.nil_append]
      exact e2
  · exact ⟨[], by rw [cnd_t (by omega)]; rfl, by rw [decide_eq_false (by omega), Bool.not_false, cond_true], by simp, fun j hj => by simp at hj⟩
end
end FN

/-! Turns. -/
namespace FN
open Go
/-- A neighbour has the next kind. -/
def nxtK (b : List Int) (i : Nat) : Int := Int.tmod (b.getD i 0 + 1) 3
def turns (a b : List Int) (i j : Nat) : Prop := ∃ m, j ≤ m ∧ m < b.length ∧ adj a i m ∧ b.getD m 0 = nxtK b i
open Classical in
noncomputable def turnAt (a b : List Int) (i : Nat) : Int := if turns a b i 0 then nxtK b i else b.getD i 0
noncomputable def turnV (a b : List Int) : List Int := (List.range b.length).map (turnAt a b)
theorem turnV_len (a b : List Int) : (turnV a b).length = b.length := by simp [turnV]
theorem turnV_get (a b : List Int) {i : Nat} (hi : i < b.length) : (turnV a b).getD i 0 = turnAt a b i := by
  unfold turnV
  rw [List.getD_eq_getElem?_getD, List.getElem?_map, List.getElem?_range hi]; rfl
theorem turnV_take (a b : List Int) {i : Nat} (h : i < b.length) : (turnV a b).take (i + 1) = (turnV a b).take i ++ [turnAt a b i] := by
  rw [List.take_succ_eq_append_getElem (by rw [turnV_len]; exact h)]
  simp [turnV]
theorem turns_step {a b : List Int} {i j : Nat} (hj : j < b.length) : turns a b i j ↔ (adj a i j ∧ b.getD j 0 = nxtK b i) ∨ turns a b i (j + 1) := by
  constructor
  · rintro ⟨m, m1, m2, m3⟩
    by_cases e : m = j
    · subst e; exact .inl m3
    · exact .inr ⟨m, by omega, m2, m3⟩
  · rintro (hh | ⟨m, m1, m2, m3⟩)
    · exact ⟨j, Nat.le_refl _, hj, hh⟩
    · exact ⟨m, by omega, m2, m3⟩
theorem turns_end {a b : List Int} {i : Nat} : ¬ turns a b i b.length := by
  rintro ⟨m, m1, m2, _⟩; omega
section
variable {a b : List Int} (h : PlP a 3 b)
include h
theorem nxtK_rng {i : Nat} (hi : i < b.length) : 0 ≤ nxtK b i ∧ nxtK b i < 3 := by
  have := h.2.1.1 i hi
  unfold nxtK
  exact ⟨Int.tmod_nonneg _ (by omega), Int.tmod_lt_of_pos _ (by omega)⟩
theorem turnV_ok : PlP a 3 (turnV a b) := by
  have hl := turnV_len a b
  refine ⟨h.1, ⟨fun i hi => ?_, h.2.1.2.1, h.2.1.2.2.1, by rw [hl]; exact h.2.1.2.2.2.1, by rw [hl]; exact h.2.1.2.2.2.2⟩, by rw [hl]; exact h.2.2⟩
  rw [hl] at hi
  rw [turnV_get a b hi]
  have hb := h.2.1.1 i hi
  have hn := nxtK_rng h hi
  unfold turnAt
  split <;> omega
open Classical in
theorem i_turn_in {i : Nat} (hi : i < b.length) : ∀ j, j ≤ b.length → ∀ w : List Int, w.length = b.length → i_turnStep_l1 a b (i : Int) (b.getD i 0) b (b.length : Int) (i : Int) b (b.length : Int) (j : Int) w = i_turnStep_l0 a b b (b.length : Int) ((i + 1 : Nat) : Int) (w.set i (if turns a b i j then nxtK b i else w.getD i 0)) := by
  have hm := PlP.sm h
  have he := h.2.2
  have hbi := h.2.1.1 i hi
  refine advN ?_ fun j hj ih => ?_
  · intro w hw
    have hs : w.set i (w.getD i 0) = w := ext_get (by simp) fun m hm' => by
      rw [get_set]
      split
      · rename_i hh; rw [hh.1]
      · rfl
    rw [i_turnStep_l1_eq, cnd_f (by omega), if_neg turns_end, hs, w1 hi (by omega)]
  · intro w hw
    have hx : Int.tmod (IntKind.i64.wrap (b.getD i 0 + 1)) 3 = nxtK b i := by rw [i64w (by omega) (by omega)]; rfl
    have hiw : i < w.length := by omega
    rw [i_turnStep_l1_eq, cnd_t (by omega), if_pos (inN hj), if_pos (inN (by omega)), if_neg (by omega), gN, gN, bit_and _ (by omega), hx, w1 hj (by omega)]
    by_cases c1 : adj a i j
    · rw [beq_t c1]
      by_cases c2 : b.getD j 0 = nxtK b i
      · rw [beq_t c2, if_pos (by rw [hw]; exact inN hi), c2, Int.toNat_natCast, ih _ (by simp [hw]), if_pos ((turns_step hj).2 (.inl ⟨c1, c2⟩))]
        have e : (w.set i (nxtK b i)).getD i 0 = nxtK b i := by rw [get_set, if_pos ⟨rfl, hiw⟩]
        have e2 : (if turns a b i (j + 1) then nxtK b i else nxtK b i) = nxtK b i := by split <;> rfl
        rw [e, e2, List.set_set]
      · rw [beq_f c2, ih w hw]
        have : turns a b i j ↔ turns a b i (j + 1) := (turns_step hj).trans ⟨fun hh => hh.resolve_left fun x => c2 x.2, .inr⟩
        simp only [this]
    · rw [beq_f c1, ih w hw]
      have : turns a b i j ↔ turns a b i (j + 1) := (turns_step hj).trans ⟨fun hh => hh.resolve_left fun x => c1 x.1, .inr⟩
      simp only [this]
theorem i_turn : i_turnStep_f (a, b) = some (turnV a b) := by
  have hm := PlP.sm h
  have hb1 := h.2.1.2.2.2.1
  have main : ∀ i, i ≤ b.length → ∀ w : List Int, w.length = b.length → (∀ m, m < b.length → w.getD m 0 = if m < i then turnAt a b m else b.getD m 0) → i_turnStep_l0 a b b (b.length : Int) (i : Int) w = some (turnV a b) := by
    refine advN ?_ fun i hi ih => ?_
    · intro w hw hg
      have : w = turnV a b := ext_get (by rw [hw, turnV_len]) fun m hm' => by rw [hg m (by omega), if_pos (by omega), turnV_get a b (by omega)]
      rw [i_turnStep_l0_eq, cnd_f (by omega), this]
    · intro w hw hg
      have hin := i_turn_in h hi 0 (by omega) w hw
      rw [i_turnStep_l0_eq, cnd_t (by omega), if_pos (inN hi), gN]
      refine hin.trans (ih _ (by simp [hw]) fun m hm' => ?_)
      rw [get_set]
      by_cases e : m = i
      · subst e
        rw [if_pos ⟨rfl, by omega⟩, hg m hm', if_neg (Nat.lt_irrefl m), if_pos (Nat.lt_succ_self m)]
        rfl
      · rw [if_neg (by omega), hg m hm']
        have : m < i ↔ m < i + 1 := by omega
        simp only [this]
  rw [i_turnStep_f_eq, cloneL_val (by omega) (by omega), Option.bind_some]
  exact main 0 (by omega) b rfl fun m hm' => by rw [if_neg (by omega)]
open Classical in
theorem s_turn_in {i : Nat} (hi : i < b.length) (y : List Int) (hy : y.length ≤ 100) : ∀ j, j ≤ b.length → ∀ n : Int, s_l5Step_l1 a b (i : Int) (nxtK b i) n (j : Int) y = s_l5Step_l0 a b ((i + 1 : Nat) : Int) (y ++ [if turns a b i j then nxtK b i else n]) := by
  have hm := PlP.sm h
  have he := h.2.2
  have hr := h.1.rng i (by omega)
  refine advN ?_ fun j hj ih => ?_
  · intro n
    rw [s_l5Step_l1_eq, cnd_f (by omega), if_neg turns_end, if_pos (by simp; omega), w1 hi (by omega)]
  · intro n
    rw [s_l5Step_l1_eq, cnd_t (by omega), if_pos (inN (by omega)), if_neg (by omega), gN, gN, bit_mod hr.1 (by omega), w1 hj (by omega)]
    by_cases c1 : adj a i j
    · rw [beq_t c1, if_pos (inN hj)]
      by_cases c2 : b.getD j 0 = nxtK b i
      · rw [beq_t c2, ih, if_pos ((turns_step hj).2 (.inl ⟨c1, c2⟩))]
        congr 3
        split <;> rfl
      · rw [beq_f c2, ih]
        have : turns a b i j ↔ turns a b i (j + 1) := (turns_step hj).trans ⟨fun hh => hh.resolve_left fun x => c2 x.2, .inr⟩
        simp only [this]
    · rw [beq_f c1, ih]
      have : turns a b i j ↔ turns a b i (j + 1) := (turns_step hj).trans ⟨fun hh => hh.resolve_left fun x => c1 x.1, .inr⟩
      simp only [this]
theorem s_turn : s_l5Step_f (a, b) = some (turnV a b) := by
  have hm := PlP.sm h
  have main : ∀ i, i ≤ b.length → s_l5Step_l0 a b (i : Int) ((turnV a b).take i) = some (turnV a b) := by
    refine advN ?_ fun i hi ih => ?_
    · rw [s_l5Step_l0_eq, cnd_f (by omega), ← turnV_len a b, List.take_length]
    · have hbi := h.2.1.1 i hi
      have hx : Int.tmod (IntKind.i64.wrap (b.getD i 0 + 1)) 3 = nxtK b i := by rw [i64w (by omega) (by omega)]; rfl
      have hin := s_turn_in h hi ((turnV a b).take i) (by rw [List.length_take, turnV_len]; omega) 0 (by omega) (b.getD i 0)
      rw [turnV_take a b hi] at ih
      rw [s_l5Step_l0_eq, cnd_t (by omega), if_pos (inN hi), if_pos (inN hi), gN, hx]
      exact hin.trans ih
  rw [s_l5Step_f_eq]
  exact main 0 (by omega)
omit h in
noncomputable def tN (a b : List Int) : Nat → List Int
  | 0 => b
  | n + 1 => turnV a (tN a b n)
theorem tN_ok : ∀ n, PlP a 3 (tN a b n) ∧ (tN a b n).length = b.length
  | 0 => ⟨h, rfl⟩
  | n + 1 => ⟨turnV_ok (tN_ok n).1, by rw [tN, turnV_len]; exact (tN_ok n).2⟩
omit h in
noncomputable abbrev P2 (a b : List Int) (t : Nat) : Nat → Bool := fun i => (tN a b (t + 1)).getD i 0 != (tN a b t).getD i 0
theorem i_turned_in {t T : Nat} {y : List Int} (ht : t < T) (hT : T ≤ 60) (hy : y.length = b.length) (hr : ∀ j, j < y.length → 0 ≤ y.getD j 0 ∧ y.getD j 0 ≤ (t : Int)) : ∀ i, i ≤ b.length → i_TurnedRow_l1 a (tN a b t) (tN a b (t + 1)) (T : Int) (t : Int) (b.length : Int) (i : Int) (bump (P2 a b t) i y) = i_TurnedRow_l2 a (tN a b (t + 1)) (T : Int) ((t + 1 : Nat) : Int) (bump (P2 a b t) b.length y) ∧ i_TurnedRow_l3 a (tN a b t) (tN a b (t + 1)) (T : Int) (t : Int) (b.length : Int) (i : Int) (bump (P2 a b t) i y) = i_TurnedRow_l2 a (tN a b (t + 1)) (T : Int) ((t + 1 : Nat) : Int) (bump (P2 a b t) b.length y) := by
  have hm := PlP.sm h
  have l0 := (tN_ok h t).2
  have l1 := (tN_ok h (t + 1)).2
  refine advN ?_ fun i hi ih => ?_
  · rw [i_TurnedRow_l1_eq, i_TurnedRow_l3_eq, cnd_f (by omega), cnd_f (by omega), w1 ht (by omega)]
    exact ⟨rfl, rfl⟩
  · have hyi := hr i (by omega)
    have in0 : (0 : Int) ≤ (i : Int) ∧ (i : Int) < ((tN a b t).length : Int) := by rw [l0]; exact inN hi
    have in1 : (0 : Int) ≤ (i : Int) ∧ (i : Int) < ((tN a b (t + 1)).length : Int) := by rw [l1]; exact inN hi
    have inb : (0 : Int) ≤ (i : Int) ∧ (i : Int) < ((bump (P2 a b t) i y).length : Int) := by rw [bump_len, hy]; exact inN hi
    rw [i_TurnedRow_l1_eq, i_TurnedRow_l3_eq, cnd_t (by omega), cnd_t (by omega), if_pos in1, if_pos in1, if_pos in0, if_pos in0, gN, gN, gN, Int.toNat_natCast, w1 hi (by omega), if_pos inb, bump_at _ (by omega), i64w (by omega) (by omega)]
    by_cases c : (tN a b (t + 1)).getD i 0 = (tN a b t).getD i 0
    · have hP : P2 a b t i = false := by show ((tN a b (t + 1)).getD i 0 != (tN a b t).getD i 0) = false; rw [c]; exact bne_self_eq_false _
      rw [bne_f c, bne_f c, bump_f hP]
      exact ih
    · have hP : P2 a b t i = true := bne_iff_ne.2 c
      rw [bne_t c, bne_t c, bump_t (by omega) hP, if_pos inb, if_pos inb, if_pos inb]
      exact ih
theorem s_turned_in {t T : Nat} {y : List Int} (ht : t < T) (hT : T ≤ 60) (hy : y.length = b.length) (hr : ∀ j, j < y.length → 0 ≤ y.getD j 0 ∧ y.getD j 0 ≤ (t : Int)) : ∀ i, i ≤ b.length → s_TurnedRow_l1 a (T : Int) (t : Int) (tN a b (t + 1)) (i : Int) (bump (P2 a b t) i y) (tN a b t) = s_TurnedRow_l2 a (T : Int) (tN a b (t + 1)) ((t + 1 : Nat) : Int) (bump (P2 a b t) b.length y) ∧ s_TurnedRow_l3 a (T : Int) (tN a b t) (t : Int) (tN a b (t + 1)) (i : Int) (bump (P2 a b t) i y) = s_TurnedRow_l2 a (T : Int) (tN a b (t + 1)) ((t + 1 : Nat) : Int) (bump (P2 a b t) b.length y) := by
  have hm := PlP.sm h
  have l0 := (tN_ok h t).2
  have l1 := (tN_ok h (t + 1)).2
  refine advN ?_ fun i hi ih => ?_
  · rw [s_TurnedRow_l1_eq, s_TurnedRow_l3_eq, l0, cnd_f (by omega), cnd_f (by omega), w1 ht (by omega)]
    exact ⟨rfl, rfl⟩
  · have hyi := hr i (by omega)
    have in1 : (0 : Int) ≤ (i : Int) ∧ (i : Int) < ((tN a b (t + 1)).length : Int) := by rw [l1]; exact inN hi
    have inb : (0 : Int) ≤ (i : Int) ∧ (i : Int) < ((bump (P2 a b t) i y).length : Int) := by rw [bump_len, hy]; exact inN hi
    rw [s_TurnedRow_l1_eq, s_TurnedRow_l3_eq, l0, cnd_t (by omega), cnd_t (by omega), if_pos in1, if_pos in1, if_pos (inN hi), if_pos (inN hi), gN, gN, gN, Int.toNat_natCast, w1 hi (by omega), if_pos inb, bump_at _ (by omega), i64w (by omega) (by omega)]
    by_cases c : (tN a b (t + 1)).getD i 0 = (tN a b t).getD i 0
    · have hP : P2 a b t i = false := by show ((tN a b (t + 1)).getD i 0 != (tN a b t).getD i 0) = false; rw [c]; exact bne_self_eq_false _
      rw [bne_f c, bne_f c, bump_f hP]
      exact ih
    · have hP : P2 a b t i = true := bne_iff_ne.2 c
      rw [bne_t c, bne_t c, bump_t (by omega) hP, if_pos inb, if_pos inb, if_pos inb]
      exact ih
theorem turned_loop {T : Nat} (hT : T ≤ 60) : ∀ t, t ≤ T → ∀ y : List Int, y.length = b.length → (∀ j, j < y.length → 0 ≤ y.getD j 0 ∧ y.getD j 0 ≤ (t : Int)) → ∃ r, i_TurnedRow_l0 a (tN a b t) (T : Int) (t : Int) y = some r ∧ i_TurnedRow_l2 a (tN a b t) (T : Int) (t : Int) y = some r ∧ s_TurnedRow_l0 a (T : Int) (t : Int) y (tN a b t) = some r ∧ s_TurnedRow_l2 a (T : Int) (tN a b t) (t : Int) y = some r ∧ r.length = b.length ∧ ∀ j, j < r.length → 0 ≤ r.getD j 0 ∧ r.getD j 0 ≤ 60 := by
  have hm := PlP.sm h
  refine advN ?_ fun t ht ih => ?_
  · intro y hy hr
    exact ⟨y, by rw [i_TurnedRow_l0_eq, cnd_f (by omega)], by rw [i_TurnedRow_l2_eq, cnd_f (by omega)], by rw [s_TurnedRow_l0_eq, cnd_f (by omega)], by rw [s_TurnedRow_l2_eq, cnd_f (by omega)], hy, fun j hj => by have := hr j hj; omega⟩
  · intro y hy hr
    obtain ⟨r, e1, e2, e3, e4, e5⟩ := ih (bump (P2 a b t) b.length y) (by rw [bump_len, hy]) (bump_rng hr)
    have b0 : bump (P2 a b t) 0 y = y := bump_zero _ y
    have i1 := i_turned_in h ht hT hy hr 0 (by omega)
    have s1 := s_turned_in h ht hT hy hr 0 (by omega)
    rw [b0] at i1 s1
    have it : i_turnStep_f (a, tN a b t) = some (tN a b (t + 1)) := i_turn (tN_ok h t).1
    have st : s_l5Step_f (a, tN a b t) = some (tN a b (t + 1)) := s_turn (tN_ok h t).1
    refine ⟨r, ?_, ?_, ?_, ?_, e5⟩
    · rw [i_TurnedRow_l0_eq, cnd_t (by omega), it, Option.bind_some, hy]
      exact i1.1.trans e2
    · rw [i_TurnedRow_l2_eq, cnd_t (by omega), it, Option.bind_some, hy]
      exact i1.2.trans e2
    · rw [s_TurnedRow_l0_eq, cnd_t (by omega), st, Option.bind_some]
      exact s1.1.trans e4
    · rw [s_TurnedRow_l2_eq, cnd_t (by omega), st, Option.bind_some]
      exact s1.2.trans e4
theorem turned_val {n : Int} (h0 : 0 ≤ n) : ∃ r, i_TurnedRow_f (a, b, n) = some r ∧ s_TurnedRow_f (a, b, n) = some r ∧ r.length ≤ 6 ∧ ∀ j, j < r.length → 0 ≤ r.getD j 0 ∧ r.getD j 0 ≤ 60 := by
  have hm := PlP.sm h
  have ha := h.1.lo
  have hab := h.2.2
  rw [i_TurnedRow_f_eq, iasked a 3 b (by omega), Option.bind_some, decide_eq_true h, Bool.not_true, cond_false, cnd_f (show ¬ n < 0 by omega), s_TurnedRow_f_eq, sl3 a 3 b (by omega), Option.bind_some, decide_eq_true h, Bool.not_true, cond_false, l1In_val, Option.bind_some]
  by_cases c : n ≤ 60
  · obtain ⟨T, rfl⟩ : ∃ T : Nat, n = T := ⟨n.toNat, by omega⟩
    obtain ⟨r, e1, _, e2, _, e4, e5⟩ := turned_loop h (T := T) (by omega) 0 (by omega) (List.replicate a.length 0) (by simp [hab]) (fun j hj => by
      rw [getD_rep]; split <;> omega)
    refine ⟨r, ?_, ?_, by omega, e5⟩
    · rw [cnd_f (show ¬ (60 : Int) < (T : Int) by omega), if_pos ⟨by omega, by omega, by omega⟩, Int.toNat_natCast]
      exact e1
    · rw [decide_eq_true (show 0 ≤ (T : Int) ∧ (T : Int) ≤ 60 by omega), Bool.not_true, cond_false, if_pos ⟨by omega, by omega, by omega⟩, if_pos (by simp; omega), Int.toNat_natCast, List.nil_append]
      exact e2
  · exact ⟨[], by rw [cnd_t (by omega)], by rw [decide_eq_false (by omega), Bool.not_false, cond_true], by simp, fun j hj => by simp at hj⟩
end
end FN

