/- Texts of the proof, joined: Plain laws of numbers and lists. -/
import Derived.Deep.Slices
import Derived.OpenShut
import Derived.ShutString
import Derived.WideShapes
import Derived.Below
import Derived.Carry
import Derived.Handed
import Derived.SizedLaws
import Derived.Shelf.Vars
import Derived.Lib.SplitLaws
import Derived.Test.YtlpjnnepjlaclaaDoorH0
set_option linter.unusedVariables false
set_option linter.unusedSimpArgs false
set_option linter.unusedSectionVars false
/-! What comes in, opened: typed values with their bounds. -/
namespace FN
open Go Go.RowKit
def okI (n : Int) : Prop := -9223372036854775808 ≤ n ∧ n ≤ 9223372036854775807
def okL (l : List Int) : Prop := l.length ≤ maxLen ∧ ∀ y ∈ l, okI y
def WfE : (c : CK) → c.T → Prop
  | .i64, x => okI x
  | .u8, x => 0 ≤ x ∧ x ≤ 255
  | .str, s => s.size ≤ maxLen
  | .intss, l => okL l
  | .place, x => okL x.1 ∧ okI x.2.1 ∧ okL x.2.2
  | .deed, x => okI x.1 ∧ okI x.2.1 ∧ okI x.2.2
  | .bool, _ => True
  | .pair, x => okI x.1 ∧ okI x.2
def WfR : (r : RS) → r.T → Prop
  | .int k, n => (Lit.int k n).wf = true
  | .bool, _ => True
  | .str, s => s.size ≤ maxLen
  | .row _ _, _ => False
  | .view c, xs => xs.length ≤ maxLen ∧ ∀ x ∈ xs, WfE c x
  | .any, _ => False
  | .fview _, _ => False
  | .nil, _ => False
  | .drow _ _ _, _ => False
def WfTs : (rs : List RS) → Ts rs → Prop
  | [], _ => True
  | [a], x => WfR a x
  | a :: b :: az, x => WfR a x.1 ∧ WfTs (b :: az) x.2
theorem wf_i64 {n : Int} (h : (Lit.int .i64 n).wf = true) : okI n := by
  simp [Lit.wf, IntKind.min, IntKind.max, IntKind.bits, IntKind.signed] at h
  unfold okI; omega
theorem wf_u8 {n : Int} (h : (Lit.int .u8 n).wf = true) : 0 ≤ n ∧ n ≤ 255 := by
  simp [Lit.wf, IntKind.min, IntKind.max, IntKind.bits, IntKind.signed] at h
  omega
theorem list_of {α : Type} {p : Nat → α → Prop} : ∀ n, (∀ i, i < n → ∃ x, p i x) → ∃ xs : List α, xs.length = n ∧ ∀ (i : Nat) x, xs[i]? = some x → p i x := by
  intro n
  induction n with
  | zero => intro _; exact ⟨[], rfl, fun i x h => by simp at h⟩
  | succ n ih =>
    intro h
    obtain ⟨xs, h1, h2⟩ := ih fun i hi => h i (by omega)
    obtain ⟨x, hx⟩ := h n (by omega)
    refine ⟨xs ++ [x], by simp [h1], fun i y hy => ?_⟩
    rcases Nat.lt_or_ge i xs.length with hl | hl
    · rw [List.getElem?_append_left hl] at hy; exact h2 i y hy
    · rw [List.getElem?_append_right hl] at hy
      have : i = n := by
        have := (List.getElem?_eq_some_iff.1 hy).1
        simp at this; omega
      subst this
      simp [h1] at hy
      subst hy; exact hx
section
variable {H : Type} {enc : TypeId × Value → H} {P : Program} {w : World} {sp : Nat → Bool} {held : Bool}
def okT (w : World) : Nat → Prop := (av w fun _ => True).okf false
theorem okT_all (w : World) (k : Nat) : okT w k := ⟨trivial, fun h => by cases h⟩
theorem trod_int' {t : TypeId} {k : IntKind} {n : Nat} {cs : List Value} {y : DataW H × List MemPlace} (ht : P.underlying t = some (.int k)) (h : DataW.trod enc P w 0 sp held n t cs = some y) : ∃ m, cs = [.int k m] ∧ (Lit.int k m).wf = true := by
  cases n with
  | zero => simp [DataW.trod] at h
  | succ n =>
    simp only [DataW.trod, ht] at h
    split at h <;> try (simp_all; done)
theorem trod_bool' {t : TypeId} {n : Nat} {cs : List Value} {y : DataW H × List MemPlace} (ht : P.underlying t = some .bool) (h : DataW.trod enc P w 0 sp held n t cs = some y) : ∃ b, cs = [.bool b] := by
  cases n with
  | zero => simp [DataW.trod] at h
  | succ n =>
    simp only [DataW.trod, ht] at h
    split at h <;> first | (exact ⟨_, rfl⟩) | (simp_all; done)
theorem trod_str' {t : TypeId} {n : Nat} {cs : List Value} {y : DataW H × List MemPlace} (ht : P.underlying t = some .string) (h : DataW.trod enc P w 0 sp held n t cs = some y) : ∃ s, cs = [.string s] ∧ s.size ≤ maxLen := by
  cases n with
  | zero => simp [DataW.trod] at h
  | succ n =>
    simp only [DataW.trod, ht] at h
    split at h <;> try (simp_all; done)
theorem open_sl {t e : TypeId} {c : CK} (ht : P.underlying t = some (.slice e)) (hsz : P.cellsOf e = c.sz)
    (hel : ∀ (n : Nat) (cs : List Value) (y : DataW H × List MemPlace), DataW.trod enc P w 0 sp held n e cs = some y → ∃ x : c.T, ElR w (okT w) c x cs ∧ WfE c x) {n : Nat} {cs : List Value} {y : DataW H × List MemPlace}
    (h : DataW.trod enc P w 0 sp held n t cs = some y) : ∃ v xs, cs = [v] ∧ SlR w (okT w) c xs v ∧ xs.length ≤ maxLen ∧ ∀ x ∈ xs, WfE c x := by
  rcases Go.Deep.open_slice ht h with ⟨rfl, _⟩ | ⟨a, len, cap, m, k, D, Pl, rfl, _, hl, hm, hmm, _, hx⟩
  · exact ⟨_, [], rfl, ⟨none, 0, rfl, Nat.le_refl _, Nat.zero_le _, fun h => absurd rfl h⟩, Nat.zero_le _, fun x hx => by simp at hx⟩
  · have hlm : len ≤ m := by rw [hmm]; split <;> omega
    obtain ⟨xs, e1, e2⟩ := list_of (p := fun i (x : c.T) => ∃ cs', w.cells? 0 (a.add (i * P.cellsOf e)) (P.cellsOf e) = some cs' ∧ ElR w (okT w) c x cs' ∧ WfE c x) len (fun i hi => by
      obtain ⟨cs', h1, h2⟩ := hx i (by omega)
      obtain ⟨x, h3, h4⟩ := hel _ _ _ h2
      exact ⟨x, cs', h1, h3, h4⟩)
    subst e1
    refine ⟨_, xs, rfl, ⟨some a, cap, rfl, hl, by omega, fun hne => ⟨a, rfl, okT_all w _, ?_, fun j x hj => ?_⟩⟩, by omega, fun x hx => ?_⟩
    · cases xs with
      | nil => exact absurd rfl hne
      | cons x xs =>
        obtain ⟨cs', h1, h3, _⟩ := e2 0 x rfl
        obtain ⟨_, h5, h6⟩ := World.cells?_some h1
        have hpos := c.sz_pos
        have := h6 0 (by omega)
        have hl0 : 0 < cs'.length := by omega
        rw [List.getElem?_eq_getElem hl0] at this
        have := World.block_lt_of_cell? w _ this
        rwa [Addr.add_block, Addr.add_block] at this
    · obtain ⟨cs', h1, h3, _⟩ := e2 j x hj
      obtain ⟨_, h5, h6⟩ := World.cells?_some h1
      refine ⟨cs', h3, fun i u hi => ?_⟩
      have hil := (List.getElem?_eq_some_iff.1 hi).1
      have := h6 i (by omega)
      rw [Addr.add_add, hsz] at this
      rw [this, hi]
    · obtain ⟨i, hi⟩ := List.getElem?_of_mem hx
      obtain ⟨_, _, _, h4⟩ := e2 i x hi
      exact h4
theorem open_slI {t e : TypeId} (ht : P.underlying t = some (.slice e)) (he : P.underlying e = some (.int .i64)) (hsz : P.cellsOf e = 1) {n : Nat} {cs : List Value} {y : DataW H × List MemPlace}
    (h : DataW.trod enc P w 0 sp held n t cs = some y) : ∃ v xs, cs = [v] ∧ SlI w (okT w) xs v ∧ okL xs := by
  obtain ⟨v, xs, h1, h2, h3, h4⟩ := open_sl (c := .i64) ht hsz (fun n cs y h => by
    obtain ⟨m, rfl, hm⟩ := trod_int' he h
    exact ⟨m, rfl, wf_i64 hm⟩) h
  exact ⟨v, xs, h1, slI_iff.1 h2, h3, h4⟩
theorem trod_struct' {t : TypeId} {fs : Array Field} {n : Nat} {cs : List Value} {y : DataW H × List MemPlace} (ht : P.underlying t = some (.struct fs)) (h : DataW.trod enc P w 0 sp held n t cs = some y) :
    cs.length = P.cellsOf t ∧ ∃ m, ∀ f ∈ fs.toList, ∃ z, DataW.trod enc P w 0 sp held m f.type ((cs.drop f.offset).take (P.cellsOf f.type)) = some z := by
  cases n with
  | zero => simp [DataW.trod] at h
  | succ n =>
    have h' : (if cs.length = P.cellsOf t then (fs.toList.mapM fun f => DataW.trod enc P w 0 sp held n f.type ((cs.drop f.offset).take (P.cellsOf f.type))).map fun xs => (DataW.agg (xs.map (·.1)), xs.flatMap (·.2)) else none) = some y := by
      rw [← h]
      simp only [DataW.trod, ht]
    split at h'
    · rename_i hl
      obtain ⟨xs, h1, _⟩ := Option.map_eq_some_iff.1 h'
      refine ⟨hl, n, fun f hf => ?_⟩
      have key : ∀ (l : List Field) (xs : List (DataW H × List MemPlace)), (l.mapM fun f => DataW.trod enc P w 0 sp held n f.type ((cs.drop f.offset).take (P.cellsOf f.type))) = some xs → ∀ f ∈ l, ∃ z, DataW.trod enc P w 0 sp held n f.type ((cs.drop f.offset).take (P.cellsOf f.type)) = some z := by
        intro l
        induction l with
        | nil => intro _ _ f hf; cases hf
        | cons g l ih =>
          intro xs hx f hf
          rw [List.mapM_cons] at hx
          obtain ⟨z, hz, hx⟩ := Option.bind_eq_some_iff.1 hx
          obtain ⟨zs, hzs, _⟩ := Option.bind_eq_some_iff.1 hx
          cases hf with
          | head => exact ⟨z, hz⟩
          | tail _ hf => exact ih zs hzs f hf
      exact key _ _ h1 f hf
    · cases h'
end
end FN
/-! From a law's contract to its call; arguments. -/
namespace FN
open Go Go.RowKit
theorem law_calls [Gl] {P : Program} {f : FuncId} {ps : List (Option Nat)} {pc : List RS} {run : Ts pc → Option (Ts [RS.bool])} (hc : CtrOk P f ⟨{ ps := ps, pc := pc, rs := [none], rc := [.bool] }, run⟩) {w : World} (hI : Gl.I w) {args : Array Value} {x : Ts pc} {fl : List Value}
    (h1 : flatV ps args.toList = some fl) (h2 : F2 (V1 (av w fun _ => True)) (inPs pc x) fl) (hr : run x = some true) : Calls P f args w fun e w' => e = .returned (.bool true) ∧ Below w.heap.size w w' := by
  refine (hc w (fun _ => True) args none x true hI ⟨rfl, fl, h1, h2⟩ hr).mono fun e w' hh => ?_
  obtain ⟨v, rfl, ⟨us, sp, _, _, ho, _, hsh⟩, hk⟩ := hh
  obtain ⟨_, _, vs, hvs, rfl⟩ := hsh
  obtain ⟨u, rfl, hu⟩ := ho
  have hu' : u = .bool true := hu
  subst hu'
  refine ⟨?_, hk.os, hk.tape, hk.output, hk.size, fun k hlt => hk.block k hlt (by rintro ⟨b, hb⟩; cases hb)⟩
  cases vs with
  | nil => simp [flatV] at hvs
  | cons v vs =>
    cases vs with
    | nil =>
      simp only [flatV, Option.map_some] at hvs
      injection hvs with hvs
      injection hvs with hvs
      subst hvs
      rfl
    | cons v' vs => simp [flatV] at hvs
/-- A row of numbers that came in. -/
def IsRow (k : IntKind) (w : World) (a : Option Addr) (len cap : Nat) (zs : List Int) : Prop :=
  (a = none ∧ len = 0 ∧ cap = 0 ∧ zs = []) ∨
  ∃ x, a = some x ∧ len ≤ cap ∧ cap ≤ maxLen ∧ zs.length = cap ∧ (∀ i, i < zs.length → w.cell? (x.add i) = some (.int k (zs.getD i 0))) ∧ ∀ n ∈ zs, (Lit.int k n).wf = true
theorem IsRow.bytes {w : World} {a : Option Addr} {len cap : Nat} {zs : List Int} (h : IsRow .u8 w a len cap zs) : V1 (av w fun _ => True) (.row false .u8 (zs.take len)) (.slice a len cap) ∧ ∀ x ∈ zs.take len, 0 ≤ x ∧ x ≤ 255 := by
  rcases h with ⟨rfl, rfl, rfl, rfl⟩ | ⟨x, rfl, hl, hm, hz, hc, hw⟩
  · exact ⟨⟨none, 0, rfl, Nat.le_refl _, Nat.zero_le _, fun h => absurd rfl h⟩, fun x hx => by simp at hx⟩
  · have hlen : (zs.take len).length = len := by rw [List.length_take]; omega
    refine ⟨⟨some x, cap, by rw [hlen], by omega, by omega, fun hne => ⟨x, rfl, ⟨trivial, fun h => by cases h⟩, (by
      have hz0 : 0 < zs.length := by
        cases zs with
        | nil => simp at hne
        | cons z zs => simp
      have := World.block_lt_of_cell? w _ (hc 0 hz0)
      rwa [Addr.add_block] at this), fun j y hj => ⟨[.int .u8 y], rfl, fun i u hi => ?_⟩⟩⟩, fun y hy => ?_⟩
    · cases i with
      | succ i => simp at hi
      | zero =>
        simp at hi
        subst hi
        rw [List.getElem?_take] at hj
        split at hj
        · have hjl := (List.getElem?_eq_some_iff.1 hj).1
          have := hc j hjl
          rw [List.getD_eq_getElem?_getD, hj] at this
          show w.cell? (x.add (j * 1 + 0)) = _
          simpa using this
        · cases hj
    · have := hw y (List.mem_of_mem_take hy)
      simp [Lit.wf, IntKind.min, IntKind.max, IntKind.bits, IntKind.signed] at this
      omega
end FN
/-! A law's arguments, opened by the program's own table of types. -/
namespace FN
open Go Go.RowKit
def isI (P : Program) (t : TypeId) : Bool := match P.underlying t with | some (.int .i64) => P.cellsOf t == 1 | _ => false
def isIs (P : Program) (t : TypeId) : Bool := match P.underlying t with | some (.slice e) => isI P e && P.cellsOf t == 1 | _ => false
def elCK (P : Program) (e : TypeId) : Option CK := match P.underlying e with
  | some (.int .i64) => some .i64
  | some (.int .u8) => some .u8
  | some .string => some .str
  | some .bool => some .bool
  | some (.slice q) => if isI P q then some .intss else none
  | some (.struct fs) => match fs.toList with
    | [a, b, c] => if a.offset = 0 ∧ b.offset = 1 ∧ c.offset = 2 then
        (if isI P a.type ∧ isI P b.type ∧ isI P c.type then some .deed else if isIs P a.type ∧ isI P b.type ∧ isIs P c.type then some .place else none) else none
    | [a, b] => if a.offset = 0 ∧ b.offset = 1 ∧ isI P a.type ∧ isI P b.type then some .pair else none
    | _ => none
  | _ => none
mutual
def tyRS (P : Program) : Nat → TypeId → Option (List RS)
  | 0, _ => none
  | n + 1, t => match P.underlying t with
    | some (.int k) => some [.int k]
    | some .bool => some [.bool]
    | some .string => some [.str]
    | some (.slice e) => match elCK P e with
      | some c => if P.cellsOf e = c.sz then some [.view c] else none
      | none => none
    | some (.struct fs) => match fsRS P n fs.toList 0 with
      | some rs => if P.cellsOf t = rs.length then some rs else none
      | none => none
    | _ => none
def fsRS (P : Program) : Nat → List Field → Nat → Option (List RS)
  | _, [], _ => some []
  | 0, _, _ => none
  | n + 1, f :: fs, o => match tyRS P n f.type, fsRS P n fs (o + P.cellsOf f.type) with
    | some a, some b => if f.offset = o ∧ P.cellsOf f.type = a.length then some (a ++ b) else none
    | _, _ => none
end
def sigRS (P : Program) : List TypeId → Option (List (Option Nat) × List RS)
  | [] => some ([], [])
  | t :: ts => match tyRS P 20 t, sigRS P ts with
    | some a, some b => match P.underlying t with
      | some (.struct _) => some (some a.length :: b.1, a ++ b.2)
      | _ => if a.length = 1 then some (none :: b.1, a ++ b.2) else none
    | _, _ => none
section
variable {H : Type} {enc : TypeId × Value → H} {P : Program} {w : World} {sp : Nat → Bool} {held : Bool}
theorem isI_spec {t : TypeId} (h : isI P t = true) : P.underlying t = some (.int .i64) ∧ P.cellsOf t = 1 := by
  unfold isI at h
  split at h
  · rename_i hu; exact ⟨hu, by simpa using h⟩
  · cases h
theorem isIs_spec {t : TypeId} (h : isIs P t = true) : ∃ e, P.underlying t = some (.slice e) ∧ P.underlying e = some (.int .i64) ∧ P.cellsOf e = 1 ∧ P.cellsOf t = 1 := by
  unfold isIs at h
  split at h
  · rename_i e hu
    simp only [Bool.and_eq_true] at h
    obtain ⟨h1, h2⟩ := isI_spec h.1
    exact ⟨e, hu, h1, h2, by simpa using h.2⟩
  · cases h
theorem len3 {cs : List Value} (h : cs.length = 3) : ∃ a b c, cs = [a, b, c] := by
  match cs, h with
  | [a, b, c], _ => exact ⟨a, b, c, rfl⟩
theorem len2 {cs : List Value} (h : cs.length = 2) : ∃ a b, cs = [a, b] := by
  match cs, h with
  | [a, b], _ => exact ⟨a, b, rfl⟩
theorem open_el {e : TypeId} {c : CK} (h : elCK P e = some c) (hsz : P.cellsOf e = c.sz) {n : Nat} {cs : List Value} {y : DataW H × List MemPlace} (hT : DataW.trod enc P w 0 sp held n e cs = some y) : ∃ x : c.T, ElR w (okT w) c x cs ∧ WfE c x := by
  unfold elCK at h
  split at h
  · rename_i hu
    injection h with h; subst h
    obtain ⟨m, rfl, hm⟩ := trod_int' hu hT
    exact ⟨m, rfl, wf_i64 hm⟩
  · rename_i hu
    injection h with h; subst h
    obtain ⟨m, rfl, hm⟩ := trod_int' hu hT
    exact ⟨m, rfl, wf_u8 hm⟩
  · rename_i hu
    injection h with h; subst h
    obtain ⟨s, rfl, hs⟩ := trod_str' hu hT
    exact ⟨s, rfl, hs⟩
  · rename_i hu
    injection h with h; subst h
    obtain ⟨b, rfl⟩ := trod_bool' hu hT
    exact ⟨b, rfl, trivial⟩
  · rename_i q hu
    split at h
    · rename_i hq
      injection h with h; subst h
      obtain ⟨h1, h2⟩ := isI_spec hq
      obtain ⟨v, xs, rfl, hs, hok⟩ := open_slI hu h1 h2 hT
      exact ⟨xs, ⟨v, rfl, hs⟩, hok⟩
    · cases h
  · rename_i fs hu
    obtain ⟨hl, m, hf⟩ := trod_struct' hu hT
    split at h
    · rename_i a b c' hfs
      rw [hfs] at hf
      split at h
      · rename_i ho
        obtain ⟨oa, ob, oc⟩ := ho
        obtain ⟨za, ha⟩ := hf a (by simp)
        obtain ⟨zb, hb⟩ := hf b (by simp)
        obtain ⟨zc, hc⟩ := hf c' (by simp)
        rw [oa] at ha; rw [ob] at hb; rw [oc] at hc
        split at h
        · rename_i hi
          injection h with h; subst h
          obtain ⟨u1, u2, u3, rfl⟩ := len3 (hl.trans hsz)
          obtain ⟨a1, a2⟩ := isI_spec hi.1
          obtain ⟨b1, b2⟩ := isI_spec hi.2.1
          obtain ⟨c1, c2⟩ := isI_spec hi.2.2
          rw [a2] at ha; rw [b2] at hb; rw [c2] at hc
          obtain ⟨m1, e1, w1⟩ := trod_int' a1 ha
          obtain ⟨m2, e2, w2⟩ := trod_int' b1 hb
          obtain ⟨m3, e3, w3⟩ := trod_int' c1 hc
          simp at e1 e2 e3
          subst e1; subst e2; subst e3
          exact ⟨(m1, m2, m3), rfl, wf_i64 w1, wf_i64 w2, wf_i64 w3⟩
        · split at h
          · rename_i hi
            injection h with h; subst h
            obtain ⟨u1, u2, u3, rfl⟩ := len3 (hl.trans hsz)
            obtain ⟨ea, a1, a2, a3, a4⟩ := isIs_spec hi.1
            obtain ⟨b1, b2⟩ := isI_spec hi.2.1
            obtain ⟨ec, c1, c2, c3, c4⟩ := isIs_spec hi.2.2
            rw [a4] at ha; rw [b2] at hb; rw [c4] at hc
            obtain ⟨v1, xs1, e1, s1, k1⟩ := open_slI a1 a2 a3 ha
            obtain ⟨m2, e2, w2⟩ := trod_int' b1 hb
            obtain ⟨v3, xs3, e3, s3, k3⟩ := open_slI c1 c2 c3 hc
            simp at e1 e2 e3
            subst e1; subst e2; subst e3
            exact ⟨(xs1, m2, xs3), ⟨_, _, rfl, s1, s3⟩, k1, wf_i64 w2, k3⟩
          · cases h
      · cases h
    · rename_i a b hfs
      rw [hfs] at hf
      split at h
      · rename_i ho
        obtain ⟨oa, ob, ia, ib⟩ := ho
        injection h with h; subst h
        obtain ⟨za, ha⟩ := hf a (by simp)
        obtain ⟨zb, hb⟩ := hf b (by simp)
        rw [oa] at ha; rw [ob] at hb
        obtain ⟨u1, u2, rfl⟩ := len2 (hl.trans hsz)
        obtain ⟨a1, a2⟩ := isI_spec ia
        obtain ⟨b1, b2⟩ := isI_spec ib
        rw [a2] at ha; rw [b2] at hb
        obtain ⟨m1, e1, w1⟩ := trod_int' a1 ha
        obtain ⟨m2, e2, w2⟩ := trod_int' b1 hb
        simp at e1 e2
        subst e1; subst e2
        exact ⟨(m1, m2), rfl, wf_i64 w1, wf_i64 w2⟩
      · cases h
    · cases h
  · cases h
/-- Typed cells, one behind the other. -/
theorem ts_app {v : Vw} : ∀ {az bs : List RS} {cs ds : List Value}, (∃ x : Ts az, F2 (V1 v) (inPs az x) cs ∧ WfTs az x) → (∃ y : Ts bs, F2 (V1 v) (inPs bs y) ds ∧ WfTs bs y) → ∃ z : Ts (az ++ bs), F2 (V1 v) (inPs (az ++ bs) z) (cs ++ ds) ∧ WfTs (az ++ bs) z
  | [], bs, cs, ds, ⟨x, h1, _⟩, h => by
    simp only [inPs] at h1
    cases h1
    exact h
  | [a], [], cs, ds, ⟨x, h1, h2⟩, ⟨y, h3, _⟩ => by
    simp only [inPs] at h3
    cases h3
    exact ⟨x, by simpa using h1, h2⟩
  | [a], b :: bs, cs, ds, ⟨x, h1, h2⟩, ⟨y, h3, h4⟩ => ⟨(x, y), F2.app h1 h3, h2, h4⟩
  | a :: b :: az, bs, cs, ds, ⟨x, h1, h2⟩, h => by
    simp only [inPs] at h1
    cases h1 with
    | @cons _ u _ us e1 e2 =>
      obtain ⟨z, h3, h4⟩ := ts_app (az := b :: az) ⟨x.2, e2, h2.2⟩ h
      exact ⟨(x.1, z), .cons e1 h3, h2.1, h4⟩
theorem inPs_len {v : Vw} {rs : List RS} {x : Ts rs} {cs : List Value} (h : F2 (V1 v) (inPs rs x) cs) : cs.length = rs.length := by
  have : ∀ (rs : List RS) (x : Ts rs), (inPs rs x).length = rs.length := by
    intro rs
    induction rs with
    | nil => intro x; rfl
    | cons a az ih =>
      cases az with
      | nil => intro x; rfl
      | cons b bs => intro x; simp only [inPs, List.length_cons]; rw [ih]; simp
  rw [← h.len, this]
mutual
theorem open_ty : ∀ (k : Nat) {t : TypeId} {rs : List RS} {n : Nat} {cs : List Value} {y : DataW H × List MemPlace}, tyRS P k t = some rs → DataW.trod enc P w 0 sp held n t cs = some y → ∃ x : Ts rs, F2 (V1 (av w fun _ => True)) (inPs rs x) cs ∧ WfTs rs x
  | 0, t, rs, n, cs, y, h, hT => by simp [tyRS] at h
  | k + 1, t, rs, n, cs, y, h, hT => by
    simp only [tyRS] at h
    split at h
    · rename_i kk hu
      injection h with h; subst h
      obtain ⟨m, rfl, hm⟩ := trod_int' hu hT
      exact ⟨m, .cons rfl .nil, hm⟩
    · rename_i hu
      injection h with h; subst h
      obtain ⟨b, rfl⟩ := trod_bool' hu hT
      exact ⟨b, .cons rfl .nil, trivial⟩
    · rename_i hu
      injection h with h; subst h
      obtain ⟨s, rfl, hs⟩ := trod_str' hu hT
      exact ⟨s, .cons rfl .nil, hs⟩
    · rename_i e hu
      split at h
      · rename_i c hc
        split at h
        · rename_i hsz
          injection h with h; subst h
          obtain ⟨v, xs, rfl, h1, h2, h3⟩ := open_sl hu hsz (fun n cs y => open_el hc hsz) hT
          exact ⟨xs, .cons h1 .nil, h2, h3⟩
        · cases h
      · cases h
    · rename_i fs hu
      split at h
      · rename_i rs' hrs
        split at h
        · rename_i hl
          injection h with h; subst h
          obtain ⟨hlen, m, hf⟩ := trod_struct' hu hT
          have := open_fs k (o := 0) (cs := cs) hrs (by omega) (fun f hf' => ⟨m, hf f hf'⟩)
          simpa using this
        · cases h
      · cases h
    · cases h
theorem open_fs : ∀ (k : Nat) {fs : List Field} {rs : List RS} {o : Nat} {cs : List Value}, fsRS P k fs o = some rs → cs.length = o + rs.length → (∀ f ∈ fs, ∃ m z, DataW.trod enc P w 0 sp held m f.type ((cs.drop f.offset).take (P.cellsOf f.type)) = some z) →
    ∃ x : Ts rs, F2 (V1 (av w fun _ => True)) (inPs rs x) (cs.drop o) ∧ WfTs rs x
  | k, [], rs, o, cs, h, hl, _ => by
    have : rs = [] := by cases k <;> simp [fsRS] at h <;> exact h
    subst this
    rw [List.drop_eq_nil_of_le (by simp at hl; omega)]
    exact ⟨(), .nil, trivial⟩
  | 0, _ :: _, rs, o, cs, h, hl, _ => by simp [fsRS] at h
  | k + 1, f :: fs, rs, o, cs, h, hl, hf => by
    simp only [fsRS] at h
    split at h
    · rename_i a b ha hb
      split at h
      · rename_i hc
        injection h with h; subst h
        obtain ⟨h1, h2⟩ := hc
        obtain ⟨m, z, hz⟩ := hf f (by simp)
        rw [h1] at hz
        have hx := open_ty k ha hz
        rw [h2] at hb hz hx
        simp only [List.length_append] at hl
        have hy := open_fs k (cs := cs) hb (by omega) (fun g hg => hf g (by simp [hg]))
        have := ts_app hx hy
        have e : (cs.drop o).take a.length ++ cs.drop (o + a.length) = cs.drop o := by
          rw [← List.drop_drop, List.take_append_drop]
        rwa [e] at this
      · cases h
    · cases h
end
theorem open_args : ∀ {ts : List TypeId} {vs : List Value} {ds : List (DataW H)} {p : List MemPlace} {ps : List (Option Nat)} {rs : List RS} {base : Nat}, DataW.TrodAll enc P w 0 sp held ts vs ds p →
    (∀ (j : Nat) t v, ts[j]? = some t → vs[j]? = some v → Value.okWide P w .any base t v) → sigRS P ts = some (ps, rs) → ∃ fl, flatV ps vs = some fl ∧ ∃ x : Ts rs, F2 (V1 (av w fun _ => True)) (inPs rs x) fl ∧ WfTs rs x
  | [], vs, ds, p, ps, rs, base, hA, _, hs => by
    obtain ⟨rfl, rfl, rfl⟩ := Go.ChangeShapes.trodAll_nil hA
    simp only [sigRS] at hs
    injection hs with hs
    injection hs with h1 h2
    subst h1; subst h2
    exact ⟨[], rfl, (), .nil, trivial⟩
  | t :: ts, vs, ds, p, ps, rs, base, hA, hok, hs => by
    obtain ⟨v, vs', d, ds', p', q', rfl, rfl, rfl, h0, hA'⟩ := Go.ChangeShapes.trodAll_cons hA
    simp only [sigRS] at hs
    split at hs
    · rename_i a b ha hb
      obtain ⟨fl, hfl, hy⟩ := open_args (ps := b.1) (rs := b.2) hA' (fun j t v hj hv => hok (j + 1) t v (by simpa using hj) (by simpa using hv)) hb
      obtain ⟨m, hm⟩ := h0
      have hx := open_ty 20 ha hm
      have hv := hok 0 t v rfl rfl
      split at hs
      · rename_i fs hu
        injection hs with hs
        injection hs with h1 h2
        subst h1; subst h2
        obtain ⟨cs, rfl, hcs⟩ := Go.WideShapes.okWide_struct hu hv
        have hlen : cs.size = a.length := by
          obtain ⟨x, h1, _⟩ := hx
          have := inPs_len h1
          simpa [Value.cells] using this
        exact ⟨cs.toList ++ fl, by simp [flatV, hlen, hfl], ts_app (by simpa [Value.cells] using hx) hy⟩
      · rename_i hu
        split at hs
        · rename_i hl1
          injection hs with hs
          injection hs with h1 h2
          subst h1; subst h2
          have hcell : v.cells.toList = [v] := by
            unfold tyRS at ha
            split at ha
            · rename_i k hk; obtain ⟨n, rfl⟩ := Go.WideShapes.okWide_int hk hv; rfl
            · rename_i hk; obtain ⟨n, rfl⟩ := Go.WideShapes.okWide_bool hk hv; rfl
            · rename_i hk; obtain ⟨n, rfl⟩ := Go.WideShapes.okWide_string hk hv; rfl
            · rename_i e hk; obtain ⟨n, l, c, rfl⟩ := Go.WideShapes.okWide_slice hk hv; rfl
            · rename_i fs hk; exact absurd hk (hu fs)
            · cases ha
          rw [hcell] at hx
          exact ⟨v :: fl, by simp [flatV, hfl], ts_app hx hy⟩
        · cases hs
    · cases hs
/-- The arguments read az they read before. -/
theorem args_keep {w' : World} (hl : laidOutB P = true) (hb : Below w.heap.size w w') : ∀ {ts : List TypeId} {vs : List Value} {ds : List (DataW H)} {p : List MemPlace}, (∀ t ∈ ts, P.readableRec t = true ∧ t < P.types.size) → DataW.TrodAll enc P w 0 (fun _ => true) true ts vs ds p →
    ∃ p', DataW.TrodAll enc P w' 0 (fun b => decide (b < w.heap.size)) true ts vs ds p'
  | [], vs, ds, p, _, hA => by
    obtain ⟨rfl, rfl, rfl⟩ := Go.ChangeShapes.trodAll_nil hA
    exact ⟨[], Go.ChangeShapes.trodAll_mk0⟩
  | t :: ts, vs, ds, p, hr, hA => by
    obtain ⟨v, vs', d, ds', p', q', rfl, rfl, rfl, h0, hA'⟩ := Go.ChangeShapes.trodAll_cons hA
    obtain ⟨q, hq⟩ := args_keep hl hb (fun t ht => hr t (by simp [ht])) hA'
    have lt0 : ∀ x ∈ p', x.block < w.heap.size := by obtain ⟨m, hm⟩ := h0; exact DataW.trod_lt m _ _ _ hm
    exact ⟨p' ++ q, trodAll_cons_mk (Below.trod hl (hr t (by simp)).1 (hr t (by simp)).2 h0 hb lt0) hq⟩
end
end FN
namespace FN
open Go
theorem TrodAll_len {H : Type} {enc : TypeId × Value → H} {P : Program} {w : World} {base : Nat} {sp : Nat → Bool} {held : Bool} : ∀ {ts : List TypeId} {vs : List Value} {ds : List (DataW H)} {p : List MemPlace}, DataW.TrodAll enc P w base sp held ts vs ds p → ds.length = ts.length
  | [], vs, ds, p, h => by
    obtain ⟨rfl, rfl, rfl⟩ := Go.ChangeShapes.trodAll_nil h
    rfl
  | t :: ts, vs, ds, p, h => by
    obtain ⟨v, vs', d, ds', p', q', rfl, rfl, rfl, _, h'⟩ := Go.ChangeShapes.trodAll_cons h
    simp [TrodAll_len h']
end FN
/-! The world's shape, kept for a law's walk. -/
namespace FN
open Go Go.Proofs Go.RowKit
theorem gl_of_shaped {P : Program} {w : World} {g : Nat} {t : TypeId} {zero : Array Value} {k : IntKind} (h : w.ShapedOpen P) (hg : g < P.globals.size)
    (h0 : ((begin P (fun _ _ => 0) default).world.heap[g]?).bind Obj.row? = some (zero, t)) (hz : zero.size = 1)
    (hb : P.buildable t = true) (hc : P.cellTypes P.depth t = some [t]) (hu : P.underlying t = some (.int k)) : ∃ m t' fz, w.heap[g]? = some (.cells #[.int k m] t' fz) := by
  obtain ⟨m, hm⟩ := cell_of_shapedOpen_int h hg h0 hz hb hc hu
  obtain ⟨cs, hh, hs, _⟩ := h.1 g zero t hg h0
  have h1 : cs.size = 1 := by omega
  have h2 : cs[0]? = some (.int k m) := by simpa [World.cell?, hh] using hm
  have : cs = #[.int k m] := by
    apply Array.ext_getElem?
    intro i
    cases i with
    | zero => simpa using h2
    | succ i => simp [h1]
  exact ⟨m, t, (0, 0), by rw [hh, this]⟩
theorem change_and_shaped {H : Type} {enc : TypeId × Value → H} {a : Assume} {C : Checked} {os : Os} {f : FuncId} {fn : Func} {s : ChangeSpec} {conds : List PathCond} {apart fresh handsOn again : Bool} {X : World → Array Value → Prop}
    (hX : ∀ (w w' : World) (args : Array Value), w.heap = w'.heap → X w args → X w' args)
    (own : ownKnob C.prog.godebug = none) (started : os.Started) (noInit : C.prog.inits.idxOf? f = none) (hfn : C.prog.funcs[f]? = some fn)
    (witness : ∃ (w : World) (tape : Tape) (i : Input), w.os = os ∧ (w.forCall tape i).Shaped C.prog ∧ i.vars = [] ∧ Input.okWide C.prog (w.forCall tape i) .any w.heap.size f i ∧
      ((s.pre enc C.prog fn conds apart (w.forCall tape i).memory i.args ∧ X (w.forCall tape i).memory i.args) ∧ sizedMet enc C.prog fn (OpenSpec.ofChange s) apart (w.forCall tape i).memory i.args) ∧ a.holds C.prog (lone (Frame.enter C.prog f i.args .normal) [] (w.forCall tape i)))
    (contract : ∀ (W : World) (base : Nat) (args : Array Value) (ds gs : List (DataW H)) (before : List MemPlace),
      (∀ (j : Nat) t v, fn.params[j]? = some t → args[j]? = some v → Value.okWide C.prog W .any base t v) →
      DataW.Whole enc C.prog fn.params.toList s.vars apart W args.toList ds gs before →
      conds.all (PathCond.test C.prog ⟨fn.params.toList, ds, s.plain.varTypes C.prog, gs⟩) = true →
      (DataW.weightsEach C.prog (fn.params.toList ++ s.plain.varTypes C.prog) (ds ++ gs)).all (· ≤ reachBytes) = true → X W args → W.ShapedOpen C.prog →
      Calls C.prog f args W fun e W' => ∃ v, e = .returned v ∧ s.post enc C.prog fn apart fresh handsOn again W args v W') :
    ReturnsInHanded a C os f .any (fun w args => (s.pre enc C.prog fn conds apart w args ∧ X w args) ∧ sizedMet enc C.prog fn (OpenSpec.ofChange s) apart w args) (s.post enc C.prog fn apart fresh handsOn again) := by
  refine returnsInHanded_of_calls own started noInit witness ?_
  intro w tape i _ hsh _ hok hpre _
  obtain ⟨_, _, _, fn', hfn', _, _, _, _, hval⟩ := hok
  have e : fn' = fn := Option.some.inj (hfn'.symm.trans hfn)
  subst e
  obtain ⟨⟨⟨ds, gs, before, hw, hc⟩, hx⟩, hz⟩ := hpre
  have hw' := DataW.Whole.of_heap (w' := w.forCall tape i) (by rfl) hw
  refine (contract (w.forCall tape i) w.heap.size i.args ds gs before hval hw' hc (hz.weights hw) (hX _ _ _ (by rfl) hx) hsh).mono fun e W' ⟨v, he, hp⟩ => ?_
  subst he
  exact ChangeSpec.post_blind hp
end FN
/-! Numbers and lists: what the equations' proofs use. -/
namespace FN
open Go
theorem i64w {n : Int} (h0 : -9223372036854775808 ≤ n) (h1 : n ≤ 9223372036854775807) : IntKind.i64.wrap n = n := by
  simp [IntKind.wrap, IntKind.bits, IntKind.signed]
  split <;> omega
theorem cnd_t {p : Prop} [Decidable p] {α : Type} {a b : α} (h : p) : cond (decide p) a b = a := by rw [decide_eq_true h]; rfl
theorem cnd_f {p : Prop} [Decidable p] {α : Type} {a b : α} (h : ¬ p) : cond (decide p) a b = b := by rw [decide_eq_false h]; rfl
theorem beq_t {x y : Int} {α : Type} {a b : α} (h : x = y) : cond (x == y) a b = a := by rw [h]; simp
theorem beq_f {x y : Int} {α : Type} {a b : α} (h : x ≠ y) : cond (x == y) a b = b := by rw [beq_false_of_ne h]; rfl
theorem bne_t {x y : Int} {α : Type} {a b : α} (h : x ≠ y) : cond (x != y) a b = a := by rw [bne_iff_ne.2 h]; rfl
theorem bne_f {x y : Int} {α : Type} {a b : α} (h : x = y) : cond (x != y) a b = b := by rw [h]; simp
theorem bits_nat {a b : Nat} (ha : a < 9223372036854775808) (hb : b < 9223372036854775808) :
    Go.bits .and .i64 (a : Int) (b : Int) = ((a &&& b : Nat) : Int) ∧ Go.bits .or .i64 (a : Int) (b : Int) = ((a ||| b : Nat) : Int) ∧ Go.bits .xor .i64 (a : Int) (b : Int) = ((a ^^^ b : Nat) : Int) := by
  have ha' : a < 2 ^ 63 := ha
  have hb' : b < 2 ^ 63 := hb
  have e1 : (BitVec.ofInt 64 (a : Int)).toNat = a := by rw [BitVec.ofInt_natCast, BitVec.toNat_ofNat]; exact Nat.mod_eq_of_lt (by omega)
  have e2 : (BitVec.ofInt 64 (b : Int)).toNat = b := by rw [BitVec.ofInt_natCast, BitVec.toNat_ofNat]; exact Nat.mod_eq_of_lt (by omega)
  have h1 : a &&& b < 2 ^ 63 := Nat.and_lt_two_pow _ hb'
  have h2 : a ||| b < 2 ^ 63 := Nat.or_lt_two_pow ha' hb'
  have h3 : a ^^^ b < 2 ^ 63 := Nat.xor_lt_two_pow ha' hb'
  refine ⟨?_, ?_, ?_⟩
  · show IntKind.i64.wrap ((BitVec.ofInt 64 (a : Int) &&& BitVec.ofInt 64 (b : Int) : BitVec 64).toNat : Int) = _
    rw [BitVec.toNat_and, e1, e2]
    exact i64w (by omega) (by omega)
  · show IntKind.i64.wrap ((BitVec.ofInt 64 (a : Int) ||| BitVec.ofInt 64 (b : Int) : BitVec 64).toNat : Int) = _
    rw [BitVec.toNat_or, e1, e2]
    exact i64w (by omega) (by omega)
  · show IntKind.i64.wrap ((BitVec.ofInt 64 (a : Int) ^^^ BitVec.ofInt 64 (b : Int) : BitVec 64).toNat : Int) = _
    rw [BitVec.toNat_xor, e1, e2]
    exact i64w (by omega) (by omega)
theorem xor_nn {x y : Int} (hx : 0 ≤ x) (hx' : x < 9223372036854775808) (hy : 0 ≤ y) (hy' : y < 9223372036854775808) : 0 ≤ Go.bits .xor .i64 x y := by
  obtain ⟨a, rfl⟩ := Int.eq_ofNat_of_zero_le hx
  obtain ⟨b, rfl⟩ := Int.eq_ofNat_of_zero_le hy
  rw [(bits_nat (a := a) (b := b) (by omega) (by omega)).2.2]
  omega
/-- The bytes of a code. -/
def Bytes (l : List Int) : Prop := ∀ x ∈ l, 0 ≤ x ∧ x ≤ 255
theorem Bytes.get {l : List Int} (h : Bytes l) (i : Nat) : 0 ≤ l.getD i 0 ∧ l.getD i 0 ≤ 255 := by
  rw [List.getD_eq_getElem?_getD]
  cases hx : l[i]? with
  | none => simp
  | some x => exact h x (List.mem_of_getElem? hx)
end FN
/-! Loops, bits, truths. -/
namespace FN
open Go
theorem advN {P : Nat → Prop} {n : Nat} (hn : P n) (h : ∀ i, i < n → P (i + 1) → P i) : ∀ a, a ≤ n → P a := by
  intro a ha
  obtain ⟨d, rfl⟩ : ∃ d, n = a + d := ⟨n - a, by omega⟩
  induction d generalizing a with
  | zero => exact hn
  | succ d ih => exact h a (by omega) (ih (a + 1) (by rw [show a + 1 + d = a + (d + 1) by omega]; exact hn) (fun i hi => h i (by omega)) (by omega))
theorem w1 {i n : Nat} (h : i < n) (hn : n ≤ 4611686018427387904) : IntKind.i64.wrap ((i : Int) + 1) = ((i + 1 : Nat) : Int) := by
  rw [i64w (n := (i : Int) + 1) (by omega) (by omega)]; omega
theorem wsub {i : Int} (h : -4611686018427387904 ≤ i) (h' : i ≤ 4611686018427387904) : IntKind.i64.wrap (i - 1) = i - 1 := i64w (by omega) (by omega)
theorem gN {l : List Int} (i : Nat) : List.getD l ((i : Int)).toNat 0 = l.getD i 0 := by simp
theorem inN {i n : Nat} (h : i < n) : (0 : Int) ≤ (i : Int) ∧ (i : Int) < (n : Int) := ⟨by omega, by omega⟩
theorem and1 (y : Int) : Go.bits .and .i64 y 1 = y % 2 := by
  show IntKind.i64.wrap ((BitVec.ofInt 64 y &&& BitVec.ofInt 64 1 : BitVec 64).toNat : Int) = _
  rw [BitVec.toNat_and, BitVec.toNat_ofInt]
  have h1 : (BitVec.ofInt 64 1).toNat = 1 := by decide
  rw [h1, Nat.and_one_is_mod]
  rw [i64w (n := (((y % (2 ^ 64 : Nat)).toNat % 2 : Nat) : Int)) (by omega) (by omega)]
  omega
/-- A bit of a number. -/
def bt (x : Int) (i : Nat) : Int := x / 2 ^ i % 2
theorem bt01 (x : Int) (i : Nat) : bt x i = 0 ∨ bt x i = 1 := by unfold bt; omega
theorem fd (x : Int) {i : Nat} (h : i ≤ 64) : Int.fdiv x (2 ^ min ((i : Int)).toNat IntKind.i64.bits) = x / 2 ^ i := by
  rw [Int.toNat_natCast, show min i IntKind.i64.bits = i from Nat.min_eq_left h]
  exact Int.fdiv_eq_ediv_of_nonneg _ (Int.le_of_lt (Int.pow_pos (by omega)))
theorem bit_and (x : Int) {i : Nat} (h : i ≤ 64) : Go.bits .and .i64 (Int.fdiv x (2 ^ min ((i : Int)).toNat IntKind.i64.bits)) 1 = bt x i := by
  rw [fd x h, and1]; rfl
theorem bit_mod {x : Int} (hx : 0 ≤ x) {i : Nat} (h : i ≤ 64) : Int.tmod (Int.fdiv x (2 ^ min ((i : Int)).toNat IntKind.i64.bits)) 2 = bt x i := by
  rw [fd x h]
  have : 0 ≤ x / 2 ^ i := Int.ediv_nonneg hx (Int.le_of_lt (Int.pow_pos (by omega)))
  rw [Int.tmod_eq_emod_of_nonneg this]; rfl
theorem sh1 {n : Nat} (h : n ≤ 62) : IntKind.i64.wrap (1 * 2 ^ min ((n : Int)).toNat IntKind.i64.bits) = 2 ^ n := by
  rw [Int.toNat_natCast, show min n IntKind.i64.bits = n from Nat.min_eq_left (by show n ≤ 64; omega), Int.one_mul]
  have : (2 : Int) ^ n ≤ 2 ^ 62 := by
    have := Nat.pow_le_pow_right (show 0 < 2 by omega) h
    exact_mod_cast this
  have : (0 : Int) < 2 ^ n := Int.pow_pos (by omega)
  exact i64w (by omega) (by omega)
theorem pow6 {n : Nat} (h : n ≤ 6) : (2 : Int) ^ n ≤ 64 ∧ 1 ≤ (2 : Int) ^ n := by
  obtain rfl | rfl | rfl | rfl | rfl | rfl | rfl : n = 0 ∨ n = 1 ∨ n = 2 ∨ n = 3 ∨ n = 4 ∨ n = 5 ∨ n = 6 := by omega
  all_goals decide
/-- It comes to a truth, that of Q. -/
def Tells (g : Option Bool) (Q : Prop) : Prop := ∃ r, g = some r ∧ (r = true ↔ Q)
theorem Tells.iff {g : Option Bool} {Q Q' : Prop} (k : Tells g Q) (h : Q ↔ Q') : Tells g Q' := by
  obtain ⟨r, h1, h2⟩ := k
  exact ⟨r, h1, h2.trans h⟩
theorem Tells.eq {g f : Option Bool} {Q : Prop} (h : g = f) (k : Tells f Q) : Tells g Q := h ▸ k
theorem Tells.no {Q : Prop} (h : ¬ Q) : Tells (some false) Q := ⟨false, rfl, by simp [h]⟩
theorem Tells.yes {Q : Prop} (h : Q) : Tells (some true) Q := ⟨true, rfl, by simp [h]⟩
theorem Tells.now {b : Bool} : Tells (some b) (b = true) := ⟨b, rfl, Iff.rfl⟩
theorem Tells.dec {Q : Prop} [Decidable Q] : Tells (some (decide Q)) Q := ⟨_, rfl, by simp⟩
theorem Tells.val {g : Option Bool} {Q : Prop} [Decidable Q] (k : Tells g Q) : g = some (decide Q) := by
  obtain ⟨r, h1, h2⟩ := k
  have : r = decide Q := by rw [Bool.eq_iff_iff]; simpa using h2
  exact this ▸ h1
theorem l1In_val (n a b : Int) : s_l1In_f (n, a, b) = some (decide (a ≤ n ∧ n ≤ b)) := by
  rw [s_l1In_f_eq]
  by_cases h : a ≤ n
  · rw [cnd_t h]; simp [h]
  · rw [cnd_f h]; simp [h]
end FN
/-! Numerals of two digits. -/
namespace FN
open Go
/-- The one-digit text; the last digit. -/
def dg1 (n : Int) : ByteArray := strOfNums ([(IntKind.u8.wrap (IntKind.i64.wrap (48 + (if 0 > n then 0 else n))))] : List (Int))
def dgL (n : Int) : ByteArray := strOfNums ([(IntKind.u8.wrap (IntKind.i64.wrap (48 + (Int.tmod n 10))))] : List (Int))
theorem ba_ext {a b : ByteArray} (h : a.data.toList = b.data.toList) : a = b := by
  cases a; cases b; congr 1; exact Array.ext' h
theorem dg_all : (List.range 100).all (fun n => (if n < 10 then decide ((dg1 (n : Int)).data.toList = (itoaS (n : Int)).data.toList) else decide ((dg1 (IntKind.i64.wrap (Int.tdiv (n : Int) 10)) ++ dgL (n : Int)).data.toList = (itoaS (n : Int)).data.toList)) && decide ((itoaS (n : Int)).size ≤ 2) && decide ((dg1 (IntKind.i64.wrap (Int.tdiv (n : Int) 10))).size + (dgL (n : Int)).size ≤ 10)) = true := by kernel_rfl
theorem dg_at {n : Int} (h0 : 0 ≤ n) (h1 : n < 100) : (if n < 10 then dg1 n = itoaS n else dg1 (IntKind.i64.wrap (Int.tdiv n 10)) ++ dgL n = itoaS n) ∧ (itoaS n).size ≤ 2 ∧ (dg1 (IntKind.i64.wrap (Int.tdiv n 10))).size + (dgL n).size ≤ 10 := by
  obtain ⟨m, rfl⟩ : ∃ m : Nat, n = m := ⟨n.toNat, by omega⟩
  have h := List.all_eq_true.1 dg_all m (List.mem_range.2 (by omega))
  simp only [Bool.and_eq_true, decide_eq_true_eq] at h
  obtain ⟨⟨h2, h3⟩, h4⟩ := h
  refine ⟨?_, h3, h4⟩
  by_cases c : m < 10
  · rw [if_pos c] at h2; rw [if_pos (by omega)]; exact ba_ext (of_decide_eq_true h2)
  · rw [if_neg c] at h2; rw [if_neg (by omega)]; exact ba_ext (of_decide_eq_true h2)
theorem num_g0 (x : Int) : s_l1Number_g 0 x = none := rfl
theorem num_low (k : Nat) {n : Int} (h : n < 10) : s_l1Number_g (k + 1) n = some (dg1 n) := by
  rw [s_l1Number_g_eq, cnd_t h]
  rfl
theorem num_two (k : Nat) {n : Int} (h0 : 10 ≤ n) (h1 : n < 100) : s_l1Number_g (k + 2) n = some (dg1 (IntKind.i64.wrap (Int.tdiv n 10)) ++ dgL n) := by
  have hd : IntKind.i64.wrap (Int.tdiv n 10) < 10 := by
    rw [Int.tdiv_eq_ediv_of_nonneg (by omega), i64w (by omega) (by omega)]
    omega
  rw [s_l1Number_g_eq, cnd_f (by omega), num_low k hd, Option.bind_some]
  have := (dg_at (show 0 ≤ n by omega) h1).2.2
  exact if_pos (show (dg1 (IntKind.i64.wrap (Int.tdiv n 10))).size + (dgL n).size ≤ 9223372036854775807 by omega)
theorem num_val {n : Int} (h0 : 0 ≤ n) (h1 : n < 100) : s_l1Number_f n = some (itoaS n) := by
  have ha := (dg_at h0 h1).1
  by_cases c : n < 10
  · rw [if_pos c] at ha
    refine lim_of ⟨1, (num_low 0 c).trans (by rw [ha])⟩ fun k r hk => ?_
    cases k with
    | zero => rw [num_g0] at hk; cases hk
    | succ k => rw [num_low k c, ha] at hk; exact (Option.some.inj hk).symm
  · rw [if_neg c] at ha
    refine lim_of ⟨2, (num_two 0 (by omega) h1).trans (by rw [ha])⟩ fun k r hk => ?_
    match k with
    | 0 => rw [num_g0] at hk; cases hk
    | 1 =>
      rw [s_l1Number_g_eq, cnd_f c, num_g0] at hk
      cases hk
    | k + 2 => rw [num_two k (by omega) h1, ha] at hk; exact (Option.some.inj hk).symm
theorem itoa_size {n : Int} (h0 : 0 ≤ n) (h1 : n < 100) : (itoaS n).size ≤ 2 := (dg_at h0 h1).2.1
theorem itoa_val {n : Int} (h0 : 0 ≤ n) (h1 : n < 100) : x_strconv_Itoa_f n = some (itoaS n) := if_pos ⟨h0, h1⟩
end FN
namespace FN
open Go
theorem joinT : str10 ++ str1 = str0 := rfl
theorem lightS : str11 ++ str1 = str2 := rfl
theorem kindsS : str12 ++ str1 = str3 := rfl
theorem szs : ByteArray.size str0 = 5 ∧ ByteArray.size str1 = 1 ∧ ByteArray.size str2 = 6 ∧ ByteArray.size str3 = 6 ∧ ByteArray.size str10 = 4 ∧ ByteArray.size str11 = 5 ∧ ByteArray.size str12 = 5 := ⟨rfl, rfl, rfl, rfl, rfl, rfl, rfl⟩
theorem deedText_same (k a b : Int) : ∃ s, s_DeedText_f (k, a, b) = some s ∧ i_DeedText_f (k, a, b) = some s ∧ s.size ≤ 20 := by
  rw [s_DeedText_f_eq, i_DeedText_f_eq, l1In_val, Option.bind_some]
  by_cases ha : 0 ≤ a ∧ a ≤ 99
  · rw [decide_eq_true ha, l1In_val, Option.bind_some, cnd_f (show ¬ a < 0 by omega), cnd_f (show ¬ 99 < a by omega), Bool.not_true, cond_false]
    by_cases hb : 0 ≤ b ∧ b ≤ 99
    · rw [decide_eq_true hb, cnd_f (show ¬ b < 0 by omega), cnd_f (show ¬ 99 < b by omega), Bool.not_true, cond_false]
      obtain ⟨z0, z1, z2, z3, z10, z11, z12⟩ := szs
      have sa := itoa_size ha.1 (show a < 100 by omega)
      have sb := itoa_size hb.1 (show b < 100 by omega)
      have na := num_val ha.1 (show a < 100 by omega)
      have nb := num_val hb.1 (show b < 100 by omega)
      have ia := itoa_val ha.1 (show a < 100 by omega)
      have ib := itoa_val hb.1 (show b < 100 by omega)
      rw [ia, Option.bind_some, if_pos (by rw [z1]; omega)]
      by_cases k0 : k = 0
      · subst k0
        refine ⟨((str0 ++ itoaS a) ++ str1) ++ itoaS b, ?_, ?_, by rw [ByteArray.size_append, ByteArray.size_append, ByteArray.size_append, z0, z1]; omega⟩
        · simp only [beq_self_eq_true, Bool.true_and, cond_true]
          rw [na, Option.bind_some, if_pos (by rw [z0]; omega), if_pos (by rw [ByteArray.size_append, z0, z1]; omega), nb, Option.bind_some, if_pos (by rw [ByteArray.size_append, ByteArray.size_append, z0, z1]; omega)]
        · rw [show ((0 : Int) == 0) = true from rfl, cond_true, if_pos (by rw [ByteArray.size_append, z10, z1]; omega), if_pos (by rw [ByteArray.size_append, ByteArray.size_append, z10, z1]; omega), ib, Option.bind_some, if_pos (by rw [ByteArray.size_append, ByteArray.size_append, ByteArray.size_append, z10, z1]; omega), ← ByteArray.append_assoc, joinT]
      · have e0 : (k == 0) = false := by simpa using k0
        rw [e0]
        simp only [Bool.false_and, cond_false, beq_self_eq_true, Bool.true_and, Bool.and_true]
        by_cases hb0 : b = 0
        · subst hb0
          simp only [bne_self_eq_false, cond_false, beq_self_eq_true, Bool.and_true]
          by_cases k1 : k = 1
          · subst k1
            refine ⟨str2 ++ itoaS a, ?_, ?_, by rw [ByteArray.size_append, z2]; omega⟩
            · rw [show ((1 : Int) == 1) = true from rfl, cond_true, na, Option.bind_some, if_pos (by rw [z2]; omega)]
            · rw [show ((1 : Int) == 1) = true from rfl, cond_true, if_pos (by rw [ByteArray.size_append, z11, z1]; omega), ← ByteArray.append_assoc, lightS]
          · have e1 : (k == 1) = false := by simpa using k1
            rw [e1]
            simp only [cond_false]
            by_cases k3 : k = 3
            · subst k3
              refine ⟨str3 ++ itoaS a, ?_, ?_, by rw [ByteArray.size_append, z3]; omega⟩
              · rw [show ((3 : Int) == 3) = true from rfl, cond_true, na, Option.bind_some, if_pos (by rw [z3]; omega)]
              · rw [show ((3 : Int) == 3) = true from rfl, cond_true, if_pos (by rw [ByteArray.size_append, z12, z1]; omega), ← ByteArray.append_assoc, kindsS]
            · have e3 : (k == 3) = false := by simpa using k3
              rw [e3]
              simp only [cond_false]
              by_cases ha0 : a = 0
              · subst ha0
                simp only [bne_self_eq_false, cond_false, beq_self_eq_true, Bool.and_true]
                by_cases k2 : k = 2
                · subst k2; exact ⟨str4, rfl, rfl, by decide⟩
                · have e2 : (k == 2) = false := by simpa using k2
                  rw [e2]
                  by_cases k4 : k = 4
                  · subst k4; exact ⟨str5, rfl, rfl, by decide⟩
                  · have e4 : (k == 4) = false := by simpa using k4
                    rw [e4]
                    exact ⟨_, rfl, rfl, by decide⟩
              · have ea : (a == 0) = false := by simpa using ha0
                have ea' : (a != 0) = true := by simpa using ha0
                rw [ea, ea']
                simp only [Bool.and_false, cond_false, cond_true]
                exact ⟨_, rfl, rfl, by decide⟩
        · have eb : (b == 0) = false := by simpa using hb0
          have eb' : (b != 0) = true := by simpa using hb0
          rw [eb, eb']
          simp only [Bool.and_false, cond_false, cond_true]
          exact ⟨_, rfl, rfl, by decide⟩
    · rw [decide_eq_false hb]
      by_cases c : b < 0
      · rw [cnd_t c]; exact ⟨_, rfl, rfl, by decide⟩
      · rw [cnd_f c, cnd_t (show 99 < b by omega)]; exact ⟨_, rfl, rfl, by decide⟩
  · rw [decide_eq_false ha]
    by_cases c : a < 0
    · rw [cnd_t c]; exact ⟨_, rfl, rfl, by decide⟩
    · rw [cnd_f c, cnd_t (show 99 < a by omega)]; exact ⟨_, rfl, rfl, by decide⟩
end FN
/-! Texts cut at a byte. -/
namespace FN
open Go
def cutL (c : UInt8) : List UInt8 → List (List UInt8)
  | [] => [[]]
  | x :: l => if x = c then [] :: cutL c l else match cutL c l with
    | [] => [[x]]
    | y :: ys => (x :: y) :: ys
theorem cutL_ne (c : UInt8) : ∀ l, cutL c l ≠ []
  | [] => by simp [cutL]
  | x :: l => by
    unfold cutL
    split
    · simp
    · split <;> simp
/-- A beginning put ahead of the first part. -/
def preL (p : List UInt8) : List (List UInt8) → List (List UInt8)
  | [] => [p]
  | y :: ys => (p ++ y) :: ys
theorem cutL_eq (c : UInt8) (l : List UInt8) : cutL c (c :: l) = [] :: cutL c l := by simp [cutL]
theorem cutL_neq {c x : UInt8} (h : x ≠ c) (l : List UInt8) : cutL c (x :: l) = preL [x] (cutL c l) := by
  rw [cutL, if_neg h]
  cases hh : cutL c l with
  | nil => exact absurd hh (cutL_ne c l)
  | cons y ys => rfl
theorem preL_preL (p q : List UInt8) (z : List (List UInt8)) : preL p (preL q z) = preL (p ++ q) z := by
  cases z with
  | nil => rfl
  | cons y ys => simp [preL, List.append_assoc]
theorem preL_nil {z : List (List UInt8)} (h : z ≠ []) : preL [] z = z := by
  cases z with
  | nil => exact absurd rfl h
  | cons y ys => rfl
/-- No such byte in what is ahead. -/
theorem cutL_pre {c : UInt8} : ∀ (a : List UInt8), c ∉ a → ∀ b, cutL c (a ++ b) = preL a (cutL c b)
  | [], _, b => (preL_nil (cutL_ne c b)).symm
  | x :: a, h, b => by
    have h1 : x ≠ c := fun e => h (by rw [e]; simp)
    have h2 : c ∉ a := fun e => h (by simp [e])
    rw [List.cons_append, cutL_neq h1, cutL_pre a h2 b, preL_preL]
    rfl
theorem cutL_one {c : UInt8} {a : List UInt8} (h : c ∉ a) : cutL c a = [a] := by
  have := cutL_pre a h []
  rw [List.append_nil] at this
  rw [this]
  simp [cutL, preL]
theorem cutL_sep {c : UInt8} {a : List UInt8} (h : c ∉ a) (b : List UInt8) : cutL c (a ++ c :: b) = a :: cutL c b := by
  rw [cutL_pre a h, cutL_eq]
  simp [preL]
theorem cutL_no (c : UInt8) : ∀ l, ∀ a ∈ cutL c l, c ∉ a
  | [], a, h => by simp [cutL] at h; simp [h]
  | x :: l, a, h => by
    by_cases hx : x = c
    · subst hx
      rw [cutL_eq] at h
      rcases List.mem_cons.1 h with h | h
      · subst h; simp
      · exact cutL_no x l a h
    · rw [cutL_neq hx] at h
      cases hz : cutL c l with
      | nil => exact absurd hz (cutL_ne c l)
      | cons y ys =>
        rw [hz] at h
        have h0 := cutL_no c l
        rw [hz] at h0
        simp only [preL, List.mem_cons] at h
        rcases h with h | h
        · subst h
          have := h0 y (by simp)
          simp [Ne.symm hx, this]
        · exact h0 a (by simp [h])
/-- The library's cut is this one. -/
theorem splitK_cut (c : UInt8) : ∀ l : List UInt8, Lib.splitK [c] 0 (Lib.count l [c]) l = cutL c l
  | [] => by rw [Lib.count_miss (by simp [Lib.index])]; rfl
  | x :: l => by
    have ih := splitK_cut c l
    by_cases h : x = c
    · subst h
      have hix : Lib.index (x :: l) [x] = ((0 : Nat) : Int) := by rw [Lib.index]; simp [List.isPrefixOf]
      rw [Lib.count_cons_eq, Nat.add_comm, Lib.splitK, hix, cutL_eq]
      simp only [List.length_cons, List.length_nil, Nat.zero_add, List.drop_succ_cons, List.drop_zero]
      rw [if_neg (by simp)]
      simp only [show ((0 : Nat) : Int).toNat = 0 from rfl, Nat.add_zero, List.take_zero, List.drop_zero]
      rw [ih]
    · have hp : ([c] : List UInt8).isPrefixOf (x :: l) = false := by simp [List.isPrefixOf, Ne.symm h]
      have hix : Lib.index (x :: l) [c] = if Lib.index l [c] == -1 then -1 else Lib.index l [c] + 1 := by rw [Lib.index, hp]; simp
      rw [Lib.count_cons_ne x c l h, cutL_neq h, ← ih]
      cases hk : Lib.count l [c] with
      | zero => rfl
      | succ k =>
        by_cases hm : Lib.index l [c] = -1
        · rw [Lib.count_miss hm] at hk; cases hk
        · have hge := Lib.index_ge l [c]
          obtain ⟨j, hj⟩ : ∃ j : Nat, Lib.index l [c] = j := ⟨(Lib.index l [c]).toNat, by omega⟩
          rw [Lib.splitK, Lib.splitK, hix, if_neg (by rw [if_neg (by simpa using hm)]; simp; omega), if_neg (by simpa using hm), if_neg (by simpa using hm), hj]
          rw [show ((j : Int) + 1).toNat = j + 1 by omega, show (j : Int).toNat = j by omega]
          simp [preL]
def ofL (l : List UInt8) : ByteArray := ⟨l.toArray⟩
theorem ofL_data (l : List UInt8) : (ofL l).data.toList = l := rfl
theorem of_data (b : ByteArray) : ofL b.data.toList = b := by cases b; simp [ofL]
theorem ofL_size (l : List UInt8) : (ofL l).size = l.length := by simp [ofL, ByteArray.size]
theorem ofL_inj {a b : List UInt8} (h : ofL a = ofL b) : a = b := by
  have := congrArg (fun x : ByteArray => x.data.toList) h
  exact this
theorem toL (b : ByteArray) : b.toList = b.data.toList := by rw [ByteArray.toList_eq]
theorem ofL_app (a b : List UInt8) : ofL a ++ ofL b = ofL (a ++ b) := by
  rw [← of_data (ofL a ++ ofL b)]
  congr 1
theorem map_data : ∀ {a b : List ByteArray}, a.map (·.data.toList) = b.map (·.data.toList) → a = b
  | [], [], _ => rfl
  | x :: a, y :: b, h => by
    simp only [List.map_cons, List.cons.injEq] at h
    rw [map_data h.2, ← of_data x, ← of_data y, h.1]
theorem splitS_cut (s : ByteArray) (c : UInt8) : Lib.splitB ⟨#[c]⟩ 0 (Lib.countB s ⟨#[c]⟩) s = (cutL c s.data.toList).map ofL := by
  apply map_data
  rw [Lib.splitB_data]
  have : (List.map ofL (cutL c s.data.toList)).map (·.data.toList) = cutL c s.data.toList := by
    rw [List.map_map]
    exact (List.map_congr_left fun a _ => ofL_data a).trans (List.map_id _)
  rw [this, ← splitK_cut]
theorem cutL_len (c : UInt8) : ∀ l : List UInt8, (cutL c l).length ≤ l.length + 1
  | [] => by simp [cutL]
  | x :: l => by
    have := cutL_len c l
    by_cases h : x = c
    · subst h; rw [cutL_eq]; simp; omega
    · rw [cutL_neq h]
      cases hz : cutL c l with
      | nil => exact absurd hz (cutL_ne c l)
      | cons y ys => rw [hz] at this; simp [preL] at this ⊢; omega
theorem ext_of (l : List UInt8) (a b : Nat) : (ofL l).extract a b = ofL ((l.take b).drop a) := by
  rw [← of_data ((ofL l).extract a b)]
  congr 1
  rw [Lib.extract_data, ofL_data, List.take_drop]
  rcases Nat.le_total a b with h | h
  · rw [show a + (b - a) = b by omega]
  · rw [List.drop_eq_nil_of_le (by rw [List.length_take]; omega), List.drop_eq_nil_of_le (by rw [List.length_take]; omega)]
end FN
/-! Both cuts, and digits. -/
namespace FN
open Go
theorem cut_loop (L : List UInt8) (c : UInt8) (hL : L.length ≤ 1099511627776) : ∀ k, k ≤ L.length → ∀ (f : Nat) (out : List ByteArray), f ≤ k → out.length ≤ k →
    s_l1Cut_l0 (ofL L) (c.toNat : Int) (f : Int) (k : Int) out = some (out ++ (preL ((L.take k).drop f) (cutL c (L.drop k))).map ofL) := by
  refine advN ?_ fun k hk ih => ?_
  · intro f out hf ho
    rw [s_l1Cut_l0_eq, ofL_size, cnd_f (by omega), s_l1Cut_j1_eq, ofL_size, if_pos ⟨by omega, by omega⟩, if_pos (by simp; omega), ext_of, Int.toNat_natCast]
    simp [cutL, preL]
  · intro f out hf ho
    have hx : L.drop k = L[k] :: L.drop (k + 1) := List.drop_eq_getElem_cons hk
    have hg : List.getD (ByteArray.data (ofL L)).toList ((k : Int)).toNat 0 = L[k] := by
      rw [ofL_data, Int.toNat_natCast, List.getD_eq_getElem?_getD, List.getElem?_eq_getElem hk]; rfl
    rw [s_l1Cut_l0_eq, ofL_size, cnd_t (by omega), if_pos ⟨by omega, by omega⟩, hg, hx, w1 hk (by omega)]
    by_cases hc : L[k] = c
    · rw [beq_t (by rw [hc]), if_pos ⟨by omega, by omega⟩, if_pos ⟨by omega, by omega⟩, if_pos (by simp; omega), ext_of, Int.toNat_natCast, Int.toNat_natCast, ih (k + 1) _ (by omega) (by simp; omega), hc, cutL_eq]
      have e : (L.take (k + 1)).drop (k + 1) = [] := List.drop_eq_nil_of_le (by rw [List.length_take]; omega)
      rw [e, preL_nil (cutL_ne _ _)]
      simp [preL]
    · have hne : (L[k].toNat : Int) ≠ (c.toNat : Int) := fun h => hc (UInt8.toNat_inj.1 (by omega))
      rw [beq_f hne, ih f out (by omega) (by omega), cutL_neq hc, preL_preL]
      have e : (L.take (k + 1)).drop f = (L.take k).drop f ++ [L[k]] := by
        rw [List.take_succ_eq_append_getElem hk, List.drop_append_of_le_length (by rw [List.length_take]; omega)]
      rw [e]
theorem cut_val (L : List UInt8) (c : UInt8) (hL : L.length ≤ 1099511627776) : s_l1Cut_f (ofL L, (c.toNat : Int)) = some ((cutL c L).map ofL) := by
  rw [s_l1Cut_f_eq]
  have := cut_loop L c hL 0 (by omega) 0 [] (by omega) (by simp)
  simp only [List.take_zero, List.drop_nil, List.drop_zero, List.nil_append] at this
  rw [preL_nil (cutL_ne _ _)] at this
  exact this
theorem split_val (L : List UInt8) (c : UInt8) (hL : L.length ≤ 4294967280) : x_strings_Split_f (ofL L, ⟨#[c]⟩) = some ((cutL c L).map ofL) := by
  have e : splitS (ofL L) ⟨#[c]⟩ = (cutL c L).map ofL := splitS_cut (ofL L) c
  have h1 : 1 ≤ (⟨#[c]⟩ : ByteArray).size := Nat.le_refl 1
  have hl : (splitS (ofL L) ⟨#[c]⟩).length = Lib.countB (ofL L) ⟨#[c]⟩ + 1 := Lib.splitB_all _ h1 0 _ _ rfl
  have hlen := cutL_len c L
  unfold x_strings_Split_f
  simp only
  rw [if_pos, e]
  refine ⟨by rw [ofL_size]; omega, h1, hl.symm, ?_⟩
  rw [e, List.length_map]
  show _ ≤ 9223372036854775807
  omega
def dig (x : UInt8) : Int := (x.toNat : Int) - 48
theorem u8lt (x : UInt8) : x.toNat < 256 := x.toNat_lt
theorem dW (x : UInt8) : IntKind.i64.wrap (IntKind.i64.wrap (x.toNat : Int) - 48) = dig x := by
  have := u8lt x
  rw [i64w (n := (x.toNat : Int)) (by omega) (by omega), i64w (by omega) (by omega)]
  rfl
theorem u8w {n : Int} (h0 : 0 ≤ n) (h1 : n ≤ 255) : IntKind.u8.wrap n = n := by
  simp [IntKind.wrap, IntKind.bits, IntKind.signed]
  omega
/-- A byte as a digit. -/
theorem dgt {L : List UInt8} {k : Nat} (hk : k < L.length) : List.getD (ByteArray.data (ofL L)).toList ((k : Int)).toNat 0 = L[k] := by
  rw [ofL_data, Int.toNat_natCast, List.getD_eq_getElem?_getD, List.getElem?_eq_getElem hk]; rfl
theorem digits_step {L : List UInt8} {k : Nat} (hk : k < L.length) (hl : L.length ≤ 6) {n : Int} (hn : 0 ≤ n) (hn' : n ≤ 1000000) : s_l1Digits_l0 (ofL L) n (k : Int) = if 48 ≤ L[k].toNat ∧ L[k].toNat ≤ 57 then s_l1Digits_l0 (ofL L) (10 * n + dig L[k]) ((k + 1 : Nat) : Int) else some (-1) := by
  have hb := u8lt L[k]
  rw [s_l1Digits_l0_eq, ofL_size, cnd_t (by omega), if_pos (inN hk), dgt hk, if_pos (inN hk), if_pos (inN hk), w1 hk (by omega)]
  by_cases h1 : 48 ≤ L[k].toNat
  · rw [cnd_f (by omega)]
    by_cases h2 : L[k].toNat ≤ 57
    · rw [cnd_f (by omega), if_pos ⟨h1, h2⟩, u8w (by omega) (by omega), i64w (n := 10 * n) (by omega) (by omega), i64w (n := (L[k].toNat : Int) - 48) (by omega) (by omega), i64w (by omega) (by omega)]
      rfl
    · rw [cnd_t (by omega), if_neg (by omega)]
  · rw [cnd_t (by omega), if_neg (by omega)]
theorem digits_end {L : List UInt8} {n : Int} : s_l1Digits_l0 (ofL L) n (L.length : Int) = some n := by
  rw [s_l1Digits_l0_eq, ofL_size, cnd_f (by omega)]
theorem digits_one (x : UInt8) : s_l1Digits_f (ofL [x]) = some (if 48 ≤ x.toNat ∧ x.toNat ≤ 57 then dig x else -1) := by
  rw [s_l1Digits_f_eq, ofL_size, l1In_val, Option.bind_some, cnd_f (show ¬ (1 : Int) < (([x] : List UInt8).length : Int) by simp)]
  rw [show (!decide (1 ≤ (([x] : List UInt8).length : Int) ∧ (([x] : List UInt8).length : Int) ≤ 6)) = false from rfl, cond_false]
  have h := digits_step (L := [x]) (k := 0) (by simp) (by simp) (n := 0) (by omega) (by omega)
  have e := digits_end (L := [x]) (n := 10 * 0 + dig x)
  refine h.trans ?_
  by_cases hc : 48 ≤ x.toNat ∧ x.toNat ≤ 57
  · rw [if_pos hc]
    refine (if_pos (show 48 ≤ ([x] : List UInt8)[0].toNat ∧ ([x] : List UInt8)[0].toNat ≤ 57 from hc)).trans (e.trans ?_)
    rw [Int.mul_zero, Int.zero_add]
  · rw [if_neg hc]
    exact if_neg (show ¬ (48 ≤ ([x] : List UInt8)[0].toNat ∧ ([x] : List UInt8)[0].toNat ≤ 57) from hc)
theorem digits_more {L : List UInt8} (h2 : 2 ≤ L.length) (h6 : L.length ≤ 6) : ∀ k, k ≤ L.length → ∀ n : Int, (2 ≤ k → 10 ≤ n) → (k = 1 → 1 ≤ n) → (k = 0 → n = 0 ∧ ∀ h : 0 < L.length, L[0].toNat ≠ 48) → 0 ≤ n → n + 1 ≤ ((10 ^ k : Nat) : Int) → ∃ v : Int, s_l1Digits_l0 (ofL L) n (k : Int) = some v ∧ (v = -1 ∨ 10 ≤ v ∧ v ≤ 999999) := by
  refine advN ?_ fun k hk ih => ?_
  · intro n a1 _ _ _ a5
    refine ⟨n, digits_end, .inr ⟨a1 h2, ?_⟩⟩
    have : (10 : Nat) ^ L.length ≤ 10 ^ 6 := Nat.pow_le_pow_right (by omega) h6
    have e : (10 : Nat) ^ 6 = 1000000 := rfl
    omega
  · intro n a1 a2 a3 a4 a5
    have hp : (10 : Nat) ^ k ≤ 10 ^ 5 := Nat.pow_le_pow_right (by omega) (by omega)
    have e5 : (10 : Nat) ^ 5 = 100000 := rfl
    rw [digits_step hk h6 a4 (by omega)]
    split
    · rename_i hd
      have hdd : dig L[k] = (L[k].toNat : Int) - 48 := rfl
      have hps : (10 : Nat) ^ (k + 1) = 10 ^ k * 10 := Nat.pow_succ 10 k
      refine ih (10 * n + dig L[k]) (fun _ => ?_) (fun h => ?_) (fun h => by omega) (by omega) (by omega)
      · rcases Nat.eq_zero_or_pos k with h0 | h0
        · omega
        · rcases Nat.lt_or_ge k 2 with h1 | h1
          · have := a2 (by omega); omega
          · have := a1 h1; omega
      · have h0 : k = 0 := by omega
        subst h0
        have := (a3 rfl).2 (by omega)
        omega
    · exact ⟨-1, rfl, .inl rfl⟩
theorem digits_other {L : List UInt8} (h : L.length ≠ 1) : ∃ v : Int, s_l1Digits_f (ofL L) = some v ∧ (v = -1 ∨ 10 ≤ v ∧ v ≤ 999999) := by
  rw [s_l1Digits_f_eq, ofL_size, l1In_val, Option.bind_some]
  by_cases hl : 2 ≤ L.length ∧ L.length ≤ 6
  · rw [decide_eq_true (show 1 ≤ (L.length : Int) ∧ (L.length : Int) ≤ 6 by omega), Bool.not_true, cond_false, cnd_t (show (1 : Int) < (L.length : Int) by omega), if_pos (show (0 : Int) ≤ 0 ∧ (0 : Int) < (L.length : Int) by omega)]
    have h0 : 0 < L.length := by omega
    have hg := dgt (L := L) (k := 0) h0
    rw [show List.getD (ByteArray.data (ofL L)).toList ((0 : Int)).toNat 0 = L[0] from hg]
    by_cases c : L[0].toNat = 48
    · rw [beq_t (by omega)]; exact ⟨-1, rfl, .inl rfl⟩
    · rw [beq_f (by omega)]
      exact digits_more hl.1 hl.2 0 (by omega) 0 (fun h => by omega) (fun h => by omega) (fun _ => ⟨rfl, fun _ => c⟩) (by omega) (by simp)
  · rw [decide_eq_false (show ¬ (1 ≤ (L.length : Int) ∧ (L.length : Int) ≤ 6) by omega)]
    exact ⟨-1, rfl, .inl rfl⟩
end FN
/-! Nets, states, places: the program and the reference judge them alike. -/
namespace FN
open Go
structure NetP (l : List Int) : Prop where
  lo : 1 ≤ l.length
  hi : l.length ≤ 6
  rng : ∀ i, i < l.length → 0 ≤ l.getD i 0 ∧ l.getD i 0 < 2 ^ l.length
  sym : ∀ i, i < l.length → ∀ k, k < l.length → bt (l.getD i 0) k = bt (l.getD k 0) i
  self : ∀ i, i < l.length → bt (l.getD i 0) i = 0
instance (l : List Int) : Decidable (NetP l) :=
  decidable_of_iff (1 ≤ l.length ∧ l.length ≤ 6 ∧ (∀ i, i < l.length → 0 ≤ l.getD i 0 ∧ l.getD i 0 < 2 ^ l.length) ∧ (∀ i, i < l.length → ∀ k, k < l.length → bt (l.getD i 0) k = bt (l.getD k 0) i) ∧ (∀ i, i < l.length → bt (l.getD i 0) i = 0))
    ⟨fun ⟨a, b, c, d, e⟩ => ⟨a, b, c, d, e⟩, fun h => ⟨h.1, h.2, h.3, h.4, h.5⟩⟩
theorem inet_inner (l : List Int) (hn : l.length ≤ 6) (i : Nat) (hi : i < l.length) (x : Int) (Q : Prop)
    (hnext : Tells (i_NetOk_l0 l l (l.length : Int) ((i + 1 : Nat) : Int)) Q) : ∀ j, j ≤ l.length → Tells (i_NetOk_l1 l (i : Int) x l (l.length : Int) (i : Int) (l.length : Int) (j : Int)) ((∀ k, j ≤ k → k < l.length → bt x k = bt (l.getD k 0) i) ∧ Q) := by
  refine advN ?_ fun j hj ih => ?_
  · refine (Tells.eq ?_ hnext).iff ⟨fun h => ⟨fun k h1 h2 => by omega, h⟩, fun h => h.2⟩
    rw [i_NetOk_l1_eq, cnd_f (by omega), w1 hi (by omega)]
  · have e : i_NetOk_l1 l (i : Int) x l (l.length : Int) (i : Int) (l.length : Int) (j : Int) = cond (bt x j != bt (l.getD j 0) i) (some false) (i_NetOk_l1 l (i : Int) x l (l.length : Int) (i : Int) (l.length : Int) ((j + 1 : Nat) : Int)) := by
      rw [i_NetOk_l1_eq, cnd_t (by omega), if_neg (by omega), if_pos (inN hj), if_neg (by omega), bit_and x (by omega), gN, bit_and _ (by omega), w1 hj (by omega)]
    by_cases c : bt x j = bt (l.getD j 0) i
    · refine (Tells.eq (e.trans (bne_f c)) ih).iff ⟨fun h => ⟨fun k h1 h2 => ?_, h.2⟩, fun h => ⟨fun k h1 h2 => h.1 k (by omega) h2, h.2⟩⟩
      by_cases he : k = j
      · rw [he]; exact c
      · exact h.1 k (by omega) h2
    · exact Tells.eq (e.trans (bne_t c)) (Tells.no fun h => c (h.1 j (Nat.le_refl j) hj))
theorem inet_outer (l : List Int) (hn : l.length ≤ 6) : ∀ i, i ≤ l.length → Tells (i_NetOk_l0 l l (l.length : Int) (i : Int)) (∀ k, i ≤ k → k < l.length → (0 ≤ l.getD k 0 ∧ l.getD k 0 < 2 ^ l.length ∧ bt (l.getD k 0) k = 0) ∧ ∀ m, m < l.length → bt (l.getD k 0) m = bt (l.getD m 0) k) := by
  refine advN ?_ fun i hi ih => ?_
  · refine Tells.eq ?_ (Tells.yes fun k h1 h2 => by omega)
    rw [i_NetOk_l0_eq, cnd_f (by omega)]
  · have e : i_NetOk_l0 l l (l.length : Int) (i : Int) = cond (decide (l.getD i 0 < 0)) (some false) (cond (decide (2 ^ l.length ≤ l.getD i 0)) (some false) (cond (bt (l.getD i 0) i == 1) (some false) (i_NetOk_l1 l (i : Int) (l.getD i 0) l (l.length : Int) (i : Int) (l.length : Int) ((0 : Nat) : Int)))) := by
      rw [i_NetOk_l0_eq, cnd_t (by omega), if_pos (inN hi), if_neg (by omega), if_neg (by omega), sh1 (by omega), bit_and _ (by omega), gN]; rfl
    rw [e]
    by_cases a1 : l.getD i 0 < 0
    · rw [cnd_t a1]; exact Tells.no fun h => by have := (h i (Nat.le_refl i) hi).1.1; omega
    rw [cnd_f a1]
    by_cases a2 : 2 ^ l.length ≤ l.getD i 0
    · rw [cnd_t a2]; exact Tells.no fun h => by have := (h i (Nat.le_refl i) hi).1.2.1; omega
    rw [cnd_f a2]
    by_cases a3 : bt (l.getD i 0) i = 1
    · rw [beq_t a3]; exact Tells.no fun h => by have := (h i (Nat.le_refl i) hi).1.2.2; omega
    rw [beq_f a3]
    refine (inet_inner l hn i hi _ _ ih 0 (by omega)).iff ⟨fun h k h1 h2 => ?_, fun h => ⟨fun k _ h2 => (h i (Nat.le_refl i) hi).2 k h2, fun k h1 h2 => h k (by omega) h2⟩⟩
    by_cases he : k = i
    · subst he
      exact ⟨⟨by omega, by omega, by have := bt01 (l.getD k 0) k; omega⟩, fun m hm => h.1 m (by omega) hm⟩
    · exact h.2 k (by omega) h2
theorem inet (l : List Int) : i_NetOk_f l = some (decide (NetP l)) := by
  apply Tells.val
  rw [i_NetOk_f_eq]
  by_cases h1 : (l.length : Int) < 1
  · rw [cnd_t h1]; exact Tells.no fun h => by have := h.lo; omega
  rw [cnd_f h1]
  by_cases h2 : 6 < (l.length : Int)
  · rw [cnd_t h2]; exact Tells.no fun h => by have := h.hi; omega
  rw [cnd_f h2]
  refine (inet_outer l (by omega) 0 (by omega)).iff ⟨fun h => ?_, fun h => ?_⟩
  · exact ⟨by omega, by omega, fun i a => ⟨(h i (by omega) a).1.1, (h i (by omega) a).1.2.1⟩, fun i a k b => (h i (by omega) a).2 k b, fun i a => (h i (by omega) a).1.2.2⟩
  · exact fun i _ a => ⟨⟨(h.rng i a).1, (h.rng i a).2, h.self i a⟩, fun m b => h.sym i a m b⟩
/-! the reference -/
theorem snet_inner (l : List Int) (hn : l.length ≤ 6) (hr : ∀ i, i < l.length → 0 ≤ l.getD i 0 ∧ l.getD i 0 < 2 ^ l.length) (i : Nat) (hi : i < l.length) (Q : Prop)
    (hnext : Tells (s_NetOk_l2 l ((i + 1 : Nat) : Int)) Q) : ∀ j, j ≤ l.length → Tells (s_NetOk_l3 l (i : Int) (j : Int)) ((∀ k, j ≤ k → k < l.length → bt (l.getD i 0) k = bt (l.getD k 0) i ∧ (k = i → bt (l.getD i 0) k ≠ 1)) ∧ Q) := by
  refine advN ?_ fun j hj ih => ?_
  · refine (Tells.eq ?_ hnext).iff ⟨fun h => ⟨fun k h1 h2 => by omega, h⟩, fun h => h.2⟩
    rw [s_NetOk_l3_eq, cnd_f (by omega), w1 hi (by omega)]
  · have e : s_NetOk_l3 l (i : Int) (j : Int) = cond (bt (l.getD i 0) j != bt (l.getD j 0) i) (some false) (cond ((j : Int) == (i : Int)) (cond (bt (l.getD i 0) j == 1) (some false) (s_NetOk_l3 l (i : Int) ((j + 1 : Nat) : Int))) (s_NetOk_l3 l (i : Int) ((j + 1 : Nat) : Int))) := by
      rw [s_NetOk_l3_eq, cnd_t (by omega), if_pos (inN hi), if_neg (by omega), if_pos (inN hj), if_neg (by omega), if_pos (inN hi), if_neg (by omega), gN, gN, bit_mod (hr i hi).1 (by omega), bit_mod (hr j hj).1 (by omega), w1 hj (by omega)]
    rw [e]
    by_cases c : bt (l.getD i 0) j = bt (l.getD j 0) i
    · rw [bne_f c]
      by_cases d : j = i
      · rw [beq_t (by omega)]
        by_cases f : bt (l.getD i 0) j = 1
        · rw [beq_t f]; exact Tells.no fun h => (h.1 j (Nat.le_refl j) hj).2 d f
        · rw [beq_f f]
          refine ih.iff ⟨fun h => ⟨fun k h1 h2 => ?_, h.2⟩, fun h => ⟨fun k h1 h2 => h.1 k (by omega) h2, h.2⟩⟩
          by_cases he : k = j
          · rw [he]; exact ⟨c, fun _ => f⟩
          · exact h.1 k (by omega) h2
      · rw [beq_f (by omega)]
        refine ih.iff ⟨fun h => ⟨fun k h1 h2 => ?_, h.2⟩, fun h => ⟨fun k h1 h2 => h.1 k (by omega) h2, h.2⟩⟩
        by_cases he : k = j
        · rw [he]; exact ⟨c, fun hh => absurd hh d⟩
        · exact h.1 k (by omega) h2
    · rw [bne_t c]; exact Tells.no fun h => c (h.1 j (Nat.le_refl j) hj).1
theorem snet_outer (l : List Int) (hn : l.length ≤ 6) (hr : ∀ i, i < l.length → 0 ≤ l.getD i 0 ∧ l.getD i 0 < 2 ^ l.length) : ∀ i, i ≤ l.length → Tells (s_NetOk_l2 l (i : Int)) (∀ k, i ≤ k → k < l.length → bt (l.getD k 0) k = 0 ∧ ∀ m, m < l.length → bt (l.getD k 0) m = bt (l.getD m 0) k) := by
  refine advN ?_ fun i hi ih => ?_
  · refine Tells.eq ?_ (Tells.yes fun k h1 h2 => by omega)
    rw [s_NetOk_l2_eq, cnd_f (by omega)]
  · rw [s_NetOk_l2_eq, cnd_t (by omega)]
    refine (snet_inner l hn hr i hi _ ih 0 (by omega)).iff ⟨fun h k h1 h2 => ?_, fun h => ⟨fun k _ h2 => ⟨(h i (Nat.le_refl i) hi).2 k h2, fun he => ?_⟩, fun k h1 h2 => h k (by omega) h2⟩⟩
    · by_cases he : k = i
      · subst he
        exact ⟨by have := bt01 (l.getD k 0) k; have := (h.1 k (by omega) hi).2 rfl; omega, fun m hm => (h.1 m (by omega) hm).1⟩
      · exact h.2 k (by omega) h2
    · subst he
      have := (h k (Nat.le_refl k) hi).1
      omega
theorem snet_rng (l : List Int) (hn : l.length ≤ 6) (Q : Prop) (hj : (∀ i, i < l.length → 0 ≤ l.getD i 0 ∧ l.getD i 0 < 2 ^ l.length) → Tells (s_NetOk_j1 l) Q) :
    ∀ i, i ≤ l.length → (∀ k, k < i → 0 ≤ l.getD k 0 ∧ l.getD k 0 < 2 ^ l.length) → Tells (s_NetOk_l0 l (i : Int)) ((∀ k, i ≤ k → k < l.length → 0 ≤ l.getD k 0 ∧ l.getD k 0 < 2 ^ l.length) ∧ Q) := by
  refine advN ?_ fun i hi ih => ?_
  · intro hp
    refine (Tells.eq ?_ (hj hp)).iff ⟨fun h => ⟨fun k h1 h2 => by omega, h⟩, fun h => h.2⟩
    rw [s_NetOk_l0_eq, cnd_f (by omega)]
  · intro hp
    have hpow := pow6 hn
    have e : s_NetOk_l0 l (i : Int) = cond (!decide (0 ≤ l.getD i 0 ∧ l.getD i 0 ≤ 2 ^ l.length - 1)) (some false) (s_NetOk_l0 l ((i + 1 : Nat) : Int)) := by
      rw [s_NetOk_l0_eq, cnd_t (by omega), if_pos (inN hi), if_neg (by omega), sh1 (by omega), gN, wsub (by omega) (by omega), l1In_val, Option.bind_some, w1 hi (by omega)]
    rw [e]
    by_cases c : 0 ≤ l.getD i 0 ∧ l.getD i 0 ≤ 2 ^ l.length - 1
    · rw [decide_eq_true c]
      refine (ih fun k hk => ?_).iff ⟨fun h => ⟨fun k h1 h2 => ?_, h.2⟩, fun h => ⟨fun k h1 h2 => h.1 k (by omega) h2, h.2⟩⟩
      · by_cases he : k = i
        · subst he; omega
        · exact hp k (by omega)
      · by_cases he : k = i
        · subst he; omega
        · exact h.1 k (by omega) h2
    · rw [decide_eq_false c]
      exact Tells.no fun h => c (by have := h.1 i (Nat.le_refl i) hi; omega)
theorem snet (l : List Int) : s_NetOk_f l = some (decide (NetP l)) := by
  apply Tells.val
  rw [s_NetOk_f_eq, l1In_val, Option.bind_some]
  by_cases h1 : 1 ≤ (l.length : Int) ∧ (l.length : Int) ≤ 6
  · rw [decide_eq_true h1]
    refine (snet_rng l (by omega) (∀ k, k < l.length → bt (l.getD k 0) k = 0 ∧ ∀ m, m < l.length → bt (l.getD k 0) m = bt (l.getD m 0) k) (fun hr => ?_) 0 (by omega) (fun k hk => by omega)).iff ⟨fun h => ?_, fun h => ?_⟩
    · rw [s_NetOk_j1_eq]
      exact (snet_outer l (by omega) hr 0 (by omega)).iff ⟨fun h k => h k (by omega), fun h k _ => h k⟩
    · exact ⟨by omega, by omega, fun i a => h.1 i (by omega) a, fun i a k b => (h.2 i a).2 k b, fun i a => (h.2 i a).1⟩
    · exact ⟨fun k _ => h.rng k, fun k a => ⟨h.self k a, fun m b => h.sym k a m b⟩⟩
  · rw [decide_eq_false h1]
    exact Tells.no fun h => h1 (by have := h.lo; have := h.hi; omega)
/-! states -/
def StP (k : Int) (s : List Int) : Prop := (∀ i, i < s.length → 0 ≤ s.getD i 0 ∧ s.getD i 0 < k) ∧ 3 ≤ k ∧ k ≤ 5 ∧ 1 ≤ s.length ∧ s.length ≤ 6
instance (k : Int) (s : List Int) : Decidable (StP k s) := inferInstanceAs (Decidable (_ ∧ _))
theorem ist (k : Int) (s : List Int) (hs : s.length ≤ 4611686018427387904) : i_StateOk_f (k, s) = some (decide (StP k s)) := by
  apply Tells.val
  rw [i_StateOk_f_eq]
  have hj : Tells (i_StateOk_j1 k s) (3 ≤ k ∧ k ≤ 5 ∧ 1 ≤ s.length ∧ s.length ≤ 6) := by
    rw [i_StateOk_j1_eq]
    by_cases a : 3 ≤ k
    · rw [cnd_t a]
      by_cases b : k ≤ 5
      · rw [cnd_t b]
        by_cases c : 1 ≤ (s.length : Int)
        · rw [cnd_t c]
          exact Tells.dec.iff ⟨fun h => ⟨a, b, by omega, by omega⟩, fun h => by omega⟩
        · rw [cnd_f c]; exact Tells.no fun h => by omega
      · rw [cnd_f b]; exact Tells.no fun h => by omega
    · rw [cnd_f a]; exact Tells.no fun h => by omega
  have main : ∀ i, i ≤ s.length → Tells (i_StateOk_l0 k s s (s.length : Int) (i : Int)) ((∀ j, i ≤ j → j < s.length → 0 ≤ s.getD j 0 ∧ s.getD j 0 < k) ∧ (3 ≤ k ∧ k ≤ 5 ∧ 1 ≤ s.length ∧ s.length ≤ 6)) := by
    refine advN ?_ fun i hi ih => ?_
    · refine (Tells.eq ?_ hj).iff ⟨fun h => ⟨fun j h1 h2 => by omega, h⟩, fun h => h.2⟩
      rw [i_StateOk_l0_eq, cnd_f (by omega)]
    · have e : i_StateOk_l0 k s s (s.length : Int) (i : Int) = cond (decide (s.getD i 0 < 0)) (some false) (cond (decide (k ≤ s.getD i 0)) (some false) (i_StateOk_l0 k s s (s.length : Int) ((i + 1 : Nat) : Int))) := by
        rw [i_StateOk_l0_eq, cnd_t (by omega), if_pos (inN hi), gN, w1 hi (by omega)]
      rw [e]
      by_cases a : s.getD i 0 < 0
      · rw [cnd_t a]; exact Tells.no fun h => by have := h.1 i (Nat.le_refl i) hi; omega
      rw [cnd_f a]
      by_cases b : k ≤ s.getD i 0
      · rw [cnd_t b]; exact Tells.no fun h => by have := h.1 i (Nat.le_refl i) hi; omega
      rw [cnd_f b]
      refine ih.iff ⟨fun h => ⟨fun j h1 h2 => ?_, h.2⟩, fun h => ⟨fun j h1 h2 => h.1 j (by omega) h2, h.2⟩⟩
      by_cases he : j = i
      · subst he; omega
      · exact h.1 j (by omega) h2
  exact (main 0 (by omega)).iff ⟨fun h => ⟨fun i a => h.1 i (by omega) a, h.2⟩, fun h => ⟨fun i _ a => h.1 i a, h.2⟩⟩
theorem sst (k : Int) (s : List Int) (hs : s.length ≤ 4611686018427387904) : s_StateOk_f (k, s) = some (decide (StP k s)) := by
  apply Tells.val
  rw [s_StateOk_f_eq]
  have hj : Tells (s_StateOk_j1 k s) (3 ≤ k ∧ k ≤ 5 ∧ 1 ≤ s.length ∧ s.length ≤ 6) := by
    rw [s_StateOk_j1_eq, l1In_val, l1In_val, Option.bind_some, Option.bind_some]
    by_cases a : 3 ≤ k ∧ k ≤ 5
    · rw [decide_eq_true a]
      exact Tells.dec.iff ⟨fun h => ⟨a.1, a.2, by omega, by omega⟩, fun h => by omega⟩
    · rw [decide_eq_false a]; exact Tells.no fun h => a ⟨h.1, h.2.1⟩
  have main : ∀ i, i ≤ s.length → Tells (s_StateOk_l0 k s (i : Int)) ((∀ j, i ≤ j → j < s.length → 0 ≤ s.getD j 0 ∧ s.getD j 0 < k) ∧ (3 ≤ k ∧ k ≤ 5 ∧ 1 ≤ s.length ∧ s.length ≤ 6)) := by
    refine advN ?_ fun i hi ih => ?_
    · refine (Tells.eq ?_ hj).iff ⟨fun h => ⟨fun j h1 h2 => by omega, h⟩, fun h => h.2⟩
      rw [s_StateOk_l0_eq, cnd_f (by omega)]
    · have e : s_StateOk_l0 k s (i : Int) = cond (decide (s.getD i 0 < 0)) (some false) (cond (decide (k ≤ s.getD i 0)) (some false) (s_StateOk_l0 k s ((i + 1 : Nat) : Int))) := by
        rw [s_StateOk_l0_eq, cnd_t (by omega), if_pos (inN hi), if_pos (inN hi), gN, w1 hi (by omega)]
      rw [e]
      by_cases a : s.getD i 0 < 0
      · rw [cnd_t a]; exact Tells.no fun h => by have := h.1 i (Nat.le_refl i) hi; omega
      rw [cnd_f a]
      by_cases b : k ≤ s.getD i 0
      · rw [cnd_t b]; exact Tells.no fun h => by have := h.1 i (Nat.le_refl i) hi; omega
      rw [cnd_f b]
      refine ih.iff ⟨fun h => ⟨fun j h1 h2 => ?_, h.2⟩, fun h => ⟨fun j h1 h2 => h.1 j (by omega) h2, h.2⟩⟩
      by_cases he : j = i
      · subst he; omega
      · exact h.1 j (by omega) h2
  exact (main 0 (by omega)).iff ⟨fun h => ⟨fun i a => h.1 i (by omega) a, h.2⟩, fun h => ⟨fun i _ a => h.1 i a, h.2⟩⟩
/-! places -/
def PlP (n : List Int) (k : Int) (s : List Int) : Prop := NetP n ∧ StP k s ∧ n.length = s.length
instance (n : List Int) (k : Int) (s : List Int) : Decidable (PlP n k s) := inferInstanceAs (Decidable (_ ∧ _))
theorem iasked (n : List Int) (k : Int) (s : List Int) (hs : s.length ≤ 4611686018427387904) : i_asked_f (n, k, s) = some (decide (PlP n k s)) := by
  apply Tells.val
  rw [i_asked_f_eq, inet, Option.bind_some]
  by_cases a : NetP n
  · rw [decide_eq_true a, ist k s hs]
    by_cases b : StP k s
    · rw [decide_eq_true b]
      exact Tells.now.iff ⟨fun h => ⟨a, b, by have := eq_of_beq h; omega⟩, fun h => by have := h.2.2; simp [this]⟩
    · rw [decide_eq_false b]; exact Tells.no fun h => b h.2.1
  · rw [decide_eq_false a]; exact Tells.no fun h => a h.1
theorem sl3 (n : List Int) (k : Int) (s : List Int) (hs : s.length ≤ 4611686018427387904) : s_l3Ok_f (n, k, s) = some (decide (PlP n k s)) := by
  apply Tells.val
  rw [s_l3Ok_f_eq, snet, Option.bind_some]
  by_cases a : NetP n
  · rw [decide_eq_true a, sst k s hs]
    by_cases b : StP k s
    · rw [decide_eq_true b]
      exact Tells.now.iff ⟨fun h => ⟨a, b, by have := eq_of_beq h; omega⟩, fun h => by have := h.2.2; simp [this]⟩
    · rw [decide_eq_false b]; exact Tells.no fun h => b h.2.1
  · rw [decide_eq_false a]; exact Tells.no fun h => a h.1
theorem ipl (n : List Int) (k : Int) (s : List Int) (hs : s.length ≤ 4611686018427387904) : i_PlaceOk_f (n, k, s) = some (decide (PlP n k s)) := by
  rw [i_PlaceOk_f_eq, iasked n k s hs]; rfl
theorem spl (n : List Int) (k : Int) (s : List Int) (hs : s.length ≤ 4611686018427387904) : s_PlaceOk_f (n, k, s) = some (decide (PlP n k s)) := by
  rw [s_PlaceOk_f_eq, sl3 n k s hs]; rfl
end FN
namespace FN
open Go
theorem ba_app (a b : ByteArray) : (a ++ b).data.toList = a.data.toList ++ b.data.toList := by simp
theorem joinS_nil (sep : ByteArray) : joinS [] sep = ByteArray.empty := rfl
theorem joinS_one (t sep : ByteArray) : joinS [t] sep = t := by
  apply ba_ext
  simp [joinS, Lib.join_one]
theorem joinS_snoc {xs : List ByteArray} (h : xs ≠ []) (t sep : ByteArray) : joinS (xs ++ [t]) sep = joinS xs sep ++ sep ++ t := by
  cases xs with
  | nil => exact absurd rfl h
  | cons x r =>
    apply ba_ext
    simp [joinS, Lib.join_cons, Lib.joinTail]
end FN
namespace FN
open Go
/-- The first i numbers, one behind the other. -/
def dgs (st : List Int) : Nat → ByteArray
  | 0 => ByteArray.empty
  | i + 1 => dgs st i ++ itoaS (st.getD i 0)
theorem dg_pos : (List.range 100).all (fun n => decide (0 < (itoaS (n : Int)).size)) = true := by kernel_rfl
theorem itoa_pos {n : Int} (h0 : 0 ≤ n) (h1 : n < 100) : 0 < (itoaS n).size := by
  obtain ⟨m, rfl⟩ : ∃ m : Nat, n = m := ⟨n.toNat, by omega⟩
  simpa using List.all_eq_true.1 dg_pos m (List.mem_range.2 (by omega))
theorem dgs_size {st : List Int} (hs : ∀ j, j < st.length → 0 ≤ st.getD j 0 ∧ st.getD j 0 < 100) : ∀ i, i ≤ st.length → (dgs st i).size ≤ 2 * i
  | 0, _ => by simp [dgs]
  | i + 1, h => by
    have h1 := dgs_size hs i (by omega)
    have h2 := itoa_size (hs i (by omega)).1 (hs i (by omega)).2
    rw [dgs, ByteArray.size_append]
    omega
theorem empty_toList {a : ByteArray} (h : 0 < a.size) : (ByteArray.toList a == ByteArray.toList ByteArray.empty) = false := by
  rw [beq_eq_false_iff_ne]
  intro e
  have h1 : a.toList.length = (ByteArray.empty).toList.length := by rw [e]
  have h2 : a.toList.length = a.size := by rw [ByteArray.toList_eq]; exact Array.length_toList
  have h3 : (ByteArray.empty).toList.length = 0 := by rw [ByteArray.toList_eq]; rfl
  omega
/-- The pairs' row and the pairs' text. -/
structure PR (prs : List ByteArray) (y : ByteArray) (m : Nat) : Prop where
  eq : joinS prs str14 = y
  pos : prs ≠ [] → 0 < y.size
  len : prs.length ≤ m
  sz : y.size ≤ 10 * prs.length
theorem z14 : ByteArray.size str14 = 1 := rfl
theorem z15 : ByteArray.size str15 = 1 := rfl
theorem z1' : ByteArray.size str1 = 1 := rfl
section
variable {net st : List Int} {kd : Int} (h : PlP net kd st)
include h
theorem st_rng : ∀ j, j < st.length → 0 ≤ st.getD j 0 ∧ st.getD j 0 < 100 := fun j hj => ⟨(h.2.1.1 j hj).1, by have := (h.2.1.1 j hj).2; have := h.2.1.2.2.1; omega⟩
/-- The last part. -/
theorem i_tail (acc : ByteArray) (hacc : acc.size ≤ 1000) : ∀ i, i ≤ st.length → i_PlaceText_l4 (acc ++ dgs st i) st (st.length : Int) (i : Int) = some (acc ++ dgs st st.length) := by
  have hst := st_rng h
  have hl : st.length ≤ 6 := h.2.1.2.2.2.2
  refine advN ?_ fun i hi ih => ?_
  · rw [i_PlaceText_l4_eq, cnd_f (by omega)]
  · have h2 := hst i hi
    have h3 := itoa_size h2.1 h2.2
    have h4 := dgs_size hst i (by omega)
    rw [i_PlaceText_l4_eq, cnd_t (by omega), if_pos (inN hi), gN, itoa_val h2.1 h2.2, Option.bind_some, if_pos (by rw [ByteArray.size_append]; omega), w1 hi (by omega)]
    rw [ByteArray.append_assoc]
    exact ih
theorem fin_same (y : ByteArray) (hy : y.size ≤ 900) (n : Nat) (hn : n = net.length) : s_PlaceText_j4 y (dgs st st.length) net kd st = some ((((((itoaS (net.length : Int) ++ str1) ++ y) ++ str1) ++ itoaS kd) ++ str1) ++ dgs st st.length) := by
  have hst := st_rng h
  have hl : st.length ≤ 6 := h.2.1.2.2.2.2
  have hnl : net.length ≤ 6 := h.1.hi
  have hk := h.2.1.2.1
  have hk' := h.2.1.2.2.1
  have a1 := itoa_size (n := (net.length : Int)) (by omega) (by omega)
  have a2 := itoa_size (n := kd) (by omega) (by omega)
  have a3 := dgs_size hst st.length (Nat.le_refl _)
  have z1 := z1'
  rw [s_PlaceText_j4_eq, num_val (by omega) (by omega), Option.bind_some, if_pos (by omega), if_pos (by simp only [ByteArray.size_append]; omega), if_pos (by simp only [ByteArray.size_append]; omega), num_val (by omega) (by omega), Option.bind_some, if_pos (by simp only [ByteArray.size_append]; omega), if_pos (by simp only [ByteArray.size_append]; omega), if_pos (by simp only [ByteArray.size_append]; omega)]
theorem fin_i (prs : List ByteArray) (hp : prs.length ≤ 100) (hy : (joinS prs str14).size ≤ 900) : i_PlaceText_j3 net kd st prs = some ((((((itoaS (net.length : Int) ++ str1) ++ joinS prs str14) ++ str1) ++ itoaS kd) ++ str1) ++ dgs st st.length) := by
  have hnl : net.length ≤ 6 := h.1.hi
  have hk := h.2.1.2.1
  have hk' := h.2.1.2.2.1
  have a1 := itoa_size (n := (net.length : Int)) (by omega) (by omega)
  have a2 := itoa_size (n := kd) (by omega) (by omega)
  have z1 := z1'
  rw [i_PlaceText_j3_eq, itoa_val (by omega) (by omega), Option.bind_some, if_pos (by omega), x_strings_Join_f_eq, if_pos ⟨by omega, by omega⟩, Option.bind_some, if_pos (by simp only [ByteArray.size_append]; omega), if_pos (by simp only [ByteArray.size_append]; omega), itoa_val (by omega) (by omega), Option.bind_some, if_pos (by simp only [ByteArray.size_append]; omega), if_pos (by simp only [ByteArray.size_append]; omega)]
  have := i_tail h (((((itoaS (net.length : Int) ++ str1) ++ joinS prs str14) ++ str1) ++ itoaS kd) ++ str1) (by simp only [ByteArray.size_append]; omega) 0 (by omega)
  rw [dgs, ByteArray.append_empty] at this
  exact this
theorem end_same (prs : List ByteArray) (y : ByteArray) (r : PR prs y 60) : ∃ t, s_PlaceText_j2 y (dgs st st.length) net kd st = some t ∧ i_PlaceText_j2 net kd st prs = some t := by
  rw [s_PlaceText_j2_eq, i_PlaceText_j2_eq]
  by_cases hp : prs = []
  · subst hp
    have hy : y = ByteArray.empty := r.eq.symm.trans (joinS_nil _)
    subst hy
    rw [show (ByteArray.toList ByteArray.empty == ByteArray.toList ByteArray.empty) = true from by simp, cond_true, show (((List.length ([] : List ByteArray)) : Int) == 0) = true from rfl, cond_true, if_pos (by simp)]
    have e1 := fin_same h str15 (by rw [z15]; omega) _ rfl
    have e2 := fin_i h [str15] (by simp) (by rw [joinS_one, z15]; omega)
    rw [joinS_one] at e2
    exact ⟨_, e1, e2⟩
  · have hpos : 0 < prs.length := List.length_pos_iff.2 hp
    have hl := r.len
    have hs := r.sz
    rw [empty_toList (r.pos hp), cond_false, show (((List.length prs : Int)) == 0) = false by rw [beq_eq_false_iff_ne]; omega, cond_false]
    have e1 := fin_same h y (by omega) _ rfl
    have e2 := fin_i h prs (by omega) (by rw [r.eq]; omega)
    rw [r.eq] at e2
    exact ⟨_, e1, e2⟩
theorem row_same (i : Nat) (hi : i < net.length) (ho : ∀ prs y, PR prs y (7 * (i + 1)) → ∃ t, s_PlaceText_l0 y (dgs st (i + 1)) ((i + 1 : Nat) : Int) net kd st = some t ∧ i_PlaceText_l0 net (net.length : Int) ((i + 1 : Nat) : Int) net kd st prs = some t) :
    ∀ k, k ≤ net.length → ∀ prs y, PR prs y (7 * i + k) → ∃ t, s_PlaceText_l1 y (dgs st (i + 1)) (i : Int) (k : Int) net kd st = some t ∧ i_PlaceText_l1 (i : Int) (net.getD i 0) (k : Int) net (net.length : Int) (i : Int) net kd st prs = some t := by
  have hnl : net.length ≤ 6 := h.1.hi
  have z := z14
  refine advN ?_ fun k hk ih => ?_
  · intro prs y r
    rw [s_PlaceText_l1_eq, i_PlaceText_l1_eq, cnd_f (by omega), cnd_f (by omega), w1 hi (by omega)]
    exact ho prs y ⟨r.eq, r.pos, by have := r.len; omega, r.sz⟩
  · intro prs y r
    have hl := r.len
    have hs := r.sz
    have hx := (h.1.rng i hi).1
    rw [s_PlaceText_l1_eq, i_PlaceText_l1_eq, cnd_t (by omega), cnd_t (by omega), if_pos (inN hi), if_neg (show ¬ ((k : Nat) : Int) < 0 by omega), if_neg (show ¬ ((k : Nat) : Int) < 0 by omega), gN, bit_and _ (show k ≤ 64 by omega), bit_mod hx (show k ≤ 64 by omega), w1 hk (by omega)]
    rcases bt01 (net.getD i 0) k with hb | hb
    · rw [hb, show ((0 : Int) == 0) = true from rfl, show ((0 : Int) == 1) = false from rfl, cond_true, cond_false]
      exact ih prs y ⟨r.eq, r.pos, by omega, hs⟩
    · rw [hb, show ((1 : Int) == 0) = false from rfl, show ((1 : Int) == 1) = true from rfl, cond_true, cond_false, itoa_val (by omega) (by omega), Option.bind_some, itoa_val (by omega) (by omega), Option.bind_some]
      have a1 := itoa_size (n := (i : Int)) (by omega) (by omega)
      have a2 := itoa_size (n := (k : Int)) (by omega) (by omega)
      have p1 := itoa_pos (n := (i : Int)) (by omega) (by omega)
      rw [if_pos (show (itoaS (i : Int)).size + (itoaS (k : Int)).size ≤ 9223372036854775807 by omega), if_pos (show (List.length prs + List.length ([(itoaS (i : Int) ++ itoaS (k : Int))] : List ByteArray)) * 16 ≤ 140737488355328 by simp; omega)]
      have j3 : ∀ y' : ByteArray, y'.size ≤ 1000 → s_PlaceText_j3 y' (dgs st (i + 1)) (i : Int) (k : Int) net kd st = s_PlaceText_l1 ((y' ++ itoaS (i : Int)) ++ itoaS (k : Int)) (dgs st (i + 1)) (i : Int) ((k + 1 : Nat) : Int) net kd st := fun y' hy' => by
        rw [s_PlaceText_j3_eq, num_val (by omega) (by omega), Option.bind_some, if_pos (by omega), num_val (by omega) (by omega), Option.bind_some, if_pos (by simp only [ByteArray.size_append]; omega), w1 hk (by omega)]
      by_cases hp : prs = []
      · subst hp
        have hy : y = ByteArray.empty := r.eq.symm.trans (joinS_nil _)
        subst hy
        rw [show (!(ByteArray.toList ByteArray.empty == ByteArray.toList ByteArray.empty)) = false from by simp, cond_false, j3 _ (by simp)]
        refine ih _ _ ⟨?_, fun _ => ?_, by simp; omega, ?_⟩
        · rw [List.nil_append, joinS_one, ByteArray.empty_append]
        · simp only [ByteArray.size_append]; omega
        · simp only [ByteArray.size_append, List.nil_append, List.length_cons, List.length_nil]; simp; omega
      · rw [empty_toList (r.pos hp), Bool.not_false, cond_true, if_pos (show y.size + ByteArray.size str14 ≤ 9223372036854775807 by omega), j3 _ (by simp only [ByteArray.size_append]; omega)]
        refine ih _ _ ⟨?_, fun _ => ?_, by simp; omega, ?_⟩
        · rw [joinS_snoc hp, r.eq, ByteArray.append_assoc, ByteArray.append_assoc, ByteArray.append_assoc]
        · simp only [ByteArray.size_append]; omega
        · simp only [ByteArray.size_append, List.length_append, List.length_cons, List.length_nil]; omega
theorem all_same : ∀ i, i ≤ net.length → ∀ prs y, PR prs y (7 * i) → ∃ t, s_PlaceText_l0 y (dgs st i) (i : Int) net kd st = some t ∧ i_PlaceText_l0 net (net.length : Int) (i : Int) net kd st prs = some t := by
  have hnl : net.length ≤ 6 := h.1.hi
  have he := h.2.2
  have hst := st_rng h
  refine advN ?_ fun i hi ih => ?_
  · intro prs y r
    rw [s_PlaceText_l0_eq, i_PlaceText_l0_eq, cnd_f (by omega), cnd_f (by omega), he]
    exact end_same h prs y ⟨r.eq, r.pos, by have := r.len; omega, r.sz⟩
  · intro prs y r
    have hi' : i < st.length := by omega
    have h2 := hst i hi'
    have a1 := itoa_size h2.1 h2.2
    have a3 := dgs_size hst i (by omega)
    rw [s_PlaceText_l0_eq, i_PlaceText_l0_eq, cnd_t (by omega), cnd_t (by omega), if_pos (inN hi'), if_pos (inN hi), gN, gN, num_val h2.1 h2.2, Option.bind_some, if_pos (by omega), w1 hi (by omega)]
    exact row_same h i hi ih (i + 1) (by omega) prs y ⟨r.eq, r.pos, by have := r.len; omega, r.sz⟩
end
theorem placeText_same (net : List Int) (kd : Int) (st : List Int) (hs : st.length ≤ 4611686018427387904) : ∃ t, s_PlaceText_f (net, kd, st) = some t ∧ i_PlaceText_f (net, kd, st) = some t := by
  rw [s_PlaceText_f_eq, i_PlaceText_f_eq, spl net kd st hs, ipl net kd st hs, Option.bind_some, Option.bind_some]
  by_cases h : PlP net kd st
  · rw [decide_eq_true h]
    exact all_same h 0 (by omega) [] _ ⟨joinS_nil _, fun h => absurd rfl h, by simp, by simp⟩
  · rw [decide_eq_false h]
    exact ⟨_, rfl, rfl⟩
end FN
/-! Places read. -/
namespace FN
open Go
abbrev orb (z : List Int) (a b : Int) : List Int := List.set z (a : Int).toNat (Go.bits .or IntKind.i64 (List.getD z (a : Int).toNat 0) (IntKind.i64.wrap (1 * 2 ^ min (b : Int).toNat IntKind.i64.bits)))
def stepP (z : List Int) (a b : Int) : List Int := orb (orb z a b) b a
theorem stepP_len (z : List Int) (a b : Int) : (stepP z a b).length = z.length := by simp [stepP, orb]
def pairsF (n : Int) : List (List UInt8) → List Int → Option (List Int)
  | [], z => some z
  | [x, y] :: ps, z => if 0 ≤ dig x ∧ dig x < n ∧ 0 ≤ dig y ∧ dig y < n then pairsF n ps (stepP z (dig x) (dig y)) else none
  | _ :: _, _ => none
abbrev Wl (w0 w1 w2 w3 : List UInt8) : List ByteArray := [ofL w0, ofL w1, ofL w2, ofL w3]
abbrev bad : List Int × Int × List Int × Bool := ([], 0, [], false)
theorem gR {rs : List (List UInt8)} {i : Nat} {p : List UInt8} (h : rs[i]? = some p) : List.getD (rs.map ofL) ((i : Int)).toNat ByteArray.empty = ofL p := by
  rw [Int.toNat_natCast, List.getD_eq_getElem?_getD, List.getElem?_map, h]; rfl
theorem two_bytes (x y : UInt8) : List.getD (ByteArray.data (ofL [x, y])).toList (0 : Int).toNat 0 = x ∧ List.getD (ByteArray.data (ofL [x, y])).toList (1 : Int).toNat 0 = y := ⟨rfl, rfl⟩
/-- The text of a place, by whom it is one. -/
noncomputable def ptx (z : List Int) (k : Int) (st : List Int) : ByteArray := (i_PlaceText_f (z, k, st)).getD ByteArray.empty
theorem ptx_val (z : List Int) (k : Int) (st : List Int) (hs : st.length ≤ 4611686018427387904) : i_PlaceText_f (z, k, st) = some (ptx z k st) ∧ s_PlaceText_f (z, k, st) = some (ptx z k st) := by
  obtain ⟨t, h1, h2⟩ := placeText_same z k st hs
  have : ptx z k st = t := by unfold ptx; rw [h2]; rfl
  rw [this]
  exact ⟨h2, h1⟩
theorem ptx_no (z : List Int) (k : Int) (st : List Int) (hs : st.length ≤ 4611686018427387904) (h : ¬ PlP z k st) : ptx z k st = ByteArray.empty := by
  unfold ptx
  rw [i_PlaceText_f_eq, ipl z k st hs, Option.bind_some, decide_eq_false h]
  rfl
/-- The last look. -/
noncomputable def finP (S : ByteArray) (z : List Int) (k : Int) (st : List Int) : List Int × Int × List Int × Bool := if ptx z k st = S then (z, k, st, true) else bad
theorem beq_bytes {a b : ByteArray} {α : Type} {x y : α} : cond (!(ByteArray.toList a == ByteArray.toList b)) x y = if a = b then y else x := by
  rw [toL, toL]
  by_cases h : a = b
  · rw [if_pos h, h]; simp
  · rw [if_neg h]
    have : (a.data.toList == b.data.toList) = false := by
      rw [beq_eq_false_iff_ne]
      intro e
      exact h (ba_ext e)
    rw [this]; rfl
section
variable {S : ByteArray} {w0 w1 w2 w3 : List UInt8}
theorem i_fin (k : Int) (z st : List Int) (hs : st.length ≤ 4611686018427387904) : (Option.bind (i_PlaceText_f (z, k, st)) fun r1 => (cond ((!(ByteArray.toList r1 == ByteArray.toList S))) (some (([] : List Int), (0 : Int), ([] : List Int), false)) (some (z, k, st, true)))) = some (finP S z k st) := by
  rw [(ptx_val z k st hs).1, Option.bind_some, beq_bytes]
  unfold finP
  split <;> rfl
theorem s_fin (k : Int) (z st : List Int) (hs : st.length ≤ 4611686018427387904) : (Option.bind (s_PlaceText_f (z, k, st)) fun r1 => (cond ((!(ByteArray.toList r1 == ByteArray.toList S))) (some (([] : List Int), (0 : Int), ([] : List Int), false)) (some (z, k, st, true)))) = some (finP S z k st) := by
  rw [(ptx_val z k st hs).2, Option.bind_some, beq_bytes]
  unfold finP
  split <;> rfl
theorem stD {j : Nat} (hj : j < w3.length) : IntKind.i64.wrap (IntKind.i64.wrap ((List.getD (ByteArray.data (ofL w3)).toList ((j : Int)).toNat 0).toNat : Int) - 48) = dig w3[j] := by
  rw [dgt hj, dW]
theorem map_take {j : Nat} (hj : j < w3.length) : (w3.take (j + 1)).map dig = (w3.take j).map dig ++ [dig w3[j]] := by
  rw [List.take_succ_eq_append_getElem hj, List.map_append]; rfl
theorem i_state (hw : w3.length ≤ 1099511627776) (k0 k : Int) (z : List Int) : ∀ j, j ≤ w3.length → 1 ≤ j → i_ReadPlace_l5 S (Wl w0 w1 w2 w3) (w3.length : Int) (j : Int) k0 k z ((w3.take j).map dig) = some (finP S z k (w3.map dig)) := by
  refine advN ?_ fun j hj ih => ?_
  · intro _
    rw [i_ReadPlace_l5_eq, cnd_f (by omega), i_ReadPlace_j8_eq, List.take_length]
    exact i_fin k z _ (by simp; omega)
  · intro h1
    rw [i_ReadPlace_l5_eq, cnd_t (by omega), if_pos (by simp), show List.getD (Wl w0 w1 w2 w3) (3 : Int).toNat ByteArray.empty = ofL w3 from rfl, ofL_size, if_pos (inN hj), stD hj, if_pos (by simp; omega), FN.w1 hj (by omega), ← map_take hj]
    exact ih (by omega)
theorem i_state0 (hw : w3.length ≤ 1099511627776) (k0 k : Int) (z : List Int) : i_ReadPlace_j1 S (Wl w0 w1 w2 w3) k0 k z = some (finP S z k (w3.map dig)) := by
  rw [i_ReadPlace_j1_eq, if_pos (by simp), show List.getD (Wl w0 w1 w2 w3) (3 : Int).toNat ByteArray.empty = ofL w3 from rfl, ofL_size, i_ReadPlace_l3_eq]
  by_cases h : 0 < w3.length
  · have := stD (j := 0) h
    rw [cnd_t (by omega), if_pos (by simp), show List.getD (Wl w0 w1 w2 w3) (3 : Int).toNat ByteArray.empty = ofL w3 from rfl, ofL_size, if_pos ⟨by omega, by omega⟩, show IntKind.i64.wrap (IntKind.i64.wrap ((List.getD (ByteArray.data (ofL w3)).toList (0 : Int).toNat 0).toNat : Int) - 48) = dig w3[0] from this, if_pos (by simp), show IntKind.i64.wrap ((0 : Int) + 1) = ((1 : Nat) : Int) from rfl]
    have e : (w3.take 1).map dig = [] ++ [dig w3[0]] := map_take h
    rw [← e]
    exact i_state hw k0 k z 1 (by omega) (by omega)
  · have h0 : w3 = [] := List.eq_nil_of_length_eq_zero (by omega)
    subst h0
    rw [cnd_f (by simp), i_ReadPlace_j6_eq]
    exact i_fin k z [] (by simp)
theorem s_state (hw : w3.length ≤ 1099511627776) (k0 k : Int) (z : List Int) : ∀ j, j ≤ w3.length → 1 ≤ j → s_ReadPlace_l6 S (Wl w0 w1 w2 w3) (j : Int) k0 k z ((w3.take j).map dig) = some (finP S z k (w3.map dig)) := by
  refine advN ?_ fun j hj ih => ?_
  · intro _
    rw [s_ReadPlace_l6_eq, if_pos (by simp), show List.getD (Wl w0 w1 w2 w3) (3 : Int).toNat ByteArray.empty = ofL w3 from rfl, ofL_size, cnd_f (by omega), s_ReadPlace_j8_eq, List.take_length]
    exact s_fin k z _ (by simp; omega)
  · intro h1
    rw [s_ReadPlace_l6_eq, if_pos (by simp), show List.getD (Wl w0 w1 w2 w3) (3 : Int).toNat ByteArray.empty = ofL w3 from rfl, ofL_size, cnd_t (by omega), if_pos (by simp), if_pos (inN hj), stD hj, if_pos (by simp; omega), FN.w1 hj (by omega), ← map_take hj]
    exact ih (by omega)
theorem s_state0 (hw : w3.length ≤ 1099511627776) (k0 k : Int) (z : List Int) : s_ReadPlace_j2 S (Wl w0 w1 w2 w3) k0 k z = some (finP S z k (w3.map dig)) := by
  rw [s_ReadPlace_j2_eq, s_ReadPlace_l4_eq, if_pos (by simp), show List.getD (Wl w0 w1 w2 w3) (3 : Int).toNat ByteArray.empty = ofL w3 from rfl, ofL_size]
  by_cases h : 0 < w3.length
  · have := stD (j := 0) h
    rw [cnd_t (by omega), if_pos (by simp), if_pos ⟨by omega, by omega⟩, show IntKind.i64.wrap (IntKind.i64.wrap ((List.getD (ByteArray.data (ofL w3)).toList (0 : Int).toNat 0).toNat : Int) - 48) = dig w3[0] from this, if_pos (by simp), show IntKind.i64.wrap ((0 : Int) + 1) = ((1 : Nat) : Int) from rfl]
    have e : (w3.take 1).map dig = [] ++ [dig w3[0]] := map_take h
    rw [← e]
    exact s_state hw k0 k z 1 (by omega) (by omega)
  · have h0 : w3 = [] := List.eq_nil_of_length_eq_zero (by omega)
    subst h0
    rw [cnd_f (by simp), s_ReadPlace_j7_eq]
    exact s_fin k z [] (by simp)
theorem drop_at {rs : List (List UInt8)} {i : Nat} (hi : i < rs.length) : ∃ p, rs[i]? = some p ∧ rs.drop i = p :: rs.drop (i + 1) := ⟨rs[i], List.getElem?_eq_getElem hi, List.drop_eq_getElem_cons hi⟩
theorem i_pairs (hw : w3.length ≤ 1099511627776) {n : Int} (hn : n ≤ 6) {rs : List (List UInt8)} (hrs : rs.length ≤ 1099511627776) (k0 k : Int) : ∀ i, i ≤ rs.length → ∀ z : List Int, (z.length : Int) = n →
    i_ReadPlace_l0 S (Wl w0 w1 w2 w3) n (rs.map ofL) (rs.length : Int) (i : Int) k0 k z = some (match pairsF n (rs.drop i) z with | some z' => finP S z' k (w3.map dig) | none => bad) := by
  refine advN ?_ fun i hi ih => ?_
  · intro z hz
    rw [i_ReadPlace_l0_eq, cnd_f (by omega), List.drop_length, i_state0 hw]
    rfl
  · intro z hz
    obtain ⟨p, hp, hd⟩ := drop_at hi
    rw [i_ReadPlace_l0_eq, cnd_t (by omega), if_pos (by rw [List.length_map]; exact inN hi), gR hp, ofL_size, hd]
    match p with
    | [] => rw [bne_t (by simp)]; rfl
    | [_] => rw [bne_t (by simp)]; rfl
    | _ :: _ :: _ :: _ => rw [bne_t (by simp; omega)]; rfl
    | [x, y] =>
      rw [bne_f (by simp), if_pos (by simp), if_pos (by simp), (two_bytes x y).1, (two_bytes x y).2, dW, dW, i_ReadPlace_j2_eq]
      unfold pairsF
      by_cases h1 : dig x < 0
      · rw [cnd_t h1, if_neg (by omega)]
      rw [cnd_f h1]
      by_cases h2 : n ≤ dig x
      · rw [cnd_t h2, if_neg (by omega)]
      rw [cnd_f h2]
      by_cases h3 : dig y < 0
      · rw [cnd_t h3, if_neg (by omega)]
      rw [cnd_f h3]
      by_cases h4 : n ≤ dig y
      · rw [cnd_t h4, if_neg (by omega)]
      rw [cnd_f h4, if_pos ⟨by omega, by omega, by omega, by omega⟩, i_ReadPlace_j4_eq, if_pos ⟨by omega, by omega⟩, if_neg h3, if_pos ⟨by omega, by omega⟩, i_ReadPlace_j7_eq, if_pos (by rw [List.length_set]; omega), if_neg h1, if_pos (by rw [List.length_set]; omega), FN.w1 hi (by omega)]
      exact ih (stepP z (dig x) (dig y)) (by rw [stepP_len]; exact hz)
theorem s_pairs (hw : w3.length ≤ 1099511627776) (hdot : w1 ≠ [46]) {n : Int} (hn : n ≤ 6) {rs : List (List UInt8)} (hrs : rs.length ≤ 1099511627776) (k0 k : Int) : ∀ i, i ≤ rs.length → ∀ z : List Int, (z.length : Int) = n →
    s_ReadPlace_l0 S (Wl w0 w1 w2 w3) (rs.map ofL) (i : Int) k0 k z = some (match pairsF n (rs.drop i) z with | some z' => finP S z' k (w3.map dig) | none => bad) := by
  refine advN ?_ fun i hi ih => ?_
  · intro z hz
    rw [s_ReadPlace_l0_eq, List.length_map, cnd_f (by omega), List.drop_length, s_state0 hw]
    rfl
  · intro z hz
    obtain ⟨p, hp, hd⟩ := drop_at hi
    rw [s_ReadPlace_l0_eq, List.length_map, cnd_t (by omega), if_pos (by simp), show List.getD (Wl w0 w1 w2 w3) (1 : Int).toNat ByteArray.empty = ofL w1 from rfl, beq_bytes, if_neg (show ¬ ofL w1 = str15 from fun e => hdot (ofL_inj (b := [46]) e)), if_pos (inN hi), gR hp, ofL_size, hd]
    match p with
    | [] => rw [bne_t (by simp)]; rfl
    | [_] => rw [bne_t (by simp)]; rfl
    | _ :: _ :: _ :: _ => rw [bne_t (by simp; omega)]; rfl
    | [x, y] =>
      have hW : IntKind.i64.wrap ((z.length : Int) - 1) = n - 1 := by rw [hz, i64w (by omega) (by omega)]
      rw [bne_f (by simp), if_pos (inN hi), if_pos (by simp), if_pos (inN hi), if_pos (by simp), (two_bytes x y).1, (two_bytes x y).2, dW, dW, s_ReadPlace_j1_eq, hW, l1In_val, Option.bind_some]
      unfold pairsF
      by_cases h1 : 0 ≤ dig x ∧ dig x ≤ n - 1
      · rw [decide_eq_true h1, Bool.not_true, cond_false, l1In_val, Option.bind_some]
        by_cases h2 : 0 ≤ dig y ∧ dig y ≤ n - 1
        · rw [decide_eq_true h2, Bool.not_true, cond_false, if_pos ⟨by omega, by omega, by omega, by omega⟩, s_ReadPlace_j3_eq, if_pos ⟨by omega, by omega⟩, if_neg (by omega), if_pos ⟨by omega, by omega⟩, s_ReadPlace_j5_eq, if_pos (by rw [List.length_set]; omega), if_neg (by omega), if_pos (by rw [List.length_set]; omega), FN.w1 hi (by omega)]
          exact ih (stepP z (dig x) (dig y)) (by rw [stepP_len]; exact hz)
        · rw [decide_eq_false h2, if_neg (by omega)]; rfl
      · rw [decide_eq_false h1, if_neg (by omega)]; rfl
end
/-- What is read, before the last look. -/
def rdP (L : List UInt8) : Option (List Int × Int × List Int) := match cutL 32 L with
  | [[a], w1, [k], w3] => if 1 ≤ dig a ∧ dig a ≤ 6 then (if w1 = [46] then some (List.replicate (dig a).toNat 0) else pairsF (dig a) (cutL 44 w1) (List.replicate (dig a).toNat 0)).map fun z => (z, dig k, w3.map dig) else none
  | _ => none
noncomputable def readP (L : List UInt8) : List Int × Int × List Int × Bool := match rdP L with
  | some (z, k, st) => finP (ofL L) z k st
  | none => bad
theorem cutL_word (c : UInt8) : ∀ l : List UInt8, ∀ a ∈ cutL c l, a.length ≤ l.length
  | [], a, h => by simp [cutL] at h; simp [h]
  | x :: l, a, h => by
    have ih := cutL_word c l
    by_cases hx : x = c
    · subst hx
      rw [cutL_eq] at h
      rcases List.mem_cons.1 h with h | h
      · subst h; simp
      · have := ih a h; simp; omega
    · rw [cutL_neq hx] at h
      cases hz : cutL c l with
      | nil => exact absurd hz (cutL_ne c l)
      | cons y ys =>
        rw [hz] at h ih
        simp only [preL, List.mem_cons] at h
        rcases h with h | h
        · subst h
          have := ih y (by simp)
          simp; omega
        · have := ih a (by simp [h]); simp; omega
theorem fin_bad {L : List UInt8} (hL : L ≠ []) {z st : List Int} {k : Int} (hs : st.length ≤ 4611686018427387904) (hk : ¬ (3 ≤ k ∧ k ≤ 5)) : finP (ofL L) z k st = bad := by
  unfold finP
  rw [ptx_no z k st hs fun h => hk ⟨h.2.1.2.1, h.2.1.2.2.1⟩, if_neg]
  intro e
  have h1 : (ByteArray.empty).size = (ofL L).size := by rw [e]
  rw [ofL_size] at h1
  have h2 : (ByteArray.empty).size = 0 := rfl
  exact hL (List.eq_nil_of_length_eq_zero (by omega))
theorem rdP_none {L : List UInt8} (h : ∀ a w1 k w3, cutL 32 L ≠ [[a], w1, [k], w3]) : rdP L = none := by
  unfold rdP
  split
  · rename_i a w1 k w3 e
    exact absurd e (h a w1 k w3)
  · rfl
theorem readP_none {L : List UInt8} (h : ∀ a w1 k w3, cutL 32 L ≠ [[a], w1, [k], w3]) : readP L = bad := by
  unfold readP
  rw [rdP_none h]
theorem readP_some {L : List UInt8} {a k : UInt8} {w1 w3 : List UInt8} (h : cutL 32 L = [[a], w1, [k], w3]) : readP L = if 1 ≤ dig a ∧ dig a ≤ 6 then (match (if w1 = [46] then some (List.replicate (dig a).toNat 0) else pairsF (dig a) (cutL 44 w1) (List.replicate (dig a).toNat 0)) with | some z' => finP (ofL L) z' (dig k) (w3.map dig) | none => bad) else bad := by
  unfold readP rdP
  rw [h]
  simp only
  by_cases c : 1 ≤ dig a ∧ dig a ≤ 6
  · rw [if_pos c, if_pos c]
    generalize (if w1 = [46] then some (List.replicate (dig a).toNat 0) else pairsF (dig a) (cutL 44 w1) (List.replicate (dig a).toNat 0)) = o
    cases o <;> rfl
  · rw [if_neg c, if_neg c]
theorem four {α : Type} {l : List α} (h : l.length = 4) : ∃ a b c d, l = [a, b, c, d] := by
  match l, h with
  | [a, b, c, d], _ => exact ⟨a, b, c, d, rfl⟩
theorem single {w : List UInt8} (h : w.length = 1) : ∃ a, w = [a] := by
  match w, h with
  | [a], _ => exact ⟨a, rfl⟩
theorem g0 (w0 w1 w2 w3 : List UInt8) : List.getD (Wl w0 w1 w2 w3) (0 : Int).toNat ByteArray.empty = ofL w0 := rfl
theorem g1 (w0 w1 w2 w3 : List UInt8) : List.getD (Wl w0 w1 w2 w3) (1 : Int).toNat ByteArray.empty = ofL w1 := rfl
theorem g2 (w0 w1 w2 w3 : List UInt8) : List.getD (Wl w0 w1 w2 w3) (2 : Int).toNat ByteArray.empty = ofL w2 := rfl
theorem b0 (a : UInt8) : List.getD (ByteArray.data (ofL [a])).toList (0 : Int).toNat 0 = a := rfl
theorem i_read (L : List UInt8) (hL : L.length ≤ 1048577) : i_ReadPlace_f (ofL L) = some (readP L) := by
  rw [i_ReadPlace_f_eq, show x_strings_Split_f (ofL L, str1) = _ from split_val L 32 (by omega), Option.bind_some, List.length_map]
  by_cases h4 : (cutL 32 L).length = 4
  · obtain ⟨w0, w1, w2, w3, hws⟩ := four h4
    have hw3 : w3.length ≤ L.length := cutL_word 32 L w3 (by rw [hws]; simp)
    have hw1 : w1.length ≤ L.length := cutL_word 32 L w1 (by rw [hws]; simp)
    have hr1 := cutL_len 44 w1
    rw [bne_f (by rw [h4]; rfl), hws, show List.map ofL [w0, w1, w2, w3] = Wl w0 w1 w2 w3 from rfl, if_pos (by simp), g0, ofL_size]
    by_cases h0 : w0.length = 1
    · obtain ⟨a, rfl⟩ := single h0
      rw [bne_f (by simp), if_pos (by simp), g2, ofL_size]
      by_cases h2 : w2.length = 1
      · obtain ⟨k, rfl⟩ := single h2
        rw [bne_f (by simp), readP_some hws, if_pos (by simp), if_pos (by simp), b0, dW]
        by_cases c1 : dig a < 1
        · rw [cnd_t c1, if_neg (by omega)]
        rw [cnd_f c1]
        by_cases c2 : 6 < dig a
        · rw [cnd_t c2, if_neg (by omega)]
        rw [cnd_f c2, if_pos (show 1 ≤ dig a ∧ dig a ≤ 6 by omega), if_pos (by simp), if_pos (by simp), b0, dW, if_pos ⟨by omega, by omega, by omega⟩, if_pos (by simp), g1, beq_bytes]
        by_cases c3 : w1 = [46]
        · subst c3
          rw [if_pos rfl, if_pos (show ofL [46] = str15 from rfl), i_state0 (by omega)]
        · rw [if_neg c3, if_neg (show ¬ ofL w1 = str15 from fun e => c3 (ofL_inj (b := [46]) e)), if_pos (by simp), show x_strings_Split_f (ofL w1, str14) = _ from split_val w1 44 (by omega), Option.bind_some, List.length_map]
          have := i_pairs (S := ofL L) (w0 := [a]) (w1 := w1) (w2 := [k]) (w3 := w3) (by omega) (n := dig a) (by omega) (rs := cutL 44 w1) (by omega) 0 (dig k) 0 (by omega) (List.replicate (dig a).toNat 0) (by rw [List.length_replicate]; omega)
          rw [List.drop_zero] at this
          exact this
      · rw [bne_t (by omega), readP_none fun a' w1' k' w3' e => by rw [hws] at e; injection e with _ e; injection e with _ e; injection e with e _; rw [e] at h2; exact h2 rfl]
    · rw [bne_t (by omega), readP_none fun a' w1' k' w3' e => by rw [hws] at e; injection e with e _; rw [e] at h0; exact h0 rfl]
  · rw [bne_t (by omega), readP_none fun a w1 k w3 e => h4 (by rw [e]; rfl)]
theorem l0_dot {S : ByteArray} {w0 w2 w3 : List UInt8} (hw : w3.length ≤ 1099511627776) (k : Int) (z : List Int) : s_ReadPlace_l0 S (Wl w0 [46] w2 w3) ((cutL 44 [46]).map ofL) 0 0 k z = some (finP S z k (w3.map dig)) := by
  rw [s_ReadPlace_l0_eq, cnd_t (by decide), if_pos (by simp), g1, beq_bytes, if_pos (show ofL [46] = str15 from rfl), s_state0 hw]
theorem s_read (L : List UInt8) (hL : L.length ≤ 1048577) : s_ReadPlace_f (ofL L) = some (readP L) := by
  rw [s_ReadPlace_f_eq, show s_l1Cut_f (ofL L, (32 : Int)) = _ from cut_val L 32 (by omega), Option.bind_some, List.length_map]
  by_cases h4 : (cutL 32 L).length = 4
  · obtain ⟨w0, w1, w2, w3, hws⟩ := four h4
    have hw3 : w3.length ≤ L.length := cutL_word 32 L w3 (by rw [hws]; simp)
    have hw1 : w1.length ≤ L.length := cutL_word 32 L w1 (by rw [hws]; simp)
    have hr1 := cutL_len 44 w1
    have hne : L ≠ [] := fun e => by rw [e] at h4; cases h4
    rw [bne_f (by rw [h4]; rfl), hws, show List.map ofL [w0, w1, w2, w3] = Wl w0 w1 w2 w3 from rfl, if_pos (by simp), g0]
    by_cases h0 : w0.length = 1
    · obtain ⟨a, rfl⟩ := single h0
      have hda : dig a = (a.toNat : Int) - 48 := rfl
      rw [digits_one, Option.bind_some, l1In_val, Option.bind_some]
      by_cases ca : 1 ≤ dig a ∧ dig a ≤ 6
      · have hv : (if 48 ≤ a.toNat ∧ a.toNat ≤ 57 then dig a else -1) = dig a := if_pos (by omega)
        rw [hv, decide_eq_true ca, Bool.not_true, cond_false, if_pos (by simp), if_pos (by simp), Option.bind_some, if_pos (show (0 : Int) ≤ dig a ∧ dig a * 8 ≤ 140737488355328 ∧ dig a ≤ 140737488355328 by omega), g2]
        have key : ∀ v : Int, (if (0 : Int) ≤ 1 ∧ 1 < (List.length ([[a], w1, w2, w3] : List (List UInt8)) : Int) then (Option.bind (s_l1Cut_f ((List.getD (Wl [a] w1 w2 w3) (1 : Int).toNat ByteArray.empty), 44)) fun r6 => (s_ReadPlace_l0 (ofL L) (Wl [a] w1 w2 w3) r6 0 0 v (List.replicate ((dig a) : Int).toNat 0 : List (Int)))) else none) =
            some (match (if w1 = [46] then some (List.replicate (dig a).toNat 0) else pairsF (dig a) (cutL 44 w1) (List.replicate (dig a).toNat 0)) with | some z' => finP (ofL L) z' v (w3.map dig) | none => bad) := by
          intro v
          rw [if_pos (by simp), g1, show s_l1Cut_f (ofL w1, (44 : Int)) = _ from cut_val w1 44 (by omega), Option.bind_some]
          by_cases c3 : w1 = [46]
          · subst c3
            rw [if_pos rfl, l0_dot (by omega)]
          · rw [if_neg c3]
            have := s_pairs (S := ofL L) (w0 := [a]) (w1 := w1) (w2 := w2) (w3 := w3) (by omega) c3 (n := dig a) (by omega) (rs := cutL 44 w1) (by omega) 0 v 0 (by omega) (List.replicate (dig a).toNat 0) (by rw [List.length_replicate]; omega)
            rw [List.drop_zero] at this
            exact this
        have hst : (w3.map dig).length ≤ 4611686018427387904 := by rw [List.length_map]; omega
        have allbad : ∀ v : Int, ¬ (3 ≤ v ∧ v ≤ 5) → (match (if w1 = [46] then some (List.replicate (dig a).toNat 0) else pairsF (dig a) (cutL 44 w1) (List.replicate (dig a).toNat 0)) with | some z' => finP (ofL L) z' v (w3.map dig) | none => bad) = bad := by
          intro v hv
          split
          · exact fin_bad hne hst hv
          · rfl
        by_cases h2 : w2.length = 1
        · obtain ⟨k, rfl⟩ := single h2
          have hdk : dig k = (k.toNat : Int) - 48 := rfl
          rw [digits_one, Option.bind_some, key, readP_some hws, if_pos ca]
          by_cases ck : 48 ≤ k.toNat ∧ k.toNat ≤ 57
          · rw [if_pos ck]
          · rw [if_neg ck, allbad (-1) (by omega), allbad (dig k) (by omega)]
        · obtain ⟨v, e1, e2⟩ := digits_other h2
          rw [e1, Option.bind_some, key, allbad v (by omega), readP_none fun a' w1' k' w3' e => by rw [hws] at e; injection e with _ e; injection e with _ e; injection e with e _; rw [e] at h2; exact h2 rfl]
      · have : ¬ (1 ≤ (if 48 ≤ a.toNat ∧ a.toNat ≤ 57 then dig a else -1) ∧ (if 48 ≤ a.toNat ∧ a.toNat ≤ 57 then dig a else -1) ≤ 6) := by
          split
          · exact ca
          · omega
        rw [decide_eq_false this, Bool.not_false, cond_true]
        by_cases h2 : ∃ k, w2 = [k]
        · obtain ⟨k, rfl⟩ := h2
          rw [readP_some hws, if_neg ca]
        · rw [readP_none fun a' w1' k' w3' e => by rw [hws] at e; injection e with _ e; injection e with _ e; injection e with e _; exact h2 ⟨k', e⟩]
    · obtain ⟨v, e1, e2⟩ := digits_other h0
      rw [e1, Option.bind_some, l1In_val, Option.bind_some, decide_eq_false (by omega), Bool.not_false, cond_true, readP_none fun a' w1' k' w3' e => by rw [hws] at e; injection e with e _; rw [e] at h0; exact h0 rfl]
  · rw [bne_t (by omega), readP_none fun a w1 k w3 e => h4 (by rw [e]; rfl)]
end FN
/-! The text of a place, told; and read back. -/
namespace FN
open Go
theorem ext_of_getD {a b : List Int} (h : a.length = b.length) (he : ∀ j, j < a.length → a.getD j 0 = b.getD j 0) : a = b := by
  apply List.ext_getElem h
  intro i h1 h2
  have := he i h1
  simpa [List.getD_eq_getElem?_getD, List.getElem?_eq_getElem h1, List.getElem?_eq_getElem h2] using this
theorem itoa_d : (List.range 10).all (fun a => decide ((itoaS (a : Int)).data.toList = [UInt8.ofNat (48 + a)]) && decide (dig (UInt8.ofNat (48 + a)) = (a : Int)) && decide ((UInt8.ofNat (48 + a)).toNat = 48 + a)) = true := by kernel_rfl
theorem itoa_l {a : Nat} (h : a < 10) : (itoaS (a : Int)).data.toList = [UInt8.ofNat (48 + a)] ∧ dig (UInt8.ofNat (48 + a)) = (a : Int) ∧ (UInt8.ofNat (48 + a)).toNat = 48 + a := by
  have h1 := List.all_eq_true.1 itoa_d a (List.mem_range.2 h)
  simp only [Bool.and_eq_true, decide_eq_true_eq] at h1
  exact ⟨h1.1.1, h1.1.2, h1.2⟩
theorem or_d : (List.range 64).all (fun x => (List.range 6).all fun k => decide (0 ≤ Go.bits .or IntKind.i64 (x : Int) (2 ^ k) ∧ Go.bits .or IntKind.i64 (x : Int) (2 ^ k) < 64) && (List.range 6).all fun b => decide (bt (Go.bits .or IntKind.i64 (x : Int) (2 ^ k)) b = if b = k then 1 else bt (x : Int) b)) = true := by kernel_rfl
theorem or_l {x : Int} (h0 : 0 ≤ x) (h1 : x < 64) {k : Nat} (hk : k < 6) : (0 ≤ Go.bits .or IntKind.i64 x (2 ^ k) ∧ Go.bits .or IntKind.i64 x (2 ^ k) < 64) ∧ ∀ b, b < 6 → bt (Go.bits .or IntKind.i64 x (2 ^ k)) b = if b = k then 1 else bt x b := by
  obtain ⟨m, rfl⟩ : ∃ m : Nat, x = m := ⟨x.toNat, by omega⟩
  have h2 := List.all_eq_true.1 or_d m (List.mem_range.2 (by omega))
  have h3 := List.all_eq_true.1 h2 k (List.mem_range.2 hk)
  simp only [Bool.and_eq_true, decide_eq_true_eq] at h3
  refine ⟨h3.1, fun b hb => ?_⟩
  have h4 := List.all_eq_true.1 h3.2 b (List.mem_range.2 hb)
  simpa using h4
theorem ext6 {x y : Int} (h0 : 0 ≤ x) (h1 : x < 64) (h2 : 0 ≤ y) (h3 : y < 64) (h : ∀ b, b < 6 → bt x b = bt y b) : x = y := by
  have e0 := h 0 (by omega); have e1 := h 1 (by omega); have e2 := h 2 (by omega); have e3 := h 3 (by omega); have e4 := h 4 (by omega); have e5 := h 5 (by omega)
  simp only [bt] at e0 e1 e2 e3 e4 e5
  omega
theorem pairsF_app (n : Int) : ∀ (ps qs : List (List UInt8)) (z : List Int), pairsF n (ps ++ qs) z = (pairsF n ps z).bind (pairsF n qs)
  | [], _, _ => rfl
  | p :: ps, qs, z => by
    match p with
    | [] => rfl
    | [_] => rfl
    | _ :: _ :: _ :: _ => rfl
    | [x, y] =>
      simp only [List.cons_append, pairsF]
      split
      · exact pairsF_app n ps qs _
      · rfl
/-- The pairs that were told are those ahead of (i, k). -/
def ahead (i k a b : Nat) : Prop := min a b < i ∨ (min a b = i ∧ max a b < k)
instance (i k a b : Nat) : Decidable (ahead i k a b) := inferInstanceAs (Decidable (_ ∨ _))
structure Inv (net : List Int) (prs : List ByteArray) (y : ByteArray) (z : List Int) (i k : Nat) : Prop where
  pr : PR prs y (7 * i + k)
  fold : pairsF (net.length : Int) (prs.map (·.data.toList)) (List.replicate net.length 0) = some z
  fm : ∀ p ∈ prs, ∃ a b, a < 6 ∧ b < 6 ∧ p.data.toList = [UInt8.ofNat (48 + a), UInt8.ofNat (48 + b)]
  zl : z.length = net.length
  zr : ∀ a, a < net.length → 0 ≤ z.getD a 0 ∧ z.getD a 0 < 64
  zb : ∀ a, a < net.length → ∀ b, b < 6 → bt (z.getD a 0) b = if ahead i k a b then bt (net.getD a 0) b else 0
theorem orb_at {z : List Int} {a b : Nat} (hb : b ≤ 60) (ha : a < z.length) (c : Nat) : (orb z (a : Int) (b : Int)).getD c 0 = if c = a then Go.bits .or IntKind.i64 (z.getD a 0) (2 ^ b) else z.getD c 0 := by
  unfold orb
  rw [sh1 (by omega), Int.toNat_natCast]
  simp only [List.getD_eq_getElem?_getD]
  by_cases h : c = a
  · subst h; rw [if_pos rfl, List.getElem?_set_self ha]; rfl
  · rw [if_neg h, List.getElem?_set_ne (Ne.symm h)]
section
variable {net st : List Int} {kd : Int} (h : PlP net kd st)
include h
theorem net_hi {a b : Nat} (ha : a < net.length) (hb : net.length ≤ b) : bt (net.getD a 0) b = 0 := by
  have hr := h.1.rng a ha
  have hp : (2 : Int) ^ net.length ≤ 2 ^ b := by exact_mod_cast Nat.pow_le_pow_right (show 0 < 2 by omega) hb
  unfold bt
  rw [Int.ediv_eq_zero_of_lt hr.1 (by omega)]
  rfl
theorem net64 {a : Nat} (ha : a < net.length) : 0 ≤ net.getD a 0 ∧ net.getD a 0 < 64 := by
  have hr := h.1.rng a ha
  have := (pow6 h.1.hi).1
  omega
theorem inv_start {prs : List ByteArray} {y : ByteArray} {z : List Int} {i : Nat} (r : Inv net prs y z i 0) : Inv net prs y z i (i + 1) := by
  refine ⟨⟨r.pr.eq, r.pr.pos, by have := r.pr.len; omega, r.pr.sz⟩, r.fold, r.fm, r.zl, r.zr, fun a ha b hb => ?_⟩
  rw [r.zb a ha b hb]
  by_cases c : a = i ∧ b = i
  · obtain ⟨rfl, rfl⟩ := c
    rw [if_neg (by unfold ahead; omega), if_pos (by unfold ahead; omega), h.1.self _ ha]
  · have : ahead i 0 a b ↔ ahead i (i + 1) a b := by unfold ahead; omega
    simp only [this]
theorem inv_end {prs : List ByteArray} {y : ByteArray} {z : List Int} {i : Nat} (r : Inv net prs y z i net.length) : Inv net prs y z (i + 1) 0 := by
  have hn := h.1.hi
  refine ⟨⟨r.pr.eq, r.pr.pos, by have := r.pr.len; omega, r.pr.sz⟩, r.fold, r.fm, r.zl, r.zr, fun a ha b hb => ?_⟩
  rw [r.zb a ha b hb]
  by_cases hb' : b < net.length
  · have : ahead i net.length a b ↔ ahead (i + 1) 0 a b := by unfold ahead; omega
    simp only [this]
  · rw [net_hi h ha (by omega)]
    simp
theorem inv_skip {prs : List ByteArray} {y : ByteArray} {z : List Int} {i k : Nat} (hi : i < net.length) (hik : i < k) (hk : k < net.length) (h0 : bt (net.getD i 0) k = 0) (r : Inv net prs y z i k) : Inv net prs y z i (k + 1) := by
  refine ⟨⟨r.pr.eq, r.pr.pos, by have := r.pr.len; omega, r.pr.sz⟩, r.fold, r.fm, r.zl, r.zr, fun a ha b hb => ?_⟩
  rw [r.zb a ha b hb]
  by_cases c : (a = i ∧ b = k) ∨ (a = k ∧ b = i)
  · have e : bt (net.getD a 0) b = 0 := by
      rcases c with ⟨rfl, rfl⟩ | ⟨rfl, rfl⟩
      · exact h0
      · rw [h.1.sym _ ha _ hi]; exact h0
    rw [e]; simp
  · have : ahead i k a b ↔ ahead i (k + 1) a b := by unfold ahead; omega
    simp only [this]
theorem inv_take {prs : List ByteArray} {y y' : ByteArray} {z : List Int} {i k : Nat} (hi : i < net.length) (hik : i < k) (hk : k < net.length) (h1 : bt (net.getD i 0) k = 1) (r : Inv net prs y z i k) (hp : PR (prs ++ [itoaS (i : Int) ++ itoaS (k : Int)]) y' (7 * i + (k + 1))) :
    Inv net (prs ++ [itoaS (i : Int) ++ itoaS (k : Int)]) y' (stepP z (i : Int) (k : Int)) i (k + 1) := by
  have hn := h.1.hi
  obtain ⟨l1, d1, _⟩ := itoa_l (a := i) (by omega)
  obtain ⟨l2, d2, _⟩ := itoa_l (a := k) (by omega)
  have hl : (itoaS (i : Int) ++ itoaS (k : Int)).data.toList = [UInt8.ofNat (48 + i), UInt8.ofNat (48 + k)] := by rw [ba_app, l1, l2]; rfl
  have g : ∀ c, (stepP z (i : Int) (k : Int)).getD c 0 = if c = k then Go.bits .or IntKind.i64 (z.getD k 0) (2 ^ i) else if c = i then Go.bits .or IntKind.i64 (z.getD i 0) (2 ^ k) else z.getD c 0 := fun c => by
    unfold stepP
    have hz := r.zl
    rw [orb_at (z := orb z (i : Int) (k : Int)) (a := k) (b := i) (by omega) (by rw [List.length_set]; omega) c, orb_at (z := z) (a := i) (b := k) (by omega) (by omega) k, orb_at (z := z) (a := i) (b := k) (by omega) (by omega) c, if_neg (show ¬ k = i by omega)]
  have oi := or_l (r.zr i hi).1 (r.zr i hi).2 (k := k) (by omega)
  have ok := or_l (r.zr k hk).1 (r.zr k hk).2 (k := i) (by omega)
  refine ⟨hp, ?_, fun p hp => ?_, by rw [stepP_len]; exact r.zl, fun a ha => ?_, fun a ha b hb => ?_⟩
  · rw [List.map_append, pairsF_app, r.fold, Option.bind_some, List.map_cons, List.map_nil, hl, pairsF, d1, d2, if_pos ⟨by omega, by omega, by omega, by omega⟩]
    rfl
  · rcases List.mem_append.1 hp with hp | hp
    · exact r.fm p hp
    · have : p = itoaS (i : Int) ++ itoaS (k : Int) := by simpa using hp
      rw [this]
      exact ⟨i, k, by omega, by omega, hl⟩
  · rw [g]
    split
    · exact ok.1
    · split
      · exact oi.1
      · exact r.zr a ha
  · rw [g]
    by_cases ca : a = k
    · rw [if_pos ca, ok.2 b hb]
      by_cases cb : b = i
      · rw [if_pos cb, ca, cb, if_pos (by unfold ahead; omega), h.1.sym k hk i hi, h1]
      · rw [if_neg cb, r.zb k hk b hb, ca]
        have : ahead i k k b ↔ ahead i (k + 1) k b := by unfold ahead; omega
        simp only [this]
    · rw [if_neg ca]
      by_cases ci : a = i
      · rw [if_pos ci, oi.2 b hb]
        by_cases cb : b = k
        · rw [if_pos cb, ci, cb, if_pos (by unfold ahead; omega), h1]
        · rw [if_neg cb, r.zb i hi b hb, ci]
          have : ahead i k i b ↔ ahead i (k + 1) i b := by unfold ahead; omega
          simp only [this]
      · rw [if_neg ci, r.zb a ha b hb]
        have : ahead i k a b ↔ ahead i (k + 1) a b := by unfold ahead; omega
        simp only [this]
def GoalT (net st : List Int) (kd : Int) (o : Option ByteArray) : Prop := ∃ prs y z, Inv net prs y z net.length 0 ∧ o = s_PlaceText_j2 y (dgs st st.length) net kd st
theorem row_val (i : Nat) (hi : i < net.length) (ho : ∀ prs y z, Inv net prs y z (i + 1) 0 → GoalT net st kd (s_PlaceText_l0 y (dgs st (i + 1)) ((i + 1 : Nat) : Int) net kd st)) :
    ∀ k, k ≤ net.length → i < k → ∀ prs y z, Inv net prs y z i k → GoalT net st kd (s_PlaceText_l1 y (dgs st (i + 1)) (i : Int) (k : Int) net kd st) := by
  have hnl : net.length ≤ 6 := h.1.hi
  have z := z14
  refine advN ?_ fun k hk ih => ?_
  · intro _ prs y z r
    rw [s_PlaceText_l1_eq, cnd_f (by omega), w1 hi (by omega)]
    exact ho prs y z (inv_end h r)
  · intro hik prs y z' r
    have hl := r.pr.len
    have hs := r.pr.sz
    have hx := (h.1.rng i hi).1
    rw [s_PlaceText_l1_eq, cnd_t (by omega), if_pos (inN hi), if_neg (show ¬ ((k : Nat) : Int) < 0 by omega), gN, bit_mod hx (show k ≤ 64 by omega), w1 hk (by omega)]
    rcases bt01 (net.getD i 0) k with hb | hb
    · rw [hb, show ((0 : Int) == 0) = true from rfl, cond_true]
      exact ih (by omega) prs y z' (inv_skip h hi hik hk hb r)
    · rw [hb, show ((1 : Int) == 0) = false from rfl, cond_false]
      have a1 := itoa_size (n := (i : Int)) (by omega) (by omega)
      have a2 := itoa_size (n := (k : Int)) (by omega) (by omega)
      have p1 := itoa_pos (n := (i : Int)) (by omega) (by omega)
      have j3 : ∀ y' : ByteArray, y'.size ≤ 1000 → s_PlaceText_j3 y' (dgs st (i + 1)) (i : Int) (k : Int) net kd st = s_PlaceText_l1 ((y' ++ itoaS (i : Int)) ++ itoaS (k : Int)) (dgs st (i + 1)) (i : Int) ((k + 1 : Nat) : Int) net kd st := fun y' hy' => by
        rw [s_PlaceText_j3_eq, num_val (by omega) (by omega), Option.bind_some, if_pos (by omega), num_val (by omega) (by omega), Option.bind_some, if_pos (by simp only [ByteArray.size_append]; omega), w1 hk (by omega)]
      by_cases hp : prs = []
      · subst hp
        have hy : y = ByteArray.empty := r.pr.eq.symm.trans (joinS_nil _)
        subst hy
        rw [show (!(ByteArray.toList ByteArray.empty == ByteArray.toList ByteArray.empty)) = false from by simp, cond_false, j3 _ (by simp)]
        refine ih (by omega) _ _ _ (inv_take h hi hik hk hb r ⟨?_, fun _ => ?_, by simp; omega, ?_⟩)
        · rw [List.nil_append, joinS_one, ByteArray.empty_append]
        · simp only [ByteArray.size_append]; omega
        · simp only [ByteArray.size_append, List.nil_append, List.length_cons, List.length_nil]; simp; omega
      · rw [empty_toList (r.pr.pos hp), Bool.not_false, cond_true, if_pos (show y.size + ByteArray.size str14 ≤ 9223372036854775807 by omega), j3 _ (by simp only [ByteArray.size_append]; omega)]
        refine ih (by omega) _ _ _ (inv_take h hi hik hk hb r ⟨?_, fun _ => ?_, by simp; omega, ?_⟩)
        · rw [joinS_snoc hp, r.pr.eq, ByteArray.append_assoc, ByteArray.append_assoc, ByteArray.append_assoc]
        · simp only [ByteArray.size_append]; omega
        · simp only [ByteArray.size_append, List.length_append, List.length_cons, List.length_nil]; omega
theorem all_val : ∀ i, i ≤ net.length → ∀ prs y z, Inv net prs y z i 0 → GoalT net st kd (s_PlaceText_l0 y (dgs st i) (i : Int) net kd st) := by
  have hnl : net.length ≤ 6 := h.1.hi
  have he := h.2.2
  have hst := st_rng h
  refine advN ?_ fun i hi ih => ?_
  · intro prs y z r
    rw [s_PlaceText_l0_eq, cnd_f (by omega), he]
    exact ⟨prs, y, z, he ▸ r, rfl⟩
  · intro prs y z r
    have hi' : i < st.length := by omega
    have h2 := hst i hi'
    have a1 := itoa_size h2.1 h2.2
    have a3 := dgs_size hst i (by omega)
    rw [s_PlaceText_l0_eq, cnd_t (by omega), if_pos (inN hi'), gN, num_val h2.1 h2.2, Option.bind_some, if_pos (by omega), w1 hi (by omega)]
    exact row_val h i hi ih (i + 1) (by omega) (by omega) prs y z (inv_start h r)
theorem inv_last {prs : List ByteArray} {y : ByteArray} {z : List Int} (r : Inv net prs y z net.length 0) : z = net := by
  have hn := h.1.hi
  refine ext_of_getD r.zl fun a ha => ?_
  have ha' : a < net.length := by have := r.zl; omega
  refine ext6 (r.zr a ha').1 (r.zr a ha').2 (net64 h ha').1 (net64 h ha').2 fun b hb => ?_
  rw [r.zb a ha' b hb, if_pos (by unfold ahead; omega)]
omit h in
theorem inv_zero (hz : net.length ≤ 6) : Inv net [] ByteArray.empty (List.replicate net.length 0) 0 0 := by
  refine ⟨⟨joinS_nil _, fun h => absurd rfl h, by simp, by simp⟩, rfl, fun p hp => (by cases hp), by simp, fun a ha => ?_, fun a ha b hb => ?_⟩
  · have : (List.replicate net.length (0 : Int)).getD a 0 = 0 := by simp [List.getD_eq_getElem?_getD, ha]
    rw [this]; omega
  · have : (List.replicate net.length (0 : Int)).getD a 0 = 0 := by simp [List.getD_eq_getElem?_getD, ha]
    rw [this, if_neg (by unfold ahead; omega)]
    simp [bt]
end
/-- Bytes of joined pairs. -/
theorem cut_join : ∀ (prs : List ByteArray), prs ≠ [] → (∀ p ∈ prs, (44 : UInt8) ∉ p.data.toList) → cutL 44 (joinS prs str14).data.toList = prs.map (·.data.toList) := by
  have app : ∀ (l : List ByteArray) (t : List UInt8), (∀ p ∈ l, (44 : UInt8) ∉ p.data.toList) → ∀ x : List UInt8, (44 : UInt8) ∉ x → cutL 44 (x ++ Lib.joinTail [44] (l.map fun b => b.data.toList)) = x :: l.map fun b => b.data.toList := by
    intro l
    induction l with
    | nil => intro t _ x hx; simp [Lib.joinTail, cutL_one hx]
    | cons p l ih =>
      intro t hp x hx
      have := ih t (fun q hq => hp q (by simp [hq])) p.data.toList (hp p (by simp))
      have e : Lib.joinTail [44] ((p :: l).map fun b => b.data.toList) = 44 :: (p.data.toList ++ Lib.joinTail [44] (l.map fun b => b.data.toList)) := by simp [Lib.joinTail]
      rw [e, cutL_sep hx, this]
      rfl
  intro prs hne hp
  cases prs with
  | nil => exact absurd rfl hne
  | cons p l =>
    have := app l [] (fun q hq => hp q (by simp [hq])) p.data.toList (hp p (by simp))
    rw [List.map_cons, ← this]
    have e : (joinS (p :: l) str14).data.toList = Lib.join (p.data.toList :: l.map fun b => b.data.toList) [44] := rfl
    rw [e, Lib.join_cons]
end FN
/-! The texts of deeds, told; and cut. -/
namespace FN
open Go
def dtx (k a b : Int) : ByteArray :=
  if 0 ≤ a ∧ a ≤ 99 ∧ 0 ≤ b ∧ b ≤ 99 then
    (if k = 0 then ((str0 ++ itoaS a) ++ str1) ++ itoaS b else if b ≠ 0 then ByteArray.empty else if k = 1 then str2 ++ itoaS a else if k = 3 then str3 ++ itoaS a else if a ≠ 0 then ByteArray.empty else if k = 2 then str4 else if k = 4 then str5 else ByteArray.empty)
  else ByteArray.empty
theorem sdeed_val (k a b : Int) : s_DeedText_f (k, a, b) = some (dtx k a b) := by
  rw [s_DeedText_f_eq, l1In_val, Option.bind_some]
  by_cases ha : 0 ≤ a ∧ a ≤ 99
  · rw [decide_eq_true ha, l1In_val, Option.bind_some, Bool.not_true, cond_false]
    by_cases hb : 0 ≤ b ∧ b ≤ 99
    · rw [decide_eq_true hb, Bool.not_true, cond_false]
      unfold dtx
      rw [if_pos (show 0 ≤ a ∧ a ≤ 99 ∧ 0 ≤ b ∧ b ≤ 99 from ⟨ha.1, ha.2, hb⟩)]
      obtain ⟨z0, z1, z2, z3, z10, z11, z12⟩ := szs
      have sa := itoa_size ha.1 (show a < 100 by omega)
      have sb := itoa_size hb.1 (show b < 100 by omega)
      have na := num_val ha.1 (show a < 100 by omega)
      have nb := num_val hb.1 (show b < 100 by omega)
      by_cases k0 : k = 0
      · subst k0
        rw [if_pos rfl]
        simp only [beq_self_eq_true, Bool.true_and, cond_true]
        rw [na, Option.bind_some, if_pos (by rw [z0]; omega), if_pos (by rw [ByteArray.size_append, z0, z1]; omega), nb, Option.bind_some, if_pos (by rw [ByteArray.size_append, ByteArray.size_append, z0, z1]; omega)]
      · have e0 : (k == 0) = false := by simpa using k0
        rw [e0, if_neg k0]
        simp only [Bool.false_and, cond_false, beq_self_eq_true, Bool.true_and, Bool.and_true]
        by_cases hb0 : b = 0
        · subst hb0
          rw [if_neg (by simp)]
          simp only [beq_self_eq_true, Bool.and_true]
          by_cases k1 : k = 1
          · subst k1
            rw [if_pos rfl, show ((1 : Int) == 1) = true from rfl, cond_true, na, Option.bind_some, if_pos (by rw [z2]; omega)]
          · have e1 : (k == 1) = false := by simpa using k1
            rw [e1, if_neg k1]
            simp only [cond_false]
            by_cases k3 : k = 3
            · subst k3
              rw [if_pos rfl, show ((3 : Int) == 3) = true from rfl, cond_true, na, Option.bind_some, if_pos (by rw [z3]; omega)]
            · have e3 : (k == 3) = false := by simpa using k3
              rw [e3, if_neg k3]
              simp only [cond_false]
              by_cases ha0 : a = 0
              · subst ha0
                rw [if_neg (by simp)]
                simp only [beq_self_eq_true, Bool.and_true]
                by_cases k2 : k = 2
                · subst k2; rfl
                · have e2 : (k == 2) = false := by simpa using k2
                  rw [e2, if_neg k2]
                  by_cases k4 : k = 4
                  · subst k4; rfl
                  · have e4 : (k == 4) = false := by simpa using k4
                    rw [e4, if_neg k4]
                    rfl
              · have ea : (a == 0) = false := by simpa using ha0
                rw [ea, if_pos ha0]
                simp only [Bool.and_false, cond_false]
        · have eb : (b == 0) = false := by simpa using hb0
          rw [eb, if_pos hb0]
          simp only [Bool.and_false, cond_false]
    · rw [decide_eq_false hb]
      unfold dtx
      rw [if_neg (fun h => hb h.2.2)]
      rfl
  · rw [decide_eq_false ha]
    unfold dtx
    rw [if_neg (fun h => ha ⟨h.1, h.2.1⟩)]
    rfl
theorem deed_val (k a b : Int) : s_DeedText_f (k, a, b) = some (dtx k a b) ∧ i_DeedText_f (k, a, b) = some (dtx k a b) ∧ (dtx k a b).size ≤ 20 := by
  obtain ⟨s, h1, h2, h3⟩ := deedText_same k a b
  have h4 := sdeed_val k a b
  rw [h1] at h4
  have h5 := Option.some.inj h4
  subst h5
  exact ⟨h1, h2, h3⟩
/-- Numerals below a hundred: without spaces, and what their digits come to. -/
theorem it_d : (List.range 100).all (fun a => decide ((32 : UInt8) ∉ (itoaS (a : Int)).data.toList) && decide ((10 : UInt8) ∉ (itoaS (a : Int)).data.toList) && decide (1 ≤ (itoaS (a : Int)).data.toList.length ∧ (itoaS (a : Int)).data.toList.length ≤ 2) && decide (if (itoaS (a : Int)).data.toList.length = 1 then (48 ≤ ((itoaS (a : Int)).data.toList.getD 0 0).toNat ∧ ((itoaS (a : Int)).data.toList.getD 0 0).toNat ≤ 57 ∧ dig ((itoaS (a : Int)).data.toList.getD 0 0) = (a : Int)) else (48 ≤ ((itoaS (a : Int)).data.toList.getD 0 0).toNat ∧ ((itoaS (a : Int)).data.toList.getD 0 0).toNat ≤ 57 ∧ ((itoaS (a : Int)).data.toList.getD 0 0).toNat ≠ 48 ∧ 48 ≤ ((itoaS (a : Int)).data.toList.getD 1 0).toNat ∧ ((itoaS (a : Int)).data.toList.getD 1 0).toNat ≤ 57 ∧ 10 * dig ((itoaS (a : Int)).data.toList.getD 0 0) + dig ((itoaS (a : Int)).data.toList.getD 1 0) = (a : Int)))) = true := by kernel_rfl
theorem it_l {a : Int} (h0 : 0 ≤ a) (h1 : a ≤ 99) : (32 : UInt8) ∉ (itoaS a).data.toList ∧ (10 : UInt8) ∉ (itoaS a).data.toList ∧ ((∃ x, (itoaS a).data.toList = [x] ∧ 48 ≤ x.toNat ∧ x.toNat ≤ 57 ∧ dig x = a) ∨ ∃ x y, (itoaS a).data.toList = [x, y] ∧ 48 ≤ x.toNat ∧ x.toNat ≤ 57 ∧ x.toNat ≠ 48 ∧ 48 ≤ y.toNat ∧ y.toNat ≤ 57 ∧ 10 * dig x + dig y = a) := by
  obtain ⟨m, rfl⟩ : ∃ m : Nat, a = m := ⟨a.toNat, by omega⟩
  have h2 := List.all_eq_true.1 it_d m (List.mem_range.2 (by omega))
  simp only [Bool.and_eq_true, decide_eq_true_eq] at h2
  obtain ⟨⟨⟨h3, h4⟩, h5⟩, h6⟩ := h2
  refine ⟨h3, h4, ?_⟩
  generalize (itoaS (m : Int)).data.toList = l at h5 h6
  match l, h5, h6 with
  | [x], _, h6 => exact .inl ⟨x, rfl, by simpa using h6⟩
  | [x, y], _, h6 => exact .inr ⟨x, y, rfl, by simpa using h6⟩
theorem digits_itoa {a : Int} (h0 : 0 ≤ a) (h1 : a ≤ 99) : s_l1Digits_f (itoaS a) = some a := by
  obtain ⟨_, _, h⟩ := it_l h0 h1
  rw [← of_data (itoaS a)]
  rcases h with ⟨x, e, a1, a2, a3⟩ | ⟨x, y, e, a1, a2, a3, a4, a5, a6⟩
  · rw [e, digits_one, if_pos ⟨a1, a2⟩, a3]
  · have hd : dig x = (x.toNat : Int) - 48 := rfl
    rw [e, s_l1Digits_f_eq, ofL_size, l1In_val, Option.bind_some, show (!decide (1 ≤ (([x, y] : List UInt8).length : Int) ∧ (([x, y] : List UInt8).length : Int) ≤ 6)) = false from rfl, cond_false, cnd_t (show (1 : Int) < (([x, y] : List UInt8).length : Int) by simp), if_pos (by simp)]
    rw [show List.getD (ByteArray.data (ofL [x, y])).toList (0 : Int).toNat 0 = x from rfl, beq_f (by omega)]
    have s1 := digits_step (L := [x, y]) (k := 0) (by simp) (by simp) (n := 0) (by omega) (by omega)
    have s2 := digits_step (L := [x, y]) (k := 1) (by simp) (by simp) (n := 10 * 0 + dig x) (by omega) (by omega)
    have s3 := digits_end (L := [x, y]) (n := 10 * (10 * 0 + dig x) + dig y)
    refine (s1.trans (if_pos ⟨a1, a2⟩)).trans ((s2.trans (if_pos ⟨a4, a5⟩)).trans (s3.trans ?_))
    rw [Int.mul_zero, Int.zero_add, a6]
end FN
/-! Deeds read: the program's and the reference's answer. -/
namespace FN
open Go
theorem beq_b {a b : ByteArray} {α : Type} {x y : α} : cond (ByteArray.toList a == ByteArray.toList b) x y = if a = b then x else y := by
  rw [toL, toL]
  by_cases h : a = b
  · rw [if_pos h, h]; simp
  · rw [if_neg h]
    have : (a.data.toList == b.data.toList) = false := by
      rw [beq_eq_false_iff_ne]
      intro e
      exact h (ba_ext e)
    rw [this]; rfl
theorem nbeq_b {a b : ByteArray} {α : Type} {x y : α} : cond (!(ByteArray.toList a == ByteArray.toList b)) x y = if a = b then y else x := by
  rw [show cond (!(ByteArray.toList a == ByteArray.toList b)) x y = cond (ByteArray.toList a == ByteArray.toList b) y x by cases (ByteArray.toList a == ByteArray.toList b) <;> rfl, beq_b]
def idx (w : ByteArray) : Int := if w = str10 then 0 else if w = str11 then 1 else if w = str4 then 2 else if w = str12 then 3 else if w = str5 then 4 else -1
abbrev wds : List ByteArray := [str10, str11, str4, str12, str5]
theorem index_val (w : ByteArray) : x_slices_Index_string_string_f (wds, w) = some (idx w) := by
  have w0 : IntKind.i64.wrap (0 + 1) = 1 := by decide
  have w1 : IntKind.i64.wrap (1 + 1) = 2 := by decide
  have w2 : IntKind.i64.wrap (2 + 1) = 3 := by decide
  have w3 : IntKind.i64.wrap (3 + 1) = 4 := by decide
  have w4 : IntKind.i64.wrap (4 + 1) = 5 := by decide
  have hl : (List.length wds : Int) = 5 := rfl
  rw [x_slices_Index_string_string_f_eq, hl]
  unfold idx
  rw [x_slices_Index_string_string_l0_eq, cnd_t (by omega), if_pos (by rw [hl]; omega), show List.getD wds (0 : Int).toNat ByteArray.empty = str10 from rfl, beq_b, w0]
  by_cases h : w = str10
  · rw [if_pos h, if_pos h]
  rw [if_neg h, if_neg h, x_slices_Index_string_string_l0_eq, cnd_t (by omega), if_pos (by rw [hl]; omega), show List.getD wds (1 : Int).toNat ByteArray.empty = str11 from rfl, beq_b, w1]
  by_cases h : w = str11
  · rw [if_pos h, if_pos h]
  rw [if_neg h, if_neg h, x_slices_Index_string_string_l0_eq, cnd_t (by omega), if_pos (by rw [hl]; omega), show List.getD wds (2 : Int).toNat ByteArray.empty = str4 from rfl, beq_b, w2]
  by_cases h : w = str4
  · rw [if_pos h, if_pos h]
  rw [if_neg h, if_neg h, x_slices_Index_string_string_l0_eq, cnd_t (by omega), if_pos (by rw [hl]; omega), show List.getD wds (3 : Int).toNat ByteArray.empty = str12 from rfl, beq_b, w3]
  by_cases h : w = str12
  · rw [if_pos h, if_pos h]
  rw [if_neg h, if_neg h, x_slices_Index_string_string_l0_eq, cnd_t (by omega), if_pos (by rw [hl]; omega), show List.getD wds (4 : Int).toNat ByteArray.empty = str5 from rfl, beq_b, w4]
  by_cases h : w = str5
  · rw [if_pos h, if_pos h]
  rw [if_neg h, if_neg h, x_slices_Index_string_string_l0_eq, cnd_f (by omega)]
theorem idx_rng (w : ByteArray) : -1 ≤ idx w ∧ idx w ≤ 4 := by
  unfold idx
  repeat' split
  all_goals omega
abbrev noD : Int × Int × Int × Bool := (0, 0, 0, false)
theorem atoi_val {w : ByteArray} (h : w.size ≤ 281474976710656) : x_strconv_Atoi_f w = some (atoiV w, ()) := if_pos h
theorem atoi_d : (List.range 100).all (fun a => decide (atoiV (itoaS (a : Int)) = (a : Int))) = true := by kernel_rfl
theorem atoi_itoa {a : Int} (h0 : 0 ≤ a) (h1 : a ≤ 99) : atoiV (itoaS a) = a := by
  obtain ⟨m, rfl⟩ : ∃ m : Nat, a = m := ⟨a.toNat, by omega⟩
  have := List.all_eq_true.1 atoi_d m (List.mem_range.2 (by omega))
  simpa using this
theorem i_j1 (S : ByteArray) (y1 y2 y3 k a b : Int) : i_ReadDeed_j1 S y1 y2 y3 k a b = some (if dtx k a b = S then (k, a, b, true) else noD) := by
  rw [i_ReadDeed_j1_eq, (deed_val k a b).2.1, Option.bind_some, nbeq_b]
  split <;> rfl
/-- A part's place. -/
theorem gW {W : List (List UInt8)} {i : Nat} {p : List UInt8} (h : W[i]? = some p) : List.getD (W.map ofL) ((i : Int)).toNat ByteArray.empty = ofL p := by
  rw [Int.toNat_natCast, List.getD_eq_getElem?_getD, List.getElem?_map, h]; rfl
def prt (W : List (List UInt8)) (i : Nat) : ByteArray := ofL (W.getD i [])
theorem gW' {W : List (List UInt8)} {i : Nat} (h : i < W.length) : List.getD (W.map ofL) ((i : Int)).toNat ByteArray.empty = prt W i := by
  rw [gW (List.getElem?_eq_getElem h)]
  unfold prt
  rw [List.getD_eq_getElem?_getD, List.getElem?_eq_getElem h]; rfl
/-- What the program makes of the parts. -/
def iA (W : List (List UInt8)) : Int := if 1 < W.length then atoiV (prt W 1) else 0
def iB (W : List (List UInt8)) : Int := if 2 < W.length then atoiV (prt W 2) else 0
def iOf (S : ByteArray) (W : List (List UInt8)) : Int × Int × Int × Bool :=
  if idx (prt W 0) < 0 then noD else if 3 < W.length then noD else if dtx (idx (prt W 0)) (iA W) (iB W) = S then (idx (prt W 0), iA W, iB W, true) else noD
theorem prt_size {L : List UInt8} {i : Nat} (hi : i < (cutL 32 L).length) (hL : L.length ≤ 4294967280) : (prt (cutL 32 L) i).size ≤ 281474976710656 := by
  unfold prt
  rw [ofL_size, List.getD_eq_getElem?_getD, List.getElem?_eq_getElem hi]
  have := cutL_word 32 L _ (List.getElem_mem hi)
  show ((cutL 32 L)[i]).length ≤ _
  omega
theorem kindOf {r : Int} (h0 : 0 ≤ r) (h1 : r ≤ 4) : List.getD ([0, 1, 2, 3, 4] : List Int) (r : Int).toNat 0 = r := by
  obtain rfl | rfl | rfl | rfl | rfl : r = 0 ∨ r = 1 ∨ r = 2 ∨ r = 3 ∨ r = 4 := by omega
  all_goals rfl
theorem i_val (L : List UInt8) (hL : L.length ≤ 4294967280) : i_ReadDeed_f (ofL L) = some (iOf (ofL L) (cutL 32 L)) := by
  have hne : 0 < (cutL 32 L).length := List.length_pos_iff.2 (cutL_ne 32 L)
  have hlen := cutL_len 32 L
  have hj0 : ∀ k a : Int, (cutL 32 L).length ≤ 3 → i_ReadDeed_j0 (ofL L) ((cutL 32 L).map ofL) 0 0 0 k a 0 = some (if dtx k a (iB (cutL 32 L)) = ofL L then (k, a, iB (cutL 32 L), true) else noD) := by
    intro k a h3
    rw [i_ReadDeed_j0_eq, List.length_map]
    unfold iB
    by_cases h2 : 2 < (cutL 32 L).length
    · rw [cnd_t (by omega), if_pos (by omega), show List.getD ((cutL 32 L).map ofL) (2 : Int).toNat ByteArray.empty = prt (cutL 32 L) 2 from gW' h2, atoi_val (prt_size h2 hL), Option.bind_some, i_j1, if_pos h2]
    · rw [cnd_f (by omega), i_j1, if_neg h2]
  rw [i_ReadDeed_f_eq, show x_strings_Split_f (ofL L, str1) = _ from split_val L 32 hL, Option.bind_some, List.length_map, if_pos (by omega), show List.getD ((cutL 32 L).map ofL) (0 : Int).toNat ByteArray.empty = prt (cutL 32 L) 0 from gW' hne, index_val, Option.bind_some]
  unfold iOf
  have hr := idx_rng (prt (cutL 32 L) 0)
  by_cases h0 : idx (prt (cutL 32 L) 0) < 0
  · rw [cnd_t h0, if_pos h0]
  rw [cnd_f h0, if_neg h0]
  by_cases h3 : 3 < (cutL 32 L).length
  · rw [cnd_t (by omega), if_pos h3]
  rw [cnd_f (by omega), if_neg h3, if_pos (show (0 : Int) ≤ idx (prt (cutL 32 L) 0) ∧ idx (prt (cutL 32 L) 0) < (List.length ([0, 1, 2, 3, 4] : List Int) : Int) from ⟨by omega, by show _ < (5 : Int); omega⟩), kindOf (by omega) hr.2]
  by_cases h1 : 1 < (cutL 32 L).length
  · rw [cnd_t (by omega), if_pos (by omega), show List.getD ((cutL 32 L).map ofL) (1 : Int).toNat ByteArray.empty = prt (cutL 32 L) 1 from gW' h1, atoi_val (prt_size h1 hL), Option.bind_some, hj0 _ _ (by omega), show iA (cutL 32 L) = atoiV (prt (cutL 32 L) 1) from if_pos h1]
  · rw [cnd_f (by omega), hj0 _ _ (by omega), show iA (cutL 32 L) = 0 from if_neg h1]
end FN
namespace FN
open Go
theorem szD (s : ByteArray) : s.size = s.data.toList.length := by rw [Array.length_toList]; rfl
abbrev Dd3 := Int × Int × Int
theorem gD3 {l : List Dd3} (i : Nat) : List.getD l ((i : Int)).toNat (0, 0, 0) = l.getD i (0, 0, 0) := by simp
theorem dtx_cut {k a b : Int} (h : dtx k a b ≠ ByteArray.empty) :
    (k = 0 ∧ (0 ≤ a ∧ a ≤ 99) ∧ (0 ≤ b ∧ b ≤ 99) ∧ cutL 32 (dtx k a b).data.toList = [str10.data.toList, (itoaS a).data.toList, (itoaS b).data.toList]) ∨
    (k = 1 ∧ b = 0 ∧ (0 ≤ a ∧ a ≤ 99) ∧ cutL 32 (dtx k a b).data.toList = [str11.data.toList, (itoaS a).data.toList]) ∨
    (k = 3 ∧ b = 0 ∧ (0 ≤ a ∧ a ≤ 99) ∧ cutL 32 (dtx k a b).data.toList = [str12.data.toList, (itoaS a).data.toList]) ∨
    (k = 2 ∧ a = 0 ∧ b = 0 ∧ cutL 32 (dtx k a b).data.toList = [str4.data.toList]) ∨
    (k = 4 ∧ a = 0 ∧ b = 0 ∧ cutL 32 (dtx k a b).data.toList = [str5.data.toList]) := by
  unfold dtx at h ⊢
  by_cases hr : 0 ≤ a ∧ a ≤ 99 ∧ 0 ≤ b ∧ b ≤ 99
  · rw [if_pos hr] at h ⊢
    obtain ⟨nA, _, _⟩ := it_l (a := a) (by omega) (by omega)
    obtain ⟨nB, _, _⟩ := it_l (a := b) (by omega) (by omega)
    by_cases k0 : k = 0
    · refine .inl ⟨k0, ⟨by omega, by omega⟩, ⟨by omega, by omega⟩, ?_⟩
      rw [if_pos k0, ba_app, ba_app, ba_app]
      have e : str0.data.toList ++ (itoaS a).data.toList ++ str1.data.toList ++ (itoaS b).data.toList = str10.data.toList ++ 32 :: ((itoaS a).data.toList ++ 32 :: (itoaS b).data.toList) := by
        rw [show str0.data.toList = str10.data.toList ++ [32] from rfl, show str1.data.toList = [32] from rfl]
        simp
      rw [e, cutL_sep (by decide), cutL_sep nA, cutL_one nB]
    · rw [if_neg k0] at h ⊢
      by_cases b0 : b ≠ 0
      · rw [if_pos b0] at h; exact absurd rfl h
      · have b0' : b = 0 := by omega
        rw [if_neg b0] at h ⊢
        by_cases k1 : k = 1
        · refine .inr (.inl ⟨k1, b0', ⟨by omega, by omega⟩, ?_⟩)
          rw [if_pos k1, ba_app]
          have e : str2.data.toList ++ (itoaS a).data.toList = str11.data.toList ++ 32 :: (itoaS a).data.toList := by
            rw [show str2.data.toList = str11.data.toList ++ [32] from rfl]
            simp
          rw [e, cutL_sep (by decide), cutL_one nA]
        · rw [if_neg k1] at h ⊢
          by_cases k3 : k = 3
          · refine .inr (.inr (.inl ⟨k3, b0', ⟨by omega, by omega⟩, ?_⟩))
            rw [if_pos k3, ba_app]
            have e : str3.data.toList ++ (itoaS a).data.toList = str12.data.toList ++ 32 :: (itoaS a).data.toList := by
              rw [show str3.data.toList = str12.data.toList ++ [32] from rfl]
              simp
            rw [e, cutL_sep (by decide), cutL_one nA]
          · rw [if_neg k3] at h ⊢
            by_cases a0 : a ≠ 0
            · rw [if_pos a0] at h; exact absurd rfl h
            · have a0' : a = 0 := by omega
              rw [if_neg a0] at h ⊢
              by_cases k2 : k = 2
              · exact .inr (.inr (.inr (.inl ⟨k2, a0', b0', by rw [if_pos k2]; decide⟩)))
              · rw [if_neg k2] at h ⊢
                by_cases k4 : k = 4
                · exact .inr (.inr (.inr (.inr ⟨k4, a0', b0', by rw [if_pos k4]; decide⟩)))
                · rw [if_neg k4] at h; exact absurd rfl h
  · rw [if_neg hr] at h; exact absurd rfl h
theorem idx_words : idx str10 = 0 ∧ idx str11 = 1 ∧ idx str4 = 2 ∧ idx str12 = 3 ∧ idx str5 = 4 ∧ idx ByteArray.empty = -1 := by
  refine ⟨?_, ?_, ?_, ?_, ?_, ?_⟩ <;> decide
theorem i_back {k a b : Int} (h : dtx k a b ≠ ByteArray.empty) : i_ReadDeed_f (dtx k a b) = some (k, a, b, true) := by
  have hs := (deed_val k a b).2.2
  have hv := i_val (dtx k a b).data.toList (by rw [← szD]; omega)
  rw [of_data] at hv
  rw [hv]
  obtain ⟨x0, x1, x2, x3, x4, _⟩ := idx_words
  rcases dtx_cut h with ⟨rfl, ha, hb, hc⟩ | ⟨rfl, rfl, ha, hc⟩ | ⟨rfl, rfl, ha, hc⟩ | ⟨rfl, rfl, rfl, hc⟩ | ⟨rfl, rfl, rfl, hc⟩
  · rw [hc]
    unfold iOf iA iB
    rw [show prt [str10.data.toList, (itoaS a).data.toList, (itoaS b).data.toList] 0 = str10 from of_data str10, show prt [str10.data.toList, (itoaS a).data.toList, (itoaS b).data.toList] 1 = itoaS a from of_data _, show prt [str10.data.toList, (itoaS a).data.toList, (itoaS b).data.toList] 2 = itoaS b from of_data _, x0, atoi_itoa ha.1 ha.2, atoi_itoa hb.1 hb.2]
    simp
  · rw [hc]
    unfold iOf iA iB
    rw [show prt [str11.data.toList, (itoaS a).data.toList] 0 = str11 from of_data str11, show prt [str11.data.toList, (itoaS a).data.toList] 1 = itoaS a from of_data _, x1, atoi_itoa ha.1 ha.2]
    simp
  · rw [hc]
    unfold iOf iA iB
    rw [show prt [str12.data.toList, (itoaS a).data.toList] 0 = str12 from of_data str12, show prt [str12.data.toList, (itoaS a).data.toList] 1 = itoaS a from of_data _, x3, atoi_itoa ha.1 ha.2]
    simp
  · rw [hc]
    unfold iOf iA iB
    rw [show prt [str4.data.toList] 0 = str4 from of_data str4, x2]
    simp
  · rw [hc]
    unfold iOf iA iB
    rw [show prt [str5.data.toList] 0 = str5 from of_data str5, x4]
    simp
theorem l2_val (S : ByteArray) (l : List Dd3) (hl : l.length ≤ 100) : ∀ i, i ≤ l.length → (s_ReadDeed_l2 S (i : Int) 0 0 0 l = some noD ∧ ∀ j, i ≤ j → j < l.length → S = ByteArray.empty ∨ dtx (l.getD j (0, 0, 0)).1 (l.getD j (0, 0, 0)).2.1 (l.getD j (0, 0, 0)).2.2 ≠ S) ∨ ∃ k a b, s_ReadDeed_l2 S (i : Int) 0 0 0 l = some (k, a, b, true) ∧ dtx k a b = S ∧ S ≠ ByteArray.empty := by
  refine advN ?_ fun i hi ih => ?_
  · refine .inl ⟨?_, fun j h1 h2 => by omega⟩
    rw [s_ReadDeed_l2_eq, cnd_f (by omega)]
  · rw [s_ReadDeed_l2_eq, cnd_t (by omega), nbeq_b, w1 hi (by omega)]
    by_cases hS : S = ByteArray.empty
    · rw [if_pos hS]
      rcases ih with ⟨h1, h2⟩ | ⟨k, a, b, h1, h2, h3⟩
      · exact .inl ⟨h1, fun j _ _ => .inl hS⟩
      · exact absurd hS h3
    · rw [if_neg hS, if_pos (inN hi), gD3, (deed_val _ _ _).1, Option.bind_some, beq_b, if_pos (inN hi)]
      by_cases hd : dtx (l.getD i (0, 0, 0)).1 (l.getD i (0, 0, 0)).2.1 (l.getD i (0, 0, 0)).2.2 = S
      · rw [if_pos hd]
        exact .inr ⟨_, _, _, rfl, hd, hS⟩
      · rw [if_neg hd]
        rcases ih with ⟨h1, h2⟩ | h
        · refine .inl ⟨h1, fun j h3 h4 => ?_⟩
          by_cases e : j = i
          · rw [e]; exact .inr hd
          · exact h2 j (by omega) h4
        · exact .inr h
theorem s_digits (w : ByteArray) : ∃ v : Int, s_l1Digits_f w = some v := by
  rw [← of_data w]
  by_cases h : w.data.toList.length = 1
  · obtain ⟨a, ha⟩ : ∃ a, w.data.toList = [a] := by
      match w.data.toList, h with
      | [a], _ => exact ⟨a, rfl⟩
    rw [ha, digits_one]
    exact ⟨_, rfl⟩
  · obtain ⟨v, e, _⟩ := digits_other h
    exact ⟨v, e⟩
theorem mem_idx {l : List Dd3} {d : Dd3} (h : d ∈ l) : ∃ j, j < l.length ∧ l.getD j (0, 0, 0) = d := by
  obtain ⟨j, hj⟩ := List.getElem?_of_mem h
  obtain ⟨h1, h2⟩ := List.getElem?_eq_some_iff.1 hj
  exact ⟨j, h1, by rw [List.getD_eq_getElem?_getD, hj]; rfl⟩
/-- The reference goes through a list in which each deed of this text is. -/
theorem s_list (L : List UInt8) (hL : L.length ≤ 1099511627776) : ∃ l : List Dd3, l.length ≤ 5 ∧ s_ReadDeed_f (ofL L) = s_ReadDeed_l2 (ofL L) 0 0 0 0 l ∧ ∀ k a b, dtx k a b = ofL L → ofL L ≠ ByteArray.empty → (k, a, b) ∈ l := by
  have hlen := cutL_len 32 L
  have hfind : ∀ k a b, dtx k a b = ofL L → ofL L ≠ ByteArray.empty → (k = 2 ∧ a = 0 ∧ b = 0) ∨ (k = 4 ∧ a = 0 ∧ b = 0) ∨ ((cutL 32 L).length = 2 ∧ (k = 1 ∨ k = 3) ∧ b = 0 ∧ s_l1Digits_f (prt (cutL 32 L) 1) = some a) ∨ ((cutL 32 L).length = 3 ∧ k = 0 ∧ s_l1Digits_f (prt (cutL 32 L) 1) = some a ∧ s_l1Digits_f (prt (cutL 32 L) 2) = some b) := by
    intro k a b he hn
    have hL' : (dtx k a b).data.toList = L := by rw [he]; rfl
    have hne : dtx k a b ≠ ByteArray.empty := by rw [he]; exact hn
    rcases dtx_cut hne with ⟨h1, ha, hb, hc⟩ | ⟨h1, h2, ha, hc⟩ | ⟨h1, h2, ha, hc⟩ | ⟨h1, h2, h3, hc⟩ | ⟨h1, h2, h3, hc⟩
    · rw [hL'] at hc
      rw [hc]
      refine .inr (.inr (.inr ⟨rfl, h1, ?_, ?_⟩))
      · rw [show prt [str10.data.toList, (itoaS a).data.toList, (itoaS b).data.toList] 1 = itoaS a from of_data _]; exact digits_itoa ha.1 ha.2
      · rw [show prt [str10.data.toList, (itoaS a).data.toList, (itoaS b).data.toList] 2 = itoaS b from of_data _]; exact digits_itoa hb.1 hb.2
    · rw [hL'] at hc
      rw [hc]
      refine .inr (.inr (.inl ⟨rfl, .inl h1, h2, ?_⟩))
      rw [show prt [str11.data.toList, (itoaS a).data.toList] 1 = itoaS a from of_data _]; exact digits_itoa ha.1 ha.2
    · rw [hL'] at hc
      rw [hc]
      refine .inr (.inr (.inl ⟨rfl, .inr h1, h2, ?_⟩))
      rw [show prt [str12.data.toList, (itoaS a).data.toList] 1 = itoaS a from of_data _]; exact digits_itoa ha.1 ha.2
    · exact .inl ⟨h1, h2, h3⟩
    · exact .inr (.inl ⟨h1, h2, h3⟩)
  rw [s_ReadDeed_f_eq, show s_l1Cut_f (ofL L, (32 : Int)) = _ from cut_val L 32 hL, Option.bind_some, List.length_map]
  by_cases h2 : (cutL 32 L).length = 2
  · obtain ⟨v, hv⟩ := s_digits (prt (cutL 32 L) 1)
    rw [beq_t (by omega), if_pos (by omega), show List.getD ((cutL 32 L).map ofL) (1 : Int).toNat ByteArray.empty = prt (cutL 32 L) 1 from gW' (i := 1) (show 1 < (cutL 32 L).length by omega), hv, Option.bind_some, if_pos (by simp), s_ReadDeed_j0_eq, List.length_map, beq_f (by omega), s_ReadDeed_j1_eq]
    refine ⟨_, by simp, rfl, fun k a b he hn => ?_⟩
    rcases hfind k a b he hn with ⟨h1, h3, h4⟩ | ⟨h1, h3, h4⟩ | ⟨_, h1, h3, h4⟩ | ⟨h1, _⟩
    · subst h1; subst h3; subst h4; simp
    · subst h1; subst h3; subst h4; simp
    · rw [hv] at h4
      have := Option.some.inj h4
      subst this; subst h3
      rcases h1 with rfl | rfl <;> simp
    · omega
  · rw [beq_f (by omega), s_ReadDeed_j0_eq, List.length_map]
    by_cases h3 : (cutL 32 L).length = 3
    · obtain ⟨v, hv⟩ := s_digits (prt (cutL 32 L) 1)
      obtain ⟨u, hu⟩ := s_digits (prt (cutL 32 L) 2)
      rw [beq_t (by omega), if_pos (by omega), if_pos (by omega), show List.getD ((cutL 32 L).map ofL) (1 : Int).toNat ByteArray.empty = prt (cutL 32 L) 1 from gW' (i := 1) (show 1 < (cutL 32 L).length by omega), hv, Option.bind_some, show List.getD ((cutL 32 L).map ofL) (2 : Int).toNat ByteArray.empty = prt (cutL 32 L) 2 from gW' (i := 2) (show 2 < (cutL 32 L).length by omega), hu, Option.bind_some, if_pos (by simp), s_ReadDeed_j1_eq]
      refine ⟨_, by simp, rfl, fun k a b he hn => ?_⟩
      rcases hfind k a b he hn with ⟨h1, h4, h5⟩ | ⟨h1, h4, h5⟩ | ⟨h1, _⟩ | ⟨_, h1, h4, h5⟩
      · subst h1; subst h4; subst h5; simp
      · subst h1; subst h4; subst h5; simp
      · omega
      · rw [hv] at h4
        rw [hu] at h5
        have e1 := Option.some.inj h4
        have e2 := Option.some.inj h5
        subst e1; subst e2; subst h1
        simp
    · rw [beq_f (by omega), s_ReadDeed_j1_eq]
      refine ⟨_, by simp, rfl, fun k a b he hn => ?_⟩
      rcases hfind k a b he hn with ⟨h1, h4, h5⟩ | ⟨h1, h4, h5⟩ | ⟨h1, _⟩ | ⟨h1, _⟩
      · subst h1; subst h4; subst h5; simp
      · subst h1; subst h4; subst h5; simp
      · omega
      · omega
/-- Both read alike: the deed whose text it is, or none. -/
theorem deed_same (L : List UInt8) (hL : L.length ≤ 4294967280) : ∃ r, i_ReadDeed_f (ofL L) = some r ∧ s_ReadDeed_f (ofL L) = some r ∧ (r = noD ∧ (∀ k a b, dtx k a b = ofL L → ofL L = ByteArray.empty) ∨ ∃ k a b, r = (k, a, b, true) ∧ dtx k a b = ofL L ∧ ofL L ≠ ByteArray.empty) := by
  obtain ⟨l, hl, e1, hm⟩ := s_list L (by omega)
  have hs := l2_val (ofL L) l (by omega) 0 (by omega)
  by_cases h : ∃ k a b, dtx k a b = ofL L ∧ ofL L ≠ ByteArray.empty
  · obtain ⟨k, a, b, h1, h2⟩ := h
    have hi := i_back (k := k) (a := a) (b := b) (by rw [h1]; exact h2)
    rw [h1] at hi
    refine ⟨(k, a, b, true), hi, ?_, .inr ⟨k, a, b, rfl, h1, h2⟩⟩
    rcases hs with ⟨h3, h4⟩ | ⟨k', a', b', h3, h4, h5⟩
    · obtain ⟨j, hj, hd⟩ := mem_idx (hm k a b h1 h2)
      rcases h4 j (by omega) hj with h6 | h6
      · exact absurd h6 h2
      · rw [hd] at h6
        exact absurd h1 h6
    · have hi' := i_back (k := k') (a := a') (b := b') (by rw [h4]; exact h5)
      rw [h4, hi] at hi'
      rw [e1]
      exact h3.trans hi'.symm
  · have hno : ∀ k a b, dtx k a b = ofL L → ofL L = ByteArray.empty := fun k a b h1 => Classical.byContradiction fun h2 => h ⟨k, a, b, h1, h2⟩
    refine ⟨noD, ?_, ?_, .inl ⟨rfl, hno⟩⟩
    · rw [i_val L hL]
      have key : iOf (ofL L) (cutL 32 L) = noD := by
       unfold iOf
       split
       · rfl
       · split
         · rfl
         · split
           · rename_i h1 _ h2
             have h3 := hno _ _ _ h2
             have h4 : L = [] := by
               have := congrArg (fun s : ByteArray => s.data.toList) h3
               exact this
             subst h4
             rw [show prt (cutL 32 []) 0 = ByteArray.empty from rfl, idx_words.2.2.2.2.2] at h1
             exact absurd (show (-1 : Int) < 0 by omega) h1
           · rfl
      rw [key]
    · rw [e1]
      rcases hs with ⟨h3, _⟩ | ⟨k', a', b', h3, h4, h5⟩
      · exact h3
      · exact absurd (hno _ _ _ h4) h5
end FN
/-! Desks: the reference's deeds answer always. -/
namespace FN
open Go
abbrev Pl := List Int × Int × List Int
def smP (n : Nat) (p : Pl) : Prop := p.1.length ≤ n ∧ p.2.2.length ≤ n
theorem gP {l : List Pl} (i : Nat) : List.getD l ((i : Int)).toNat ([], 0, []) = l.getD i ([], 0, []) := by simp
theorem getD_mem {α : Type} {l : List α} {i : Nat} {d : α} (h : i < l.length) : l.getD i d ∈ l := by
  rw [List.getD_eq_getElem?_getD, List.getElem?_eq_getElem h]; exact List.getElem_mem h
def PlPp (p : Pl) : Prop := PlP p.1 p.2.1 p.2.2
instance (p : Pl) : Decidable (PlPp p) := inferInstanceAs (Decidable (PlP _ _ _))
def DkP (a : List Int) (k : Int) (b : List Int) (l : List Pl) : Prop := (∀ p ∈ l, PlPp p) ∧ PlP a k b ∧ l.length ≤ 8
instance (a : List Int) (k : Int) (b : List Int) (l : List Pl) : Decidable (DkP a k b l) := inferInstanceAs (Decidable (_ ∧ _))
theorem sdesk (a : List Int) (k : Int) (b : List Int) (l : List Pl) (hb : b.length ≤ 4611686018427387904) (hl : l.length ≤ 4611686018427387904) (hs : ∀ p ∈ l, smP 4611686018427387904 p) : s_DeskOk_f (a, k, b, l) = some (decide (DkP a k b l)) := by
  apply Tells.val
  rw [s_DeskOk_f_eq]
  have hj : Tells (s_DeskOk_j1 a k b l) (PlP a k b ∧ l.length ≤ 8) := by
    rw [s_DeskOk_j1_eq, spl _ _ _ hb, Option.bind_some]
    by_cases c : PlP a k b
    · rw [decide_eq_true c]; exact Tells.dec.iff ⟨fun h => ⟨c, by omega⟩, fun h => by omega⟩
    · rw [decide_eq_false c]; exact Tells.no fun h => c h.1
  have main : ∀ i, i ≤ l.length → Tells (s_DeskOk_l0 (i : Int) a k b l) ((∀ j, i ≤ j → j < l.length → PlPp (l.getD j ([], 0, []))) ∧ (PlP a k b ∧ l.length ≤ 8)) := by
    refine advN ?_ fun i hi ih => ?_
    · refine (Tells.eq ?_ hj).iff ⟨fun h => ⟨fun j h1 h2 => by omega, h⟩, fun h => h.2⟩
      rw [s_DeskOk_l0_eq, cnd_f (by omega)]
    · have hm := hs _ (getD_mem (d := ([], 0, [])) hi)
      rw [s_DeskOk_l0_eq, cnd_t (by omega), if_pos (inN hi), gP, spl _ _ _ hm.2, Option.bind_some, w1 hi (by omega)]
      by_cases c : PlPp (l.getD i ([], 0, []))
      · rw [decide_eq_true (show PlP (l.getD i ([], 0, [])).1 (l.getD i ([], 0, [])).2.1 (l.getD i ([], 0, [])).2.2 from c)]
        refine ih.iff ⟨fun h => ⟨fun j h1 h2 => ?_, h.2⟩, fun h => ⟨fun j h1 h2 => h.1 j (by omega) h2, h.2⟩⟩
        by_cases e : j = i
        · rw [e]; exact c
        · exact h.1 j (by omega) h2
      · rw [decide_eq_false (show ¬ PlP (l.getD i ([], 0, [])).1 (l.getD i ([], 0, [])).2.1 (l.getD i ([], 0, [])).2.2 from c)]
        exact Tells.no fun h => c (h.1 i (Nat.le_refl i) hi)
  refine (main 0 (by omega)).iff ⟨fun h => ⟨fun p hp => ?_, h.2⟩, fun h => ⟨fun j _ hj => h.1 _ (getD_mem hj), h.2⟩⟩
  obtain ⟨j, hj, rfl⟩ := List.getElem_of_mem hp
  have := h.1 j (by omega) hj
  rwa [List.getD_eq_getElem?_getD, List.getElem?_eq_getElem hj] at this
theorem l15Place_val (a : List Int) (k : Int) (b : List Int) (ha : a.length ≤ 1000000) (hb : b.length ≤ 1000000) : s_l15Place_f (a, k, b) = some (a, k, b) := by
  rw [s_l15Place_f_eq, if_pos (by simp; omega), if_pos (by simp; omega)]
  rfl
theorem PlP.sm {a : List Int} {k : Int} {b : List Int} (h : PlP a k b) : a.length ≤ 6 ∧ b.length ≤ 6 := ⟨h.1.hi, h.2.1.2.2.2.2⟩
theorem copy_loop1 (a : List Int) (k : Int) (b : List Int) (l : List Pl) (y5 : Int) (hl : l.length ≤ 100) (hs : ∀ p ∈ l, PlPp p) : ∀ i, i ≤ l.length → s_l15Copy_l1 (i : Int) a k b l y5 k a b (l.take i) = some (a, k, b, l) := by
  refine advN ?_ fun i hi ih => ?_
  · rw [s_l15Copy_l1_eq, cnd_f (by omega), List.take_length]
  · have hm := PlP.sm (hs _ (getD_mem (d := ([], 0, [])) hi))
    rw [s_l15Copy_l1_eq, cnd_t (by omega), if_pos (inN hi), gP, l15Place_val _ _ _ (by omega) (by omega), Option.bind_some, if_pos (by simp; omega), w1 hi (by omega)]
    have e : l.take (i + 1) = l.take i ++ [((l.getD i ([], 0, [])).1, (l.getD i ([], 0, [])).2.1, (l.getD i ([], 0, [])).2.2)] := by
      rw [List.take_succ_eq_append_getElem hi, List.getD_eq_getElem?_getD, List.getElem?_eq_getElem hi]; rfl
    rw [← e]
    exact ih
theorem l15Copy_val {a : List Int} {k : Int} {b : List Int} {l : List Pl} (h : DkP a k b l) : s_l15Copy_f (a, k, b, l) = some (a, k, b, l) := by
  have hm := PlP.sm h.2.1
  have hl := h.2.2
  rw [s_l15Copy_f_eq, l15Place_val _ _ _ (by omega) (by omega), Option.bind_some]
  simp only
  rw [s_l15Copy_l0_eq]
  by_cases c : 0 < l.length
  · have hm := PlP.sm (h.1 _ (getD_mem (d := ([], 0, [])) c))
    have hg : List.getD l (0 : Int).toNat ([], 0, []) = l.getD 0 ([], 0, []) := rfl
    rw [cnd_t (by omega), if_pos ⟨by omega, by omega⟩, hg, l15Place_val _ _ _ (by omega) (by omega), Option.bind_some, if_pos (by simp)]
    have e : l.take 1 = [] ++ [((l.getD 0 ([], 0, [])).1, (l.getD 0 ([], 0, [])).2.1, (l.getD 0 ([], 0, [])).2.2)] := by
      rw [List.take_succ_eq_append_getElem c, List.getD_eq_getElem?_getD, List.getElem?_eq_getElem c]; rfl
    rw [← e]
    exact copy_loop1 a k b l 0 (by omega) h.1 1 (by omega)
  · have : l = [] := List.eq_nil_of_length_eq_zero (by omega)
    subst this
    rw [cnd_f (by simp)]
/-- It answers a place, not too long. -/
def Tot3 (o : Option (List Int × Int × List Int)) : Prop := ∃ z κ st, o = some (z, κ, st) ∧ st.length ≤ 100
theorem Tot3.cnd {c : Bool} {x y : Option (List Int × Int × List Int)} (h : Tot3 x) (k : Tot3 y) : Tot3 (cond c x y) := by cases c; exact k; exact h
theorem Tot3.condd {p : Prop} [Decidable p] {x y : Option (List Int × Int × List Int)} (h : p → Tot3 x) (k : ¬ p → Tot3 y) : Tot3 (cond (decide p) x y) := by
  by_cases c : p
  · rw [decide_eq_true c]; exact h c
  · rw [decide_eq_false c]; exact k c
theorem Tot3.ite {p : Prop} [Decidable p] {x y : Option (List Int × Int × List Int)} (hp : p) (h : Tot3 x) : Tot3 (if p then x else y) := by rw [if_pos hp]; exact h
theorem Tot3.nite {p : Prop} [Decidable p] {x y : Option (List Int × Int × List Int)} (hp : ¬ p) (h : Tot3 y) : Tot3 (if p then x else y) := by rw [if_neg hp]; exact h
theorem Tot3.some' {z : List Int} {κ : Int} {st : List Int} (h : st.length ≤ 100) : Tot3 (some (z, κ, st)) := ⟨z, κ, st, rfl, h⟩
theorem step_tot {a : List Int} {k : Int} {b : List Int} (h : PlP a k b) : ∃ z, s_l3Step_f (a, k, b) = some z ∧ z.length ≤ 100 := by
  have hm := PlP.sm h
  have hk := h.2.1.2.1
  have he := h.2.2
  have first : ∀ i, i ≤ b.length → ∀ x : Int, (∀ x : Int, ∃ z, s_l3Step_j1 a k b x = some z ∧ z.length ≤ 100) → ∃ z, s_l3Step_l0 a k b x (i : Int) = some z ∧ z.length ≤ 100 := by
    refine advN ?_ fun i hi ih => ?_
    · intro x hx
      rw [s_l3Step_l0_eq, cnd_f (by omega)]
      exact hx x
    · intro x hx
      rw [s_l3Step_l0_eq, cnd_t (by omega), if_pos (inN hi), w1 hi (by omega)]
      cases (List.getD b ((i : Int)).toNat 0 == 1) with
      | true => rw [cond_true, if_neg (by omega)]; exact ih _ hx
      | false => rw [cond_false]; exact ih _ hx
  have second : ∀ (x : Int) i, i ≤ b.length → ∀ y : List Int, y.length = i → ∃ z, s_l3Step_l2 a k b x (i : Int) y = some z ∧ z.length ≤ 100 := by
    intro x
    refine advN ?_ fun i hi ih => ?_
    · intro y hy
      rw [s_l3Step_l2_eq, cnd_f (by omega)]
      exact ⟨y, rfl, by omega⟩
    · intro y hy
      rw [s_l3Step_l2_eq, cnd_t (by omega), if_pos (inN hi), w1 hi (by omega)]
      cases (decide (0 < List.getD b ((i : Int)).toNat 0)) with
      | true => rw [cond_true, if_neg (by omega), if_pos (by simp; omega)]; exact ih _ (by simp; omega)
      | false =>
        rw [cond_false, if_pos ⟨by omega, by omega⟩]
        cases (Go.bits .and IntKind.i64 (List.getD a ((i : Int)).toNat 0) x != 0) with
        | true => rw [cond_true, if_pos (by simp; omega)]; exact ih _ (by simp; omega)
        | false => rw [cond_false, if_pos (by simp; omega)]; exact ih _ (by simp; omega)
  rw [s_l3Step_f_eq]
  refine first 0 (by omega) 0 fun x => ?_
  rw [s_l3Step_j1_eq]
  exact second x 0 (by omega) [] rfl
/-- The parts of what a deed makes. -/
theorem tail_tot {a : List Int} {k : Int} {b z : List Int} (hb : b.length ≤ 100) (hz : z.length ≤ 100) (c2 c3 : Bool) (A : Int) : Tot3 (cond c2 (some (a, k, z)) (cond c3 (some (a, A, b)) (some ([], 0, [])))) := by
  cases c2 with
  | true => exact ⟨_, _, _, rfl, hz⟩
  | false => cases c3 with
    | true => exact ⟨_, _, _, rfl, hb⟩
    | false => exact ⟨_, _, _, rfl, by simp⟩
theorem light_tot {a : List Int} {k : Int} {b : List Int} {t : Option (List Int × Int × List Int)} {n : Int} (hb : b.length ≤ 100) (hn : n = (b.length : Int)) (ht : Tot3 t) (c1 : Bool) (A : Int) : Tot3 (cond c1 (cond (decide (0 ≤ A ∧ A ≤ n - 1)) (if (0 : Int) ≤ A ∧ A < (b.length : Int) then (cond (List.getD b (A : Int).toNat 0 == 0) (if (0 : Int) ≤ A ∧ A < (b.length : Int) then (some (a, k, List.set b (A : Int).toNat 1)) else none) t) else none) t) t) := by
  cases c1 with
  | false => exact ht
  | true =>
    rw [cond_true]
    refine Tot3.condd (fun h => ?_) (fun _ => ht)
    have h2 : (0 : Int) ≤ A ∧ A < (b.length : Int) := ⟨h.1, by omega⟩
    rw [if_pos h2, if_pos h2]
    exact Tot3.cnd ⟨_, _, _, rfl, by rw [List.length_set]; exact hb⟩ ht
theorem made_tot {a : List Int} {k : Int} {b : List Int} (h : PlP a k b) (K A B : Int) : Tot3 (s_l15Made_f (a, k, b, K, A, B)) := by
  have hm := PlP.sm h
  have he := h.2.2
  have hlo := h.1.lo
  obtain ⟨z, hz, hz'⟩ := step_tot h
  have hW : IntKind.i64.wrap ((List.length a : Int) - 1) = (a.length : Int) - 1 := i64w (by omega) (by omega)
  have tl : ∀ c2 c3 : Bool, Tot3 (cond c2 (some (a, k, z)) (cond c3 (some (a, A, b)) (some ([], 0, [])))) := fun c2 c3 => tail_tot (by omega) hz' c2 c3 A
  have lt : ∀ c1 c2 c3 : Bool, Tot3 (cond c1 (cond (decide (0 ≤ A ∧ A ≤ (a.length : Int) - 1)) (if (0 : Int) ≤ A ∧ A < (b.length : Int) then (cond (List.getD b (A : Int).toNat 0 == 0) (if (0 : Int) ≤ A ∧ A < (b.length : Int) then (some (a, k, List.set b (A : Int).toNat 1)) else none) (cond c2 (some (a, k, z)) (cond c3 (some (a, A, b)) (some ([], 0, []))))) else none) (cond c2 (some (a, k, z)) (cond c3 (some (a, A, b)) (some ([], 0, []))))) (cond c2 (some (a, k, z)) (cond c3 (some (a, A, b)) (some ([], 0, []))))) := fun c1 c2 c3 => light_tot (by omega) (by omega) (tl c2 c3) c1 A
  rw [s_l15Made_f_eq, l15Place_val _ _ _ (by omega) (by omega), Option.bind_some, l1In_val, Option.bind_some, l1In_val, Option.bind_some, hz, Option.bind_some, hW]
  generalize (K == 1 && (A == A && (B == 0 && true))) = c1
  generalize (K == 2 && (A == 0 && (B == 0 && true))) = c2
  generalize (K == 3 && (A == A && (B == 0 && true))) = c3
  generalize (K == 0 && (A == A && (B == B && true))) = c0
  have hlt := lt c1 c2 c3
  cases c0 with
  | false => rw [cond_false]; exact hlt
  | true =>
    rw [cond_true]
    refine Tot3.condd (fun hA => ?_) (fun _ => hlt)
    refine Tot3.condd (fun hB => ?_) (fun _ => hlt)
    refine Tot3.cnd ?_ hlt
    have h1 : (0 : Int) ≤ A ∧ A < (a.length : Int) := ⟨hA.1, by omega⟩
    have h2 : (0 : Int) ≤ B ∧ B < (a.length : Int) := ⟨hB.1, by omega⟩
    rw [if_pos h1, if_neg (by omega), if_pos h1, List.length_set, if_pos h2, if_neg (by omega), if_pos h2]
    exact ⟨_, _, _, rfl, show b.length ≤ 100 by omega⟩
end FN
namespace FN
open Go
/-- It answers a desk. -/
def Tot5 (o : Option (List Int × Int × List Int × List Pl × Bool)) : Prop := ∃ a k b l t, o = some (a, k, b, l, t) ∧ DkP a k b l
theorem Tot5.cnd {c : Bool} {x y : Option (List Int × Int × List Int × List Pl × Bool)} (h : Tot5 x) (k : Tot5 y) : Tot5 (cond c x y) := by cases c; exact k; exact h
theorem do_tot {a : List Int} {k : Int} {b : List Int} {l : List Pl} (h : DkP a k b l) (K A B : Int) : Tot5 (s_DeskDo_f (a, k, b, l, K, A, B)) := by
  have hm := PlP.sm h.2.1
  have hl := h.2.2
  have hsm : ∀ p ∈ l, smP 4611686018427387904 p := fun p hp => by have := PlP.sm (h.1 p hp); exact ⟨by omega, by omega⟩
  obtain ⟨z, κ, st, hz, hst⟩ := made_tot h.2.1 K A B
  have hW : IntKind.i64.wrap ((List.length l : Int) - 1) = (l.length : Int) - 1 := i64w (by omega) (by omega)
  obtain ⟨t1, t1', _⟩ := placeText_same z κ st (by omega)
  obtain ⟨t2, t2', _⟩ := placeText_same a k b (by omega)
  rw [s_DeskDo_f_eq, sdesk a k b l (by omega) (by omega) hsm, decide_eq_true h, Option.bind_some, Bool.not_true, cond_false, l15Copy_val h, Option.bind_some, hz, Option.bind_some]
  simp only [hW]
  rw [spl z κ st (by omega), Option.bind_some, t1', Option.bind_some, t2', Option.bind_some]
  have same : Tot5 (some (a, k, b, l, false)) := ⟨a, k, b, l, false, rfl, h⟩
  have tail : PlP z κ st → ∀ c : Bool, Tot5 (cond c (some (a, k, b, l, false)) (if (List.length l + List.length ([(a, k, b)] : List (List Int × Int × List Int))) * 56 ≤ 140737488355328 then (cond ((decide (8 < (List.length (l ++ ([(a, k, b)] : List (List Int × Int × List Int))) : Int)))) (if (0 : Int) ≤ 1 ∧ 1 ≤ (List.length (l ++ ([(a, k, b)] : List (List Int × Int × List Int))) : Int) then (s_DeskDo_j0 0 k (List.drop (1 : Int).toNat (List.take ((List.length (l ++ ([(a, k, b)] : List (List Int × Int × List Int))))) (l ++ ([(a, k, b)] : List (List Int × Int × List Int))))) κ z st) else none) (s_DeskDo_j1 0 k κ (l ++ ([(a, k, b)] : List (List Int × Int × List Int))) z st)) else none)) := by
    intro hp c
    refine Tot5.cnd same ?_
    have hlen : (l ++ ([(a, k, b)] : List (List Int × Int × List Int))).length = l.length + 1 := by simp
    have hmem : ∀ p ∈ l ++ ([(a, k, b)] : List (List Int × Int × List Int)), PlPp p := fun p hp => by
      rcases List.mem_append.1 hp with hp | hp
      · exact h.1 p hp
      · have : p = (a, k, b) := by simpa using hp
        rw [this]; exact h.2.1
    rw [if_pos (by simp; omega), hlen]
    by_cases c8 : (8 : Int) < ((l.length + 1 : Nat) : Int)
    · rw [cnd_t c8, if_pos ⟨by omega, by omega⟩, s_DeskDo_j0_eq]
      refine ⟨_, _, _, _, _, rfl, fun p hp' => hmem p (List.mem_of_mem_take (List.mem_of_mem_drop hp')), hp, ?_⟩
      rw [List.length_drop, List.length_take, hlen, show (1 : Int).toNat = 1 from rfl]
      omega
    · rw [cnd_f c8, s_DeskDo_j1_eq]
      exact ⟨_, _, _, _, _, rfl, hmem, hp, by rw [hlen]; omega⟩
  have mid : Tot5 (cond (!decide (PlP z κ st)) (some (a, k, b, l, false)) (cond (ByteArray.toList t1 == ByteArray.toList t2) (some (a, k, b, l, false)) (if (List.length l + List.length ([(a, k, b)] : List (List Int × Int × List Int))) * 56 ≤ 140737488355328 then (cond ((decide (8 < (List.length (l ++ ([(a, k, b)] : List (List Int × Int × List Int))) : Int)))) (if (0 : Int) ≤ 1 ∧ 1 ≤ (List.length (l ++ ([(a, k, b)] : List (List Int × Int × List Int))) : Int) then (s_DeskDo_j0 0 k (List.drop (1 : Int).toNat (List.take ((List.length (l ++ ([(a, k, b)] : List (List Int × Int × List Int))))) (l ++ ([(a, k, b)] : List (List Int × Int × List Int))))) κ z st) else none) (s_DeskDo_j1 0 k κ (l ++ ([(a, k, b)] : List (List Int × Int × List Int))) z st)) else none))) := by
    by_cases hp : PlP z κ st
    · rw [decide_eq_true hp, Bool.not_true, cond_false]; exact tail hp _
    · rw [decide_eq_false hp, Bool.not_false, cond_true]; exact same
  cases (K == 4 && (A == 0 && (B == 0 && true))) with
  | false => rw [cond_false]; exact mid
  | true =>
    rw [cond_true]
    by_cases hc : (0 : Int) < (l.length : Int)
    · have h1 : (0 : Int) ≤ (l.length : Int) - 1 ∧ (l.length : Int) - 1 < (l.length : Int) := ⟨by omega, by omega⟩
      have h2 : (0 : Int) ≤ (l.length : Int) - 1 ∧ (l.length : Int) - 1 ≤ (l.length : Int) := ⟨by omega, by omega⟩
      rw [cnd_t hc, if_pos h1, if_pos h2]
      have hi : ((l.length : Int) - 1).toNat < l.length := by omega
      have hp := h.1 _ (getD_mem (d := ([], 0, [])) hi)
      exact ⟨_, _, _, _, _, rfl, fun p hp' => h.1 p (List.mem_of_mem_take (List.mem_of_mem_drop hp')), hp, by rw [List.length_drop, List.length_take]; omega⟩
    · rw [cnd_f hc]; exact mid
/-- Deeds, one behind the other. -/
def TotR (o : Option (List Int × Int × List Int × List Pl × Int)) : Prop := ∃ a k b l n, o = some (a, k, b, l, n) ∧ DkP a k b l
theorem run1_tot (ds : List Dd3) (hd : ds.length ≤ 4000000000) (y3 : Int) : ∀ i, i ≤ ds.length → ∀ (y1 : Int) (a : List Int) (k : Int) (b : List Int) (l : List Pl), DkP a k b l → TotR (s_l15Run_l1 ds y1 (i : Int) y3 a k b l) := by
  refine advN ?_ fun i hi ih => ?_
  · intro y1 a k b l h
    rw [s_l15Run_l1_eq, cnd_f (by omega)]
    exact ⟨_, _, _, _, _, rfl, h⟩
  · intro y1 a k b l h
    obtain ⟨a', k', b', l', t, e, h'⟩ := do_tot h (ds.getD i (0, 0, 0)).1 (ds.getD i (0, 0, 0)).2.1 (ds.getD i (0, 0, 0)).2.2
    rw [s_l15Run_l1_eq, cnd_t (by omega), if_pos (inN hi), gD3, e, Option.bind_some, w1 hi (by omega)]
    cases t with
    | true => exact ih _ _ _ _ _ h'
    | false => exact ih _ _ _ _ _ h
theorem run0_tot (ds : List Dd3) (hd : ds.length ≤ 4000000000) (y3 : Int) : ∀ i, i ≤ ds.length → ∀ (y1 : Int) (a : List Int) (k : Int) (b : List Int) (l : List Pl), DkP a k b l → TotR (s_l15Run_l0 ds y1 (i : Int) y3 a k b l) := by
  refine advN ?_ fun i hi ih => ?_
  · intro y1 a k b l h
    rw [s_l15Run_l0_eq, cnd_f (by omega)]
    exact ⟨_, _, _, _, _, rfl, h⟩
  · intro y1 a k b l h
    obtain ⟨a', k', b', l', t, e, h'⟩ := do_tot h (ds.getD i (0, 0, 0)).1 (ds.getD i (0, 0, 0)).2.1 (ds.getD i (0, 0, 0)).2.2
    rw [s_l15Run_l0_eq, cnd_t (by omega), if_pos (inN hi), gD3, e, Option.bind_some, w1 hi (by omega)]
    cases t with
    | true => exact run1_tot ds hd y3 (i + 1) (by omega) _ _ _ _ _ h'
    | false => exact ih _ _ _ _ _ h
theorem run_tot {a : List Int} {k : Int} {b : List Int} {l : List Pl} (h : DkP a k b l) (ds : List Dd3) (hd : ds.length ≤ 4000000000) : TotR (s_l15Run_f (a, k, b, l, ds)) := by
  rw [s_l15Run_f_eq, l15Copy_val h, Option.bind_some]
  exact run0_tot ds hd 0 0 (by omega) 0 a k b l h
end FN
/-! One step: the program's and the reference's alike. -/
namespace FN
open Go
theorem bt_nat (x j : Nat) : bt (x : Int) j = if x.testBit j then 1 else 0 := by
  unfold bt
  rw [Nat.testBit_eq_decide_div_mod_eq]
  have : ((x : Int) / 2 ^ j) % 2 = ((x / 2 ^ j % 2 : Nat) : Int) := by push_cast; rfl
  rw [this]
  by_cases h : x / 2 ^ j % 2 = 1
  · simp [h]
  · simp [h]; omega
theorem and_ne {x m : Nat} : x &&& m ≠ 0 ↔ ∃ j, x.testBit j = true ∧ m.testBit j = true := by
  constructor
  · intro h
    apply Classical.byContradiction
    intro hn
    apply h
    apply Nat.eq_of_testBit_eq
    intro i
    rw [Nat.testBit_and, Nat.zero_testBit]
    cases hx : x.testBit i with
    | false => rfl
    | true => cases hm : m.testBit i with
      | false => rfl
      | true => exact absurd ⟨i, hx, hm⟩ hn
  · rintro ⟨j, hx, hm⟩ h
    have : (x &&& m).testBit j = true := by rw [Nat.testBit_and, hx, hm]; rfl
    rw [h, Nat.zero_testBit] at this
    cases this
/-- A firing neighbour. -/
def fires (a b : List Int) (i : Nat) : Prop := ∃ j, j < b.length ∧ bt (a.getD i 0) j = 1 ∧ b.getD j 0 = 1
open Classical in
noncomputable def stepAt (a : List Int) (k : Int) (b : List Int) (i : Nat) : Int := if 0 < b.getD i 0 then Int.tmod (b.getD i 0 + 1) k else if fires a b i then 1 else 0
noncomputable def stepV (a : List Int) (k : Int) (b : List Int) : List Int := (List.range b.length).map (stepAt a k b)
theorem stepV_len (a : List Int) (k : Int) (b : List Int) : (stepV a k b).length = b.length := by simp [stepV]
theorem stepV_take (a : List Int) (k : Int) (b : List Int) {i : Nat} (h : i < b.length) : (stepV a k b).take (i + 1) = (stepV a k b).take i ++ [stepAt a k b i] := by
  rw [List.take_succ_eq_append_getElem (by rw [stepV_len]; exact h)]
  simp [stepV]
theorem bit_or (M i j : Nat) : (M ||| 2 ^ i).testBit j = (M.testBit j || decide (i = j)) := by
  rw [Nat.testBit_or, Nat.testBit_two_pow]
section
variable {a : List Int} {k : Int} {b : List Int} (h : PlP a k b)
include h
theorem s_mask : ∀ i, i ≤ b.length → ∀ M : Nat, M < 64 → (∀ j, M.testBit j = true ↔ j < i ∧ b.getD j 0 = 1) →
    ∃ M' : Nat, M' < 64 ∧ (∀ j, M'.testBit j = true ↔ j < b.length ∧ b.getD j 0 = 1) ∧ s_l3Step_l0 a k b (M : Int) (i : Int) = s_l3Step_l2 a k b (M' : Int) 0 [] := by
  have hm := PlP.sm h
  refine advN ?_ fun i hi ih => ?_
  · intro M hM hb
    refine ⟨M, hM, hb, ?_⟩
    rw [s_l3Step_l0_eq, cnd_f (by omega), s_l3Step_j1_eq]
  · intro M hM hb
    rw [s_l3Step_l0_eq, cnd_t (by omega), if_pos (inN hi), gN, w1 hi (by omega)]
    by_cases c : b.getD i 0 = 1
    · have hp : (2 : Nat) ^ i < 64 := by
        have : (2 : Nat) ^ i < 2 ^ 6 := Nat.pow_lt_pow_right (by omega) (by omega)
        omega
      have e : Go.bits .or IntKind.i64 (M : Int) (IntKind.i64.wrap (1 * 2 ^ min ((i : Int)).toNat IntKind.i64.bits)) = ((M ||| 2 ^ i : Nat) : Int) := by
        rw [sh1 (by omega), show (2 : Int) ^ i = ((2 ^ i : Nat) : Int) by push_cast; rfl]
        exact (bits_nat (by omega) (by omega)).2.1
      rw [beq_t c, if_neg (by omega), e]
      refine ih _ ?_ fun j => ?_
      · have : M ||| 2 ^ i < 2 ^ 6 := Nat.or_lt_two_pow (by omega) (by omega)
        omega
      · rw [bit_or, Bool.or_eq_true, hb, decide_eq_true_eq]
        constructor
        · rintro (⟨h1, h2⟩ | rfl)
          · exact ⟨by omega, h2⟩
          · exact ⟨by omega, c⟩
        · rintro ⟨h1, h2⟩
          by_cases e : i = j
          · exact .inr e
          · exact .inl ⟨by omega, h2⟩
    · rw [beq_f c]
      refine ih _ hM fun j => ?_
      rw [hb]
      constructor
      · rintro ⟨h1, h2⟩; exact ⟨by omega, h2⟩
      · rintro ⟨h1, h2⟩
        refine ⟨?_, h2⟩
        by_cases e : j = i
        · rw [e] at h2; exact absurd h2 c
        · omega
theorem near_nat {i : Nat} (hi : i < a.length) : ∃ x : Nat, a.getD i 0 = (x : Int) ∧ x < 64 := by
  have hm := PlP.sm h
  obtain ⟨h0, h1⟩ := h.1.rng i hi
  have := pow6 (n := a.length) hm.1
  exact ⟨(a.getD i 0).toNat, by omega, by omega⟩
theorem s_step_loop (M : Nat) (hM : M < 64) (hb : ∀ j, M.testBit j = true ↔ j < b.length ∧ b.getD j 0 = 1) : ∀ i, i ≤ b.length → s_l3Step_l2 a k b (M : Int) (i : Int) ((stepV a k b).take i) = some (stepV a k b) := by
  have hm := PlP.sm h
  have hk := h.2.1.2.1
  have he := h.2.2
  refine advN ?_ fun i hi ih => ?_
  · rw [s_l3Step_l2_eq, cnd_f (by omega), ← stepV_len a k b, List.take_length]
  · obtain ⟨r1, r2⟩ := h.2.1.1 i hi
    have hk5 := h.2.1.2.2.1
    have hlen : ((stepV a k b).take i).length ≤ 6 := by rw [List.length_take, stepV_len]; omega
    rw [stepV_take a k b hi] at ih
    rw [s_l3Step_l2_eq, cnd_t (by omega), if_pos (inN hi), gN, gN, w1 hi (by omega)]
    by_cases c : 0 < b.getD i 0
    · have e : stepAt a k b i = Int.tmod (IntKind.i64.wrap (b.getD i 0 + 1)) k := by
        unfold stepAt; rw [if_pos c, i64w (by omega) (by omega)]
      rw [cnd_t c, if_neg (by omega), if_pos (by simp; omega), ← e]
      exact ih
    · rw [cnd_f c, if_pos (inN (by omega))]
      obtain ⟨x, hx, hx'⟩ := near_nat h (i := i) (by omega)
      rw [hx, (bits_nat (by omega) (by omega)).1]
      have hf : fires a b i ↔ x &&& M ≠ 0 := by
        rw [and_ne]
        unfold fires
        rw [hx]
        constructor
        · rintro ⟨j, h1, h2, h3⟩
          refine ⟨j, ?_, (hb j).2 ⟨h1, h3⟩⟩
          rw [bt_nat] at h2
          cases hq : x.testBit j with
          | true => rfl
          | false => rw [hq] at h2; simp at h2
        · rintro ⟨j, h1, h2⟩
          obtain ⟨h3, h4⟩ := (hb j).1 h2
          exact ⟨j, h3, by rw [bt_nat, h1]; rfl, h4⟩
      by_cases f : fires a b i
      · have e : stepAt a k b i = 1 := by unfold stepAt; rw [if_neg c, if_pos f]
        have := hf.1 f
        rw [bne_t (by omega), if_pos (by simp; omega), ← e]
        exact ih
      · have e : stepAt a k b i = b.getD i 0 := by unfold stepAt; rw [if_neg c, if_neg f]; omega
        have : x &&& M = 0 := Classical.byContradiction fun h => f (hf.2 h)
        rw [bne_f (by omega), if_pos (by simp; omega), ← e]
        exact ih
theorem s_step : s_l3Step_f (a, k, b) = some (stepV a k b) := by
  rw [s_l3Step_f_eq]
  obtain ⟨M, hM, hb, e⟩ := s_mask h 0 (by omega) 0 (by omega) (fun j => by simp)
  refine (show s_l3Step_l0 a k b 0 0 = _ from e).trans ?_
  exact s_step_loop h M hM hb 0 (by omega)
end
end FN
namespace FN
open Go
section
variable {a : List Int} {k : Int} {b : List Int} (h : PlP a k b)
include h
theorem i_step_inner {i : Nat} (hi : i < b.length) (out : List Int) (n : Int) : ∀ j, j ≤ b.length → ∀ c : Nat, c ≤ j →
    ∃ c' : Nat, c' ≤ 6 ∧ (1 ≤ c' ↔ 1 ≤ c ∨ ∃ m, j ≤ m ∧ m < b.length ∧ bt (a.getD i 0) m = 1 ∧ b.getD m 0 = 1) ∧ i_needStep_l1 a k b (i : Int) (c : Int) 1 b n (i : Int) b (b.length : Int) (j : Int) out = i_needStep_j3 a k b (i : Int) (c' : Int) 1 b n (i : Int) out := by
  have hm := PlP.sm h
  have he := h.2.2
  refine advN ?_ fun j hj ih => ?_
  · intro c hc
    refine ⟨c, by omega, ⟨fun h => .inl h, ?_⟩, ?_⟩
    · rintro (h | ⟨m, h1, h2, _⟩)
      · exact h
      · omega
    · rw [i_needStep_l1_eq, cnd_f (by omega), i_needStep_j2_eq]
  · intro c hc
    rw [i_needStep_l1_eq, cnd_t (by omega), if_pos (inN hj), if_pos (inN (by omega)), if_neg (by omega), gN, gN, bit_and _ (by omega), w1 hj (by omega)]
    have stay : ¬ (bt (a.getD i 0) j = 1 ∧ b.getD j 0 = 1) → ∀ c' : Nat, (1 ≤ c' ↔ 1 ≤ c ∨ ∃ m, j + 1 ≤ m ∧ m < b.length ∧ bt (a.getD i 0) m = 1 ∧ b.getD m 0 = 1) → (1 ≤ c' ↔ 1 ≤ c ∨ ∃ m, j ≤ m ∧ m < b.length ∧ bt (a.getD i 0) m = 1 ∧ b.getD m 0 = 1) := by
      intro hn c' e
      rw [e]
      constructor
      · rintro (h | ⟨m, h1, h2⟩)
        · exact .inl h
        · exact .inr ⟨m, by omega, h2⟩
      · rintro (h | ⟨m, h1, h2, h3⟩)
        · exact .inl h
        · by_cases e : m = j
          · subst e; exact absurd h3 hn
          · exact .inr ⟨m, by omega, h2, h3⟩
    by_cases c1 : bt (a.getD i 0) j = 1
    · rw [beq_t c1]
      by_cases c2 : b.getD j 0 = 1
      · have e1 : IntKind.i64.wrap ((c : Int) + 1) = ((c + 1 : Nat) : Int) := i64w (by omega) (by omega)
        rw [beq_t c2, e1]
        obtain ⟨c', h1, h2, h3⟩ := ih (c + 1) (by omega)
        refine ⟨c', h1, ⟨fun _ => .inr ⟨j, Nat.le_refl j, hj, c1, c2⟩, fun _ => h2.2 (.inl (by omega))⟩, h3⟩
      · rw [beq_f c2]
        obtain ⟨c', h1, h2, h3⟩ := ih c (by omega)
        exact ⟨c', h1, stay (fun h => c2 h.2) c' h2, h3⟩
    · rw [beq_f c1]
      obtain ⟨c', h1, h2, h3⟩ := ih c (by omega)
      exact ⟨c', h1, stay (fun h => c1 h.1) c' h2, h3⟩
omit h in
/-- What is filled in so far. -/
theorem set_take {v : List Int} {i : Nat} (hi : i < v.length) (x : Int) (hx : v.getD i 0 = x) : List.set (v.take i ++ List.replicate (v.length - i) 0) i x = v.take (i + 1) ++ List.replicate (v.length - (i + 1)) 0 := by
  apply List.ext_getElem?
  intro m
  rw [List.getElem?_set]
  have hl : (v.take i).length = i := by rw [List.length_take]; omega
  by_cases e : i = m
  · subst e
    rw [if_pos rfl, if_pos (by simp; omega), List.getElem?_append_left (by rw [List.length_take]; omega), List.getElem?_take_of_lt (by omega), ← hx, List.getD_eq_getElem?_getD, List.getElem?_eq_getElem hi]
    rfl
  · rw [if_neg e]
    by_cases c : m < i
    · rw [List.getElem?_append_left (by omega), List.getElem?_append_left (by rw [List.length_take]; omega), List.getElem?_take_of_lt c, List.getElem?_take_of_lt (by omega)]
    · rw [List.getElem?_append_right (by omega), List.getElem?_append_right (by rw [List.length_take]; omega), List.getElem?_replicate, List.getElem?_replicate, hl, List.length_take]
      have : min (i + 1) v.length = i + 1 := by omega
      rw [this]
      by_cases c2 : m - i < v.length - i
      · rw [if_pos c2, if_pos (by omega)]
      · rw [if_neg c2, if_neg (by omega)]
theorem stepV_get {i : Nat} (hi : i < b.length) : (stepV a k b).getD i 0 = stepAt a k b i := by
  rw [List.getD_eq_getElem?_getD, List.getElem?_eq_getElem (by rw [stepV_len]; exact hi)]
  simp [stepV]
theorem i_step_outer : ∀ i, i ≤ b.length → i_needStep_l0 a k b b (b.length : Int) (i : Int) ((stepV a k b).take i ++ List.replicate (b.length - i) 0) = some (stepV a k b) := by
  have hm := PlP.sm h
  have hk := h.2.1.2.1
  have hk5 := h.2.1.2.2.1
  have he := h.2.2
  refine advN ?_ fun i hi ih => ?_
  · rw [i_needStep_l0_eq, cnd_f (by omega), Nat.sub_self, List.replicate_zero, List.append_nil, ← stepV_len a k b, List.take_length]
  · obtain ⟨r1, r2⟩ := h.2.1.1 i hi
    have hout : ((stepV a k b).take i ++ List.replicate (b.length - i) 0).length = b.length := by
      rw [List.length_append, List.length_take, stepV_len, List.length_replicate]; omega
    have hset : ∀ x, stepAt a k b i = x → List.set ((stepV a k b).take i ++ List.replicate (b.length - i) 0) i x = (stepV a k b).take (i + 1) ++ List.replicate (b.length - (i + 1)) 0 := by
      intro x hx
      have := set_take (v := stepV a k b) (i := i) (by rw [stepV_len]; exact hi) x ((stepV_get h hi).trans hx)
      rwa [stepV_len] at this
    have hti : ((i : Int)).toNat = i := by omega
    rw [i_needStep_l0_eq, cnd_t (by omega), if_pos (inN hi), gN]
    by_cases c : 0 < b.getD i 0
    · have e : stepAt a k b i = Int.tmod (IntKind.i64.wrap (b.getD i 0 + 1)) k := by
        unfold stepAt; rw [if_pos c, i64w (by omega) (by omega)]
      rw [cnd_t c, if_neg (by omega), if_pos (by rw [hout]; exact inN hi), hti, hset _ e, w1 hi (by omega)]
      exact ih
    · rw [cnd_f c]
      obtain ⟨c', h1, h2, h3⟩ := i_step_inner h hi ((stepV a k b).take i ++ List.replicate (b.length - i) 0) (b.length : Int) 0 (by omega) 0 (by omega)
      refine (show i_needStep_l1 a k b (i : Int) 0 1 b (b.length : Int) (i : Int) b (b.length : Int) 0 _ = _ from h3).trans ?_
      have hf : fires a b i ↔ 1 ≤ c' := by
        rw [h2]
        unfold fires
        constructor
        · rintro ⟨j, j1, j2, j3⟩; exact .inr ⟨j, by omega, j1, j2, j3⟩
        · rintro (hh | ⟨m, m1, m2, m3, m4⟩)
          · omega
          · exact ⟨m, m2, m3, m4⟩
      rw [i_needStep_j3_eq]
      by_cases f : fires a b i
      · have e : stepAt a k b i = 1 := by unfold stepAt; rw [if_neg c, if_pos f]
        have := hf.1 f
        rw [cnd_t (by omega), if_pos (by rw [hout]; exact inN hi), hti, hset _ e, w1 hi (by omega)]
        exact ih
      · have e : stepAt a k b i = 0 := by unfold stepAt; rw [if_neg c, if_neg f]
        have : ¬ 1 ≤ c' := fun h => f (hf.2 h)
        have hz : (stepV a k b).take i ++ List.replicate (b.length - i) 0 = (stepV a k b).take (i + 1) ++ List.replicate (b.length - (i + 1)) 0 := by
          rw [stepV_take a k b hi, e, List.append_assoc]
          congr 1
          rw [show b.length - i = (b.length - (i + 1)) + 1 by omega, List.replicate_succ]
          rfl
        rw [cnd_f (by omega), w1 hi (by omega), hz]
        exact ih
theorem i_step : i_needStep_f (a, k, (), b) = some (stepV a k b) := by
  have hm := PlP.sm h
  rw [i_needStep_f_eq, if_pos ⟨by omega, by omega, by omega⟩]
  have := i_step_outer h 0 (by omega)
  rwa [List.take_zero, List.nil_append, Nat.sub_zero] at this
end
end FN
/-! Desks of the program: told, and copied. -/
namespace FN
open Go
theorem idesk (a : List Int) (k : Int) (b : List Int) (l : List Pl) (hb : b.length ≤ 4611686018427387904) (hl : l.length ≤ 4611686018427387904) (hs : ∀ p ∈ l, smP 4611686018427387904 p) : i_DeskOk_f (a, k, b, l) = some (decide (DkP a k b l)) := by
  apply Tells.val
  rw [i_DeskOk_f_eq]
  have hj : Tells (i_DeskOk_j1 a k b l) (PlP a k b ∧ l.length ≤ 8) := by
    rw [i_DeskOk_j1_eq, ipl _ _ _ hb, Option.bind_some]
    by_cases c : PlP a k b
    · rw [decide_eq_true c]; exact Tells.dec.iff ⟨fun h => ⟨c, by omega⟩, fun h => by omega⟩
    · rw [decide_eq_false c]; exact Tells.no fun h => c h.1
  have main : ∀ i, i ≤ l.length → Tells (i_DeskOk_l0 l (l.length : Int) (i : Int) a k b l) ((∀ j, i ≤ j → j < l.length → PlPp (l.getD j ([], 0, []))) ∧ (PlP a k b ∧ l.length ≤ 8)) := by
    refine advN ?_ fun i hi ih => ?_
    · refine (Tells.eq ?_ hj).iff ⟨fun h => ⟨fun j h1 h2 => by omega, h⟩, fun h => h.2⟩
      rw [i_DeskOk_l0_eq, cnd_f (by omega)]
    · have hm := hs _ (getD_mem (d := ([], 0, [])) hi)
      rw [i_DeskOk_l0_eq, cnd_t (by omega), if_pos (inN hi), gP, ipl _ _ _ hm.2, Option.bind_some, w1 hi (by omega)]
      by_cases c : PlPp (l.getD i ([], 0, []))
      · rw [decide_eq_true (show PlP (l.getD i ([], 0, [])).1 (l.getD i ([], 0, [])).2.1 (l.getD i ([], 0, [])).2.2 from c)]
        refine ih.iff ⟨fun h => ⟨fun j h1 h2 => ?_, h.2⟩, fun h => ⟨fun j h1 h2 => h.1 j (by omega) h2, h.2⟩⟩
        by_cases e : j = i
        · rw [e]; exact c
        · exact h.1 j (by omega) h2
      · rw [decide_eq_false (show ¬ PlP (l.getD i ([], 0, [])).1 (l.getD i ([], 0, [])).2.1 (l.getD i ([], 0, [])).2.2 from c)]
        exact Tells.no fun h => c (h.1 i (Nat.le_refl i) hi)
  refine (main 0 (by omega)).iff ⟨fun h => ⟨fun p hp => ?_, h.2⟩, fun h => ⟨fun j _ hj => h.1 _ (getD_mem hj), h.2⟩⟩
  obtain ⟨j, hj, rfl⟩ := List.getElem_of_mem hp
  have := h.1 j (by omega) hj
  rwa [List.getD_eq_getElem?_getD, List.getElem?_eq_getElem hj] at this
theorem clone_val (a : List Int) (h : a.length ≠ 0) (ha : a.length ≤ 1000000) : x_slices_Clone_int_int_f a = some a := by
  rw [x_slices_Clone_int_int_f_eq, if_pos ⟨rfl, h⟩, if_pos (by simp; omega)]
  rfl
theorem copyPlace_val (a : List Int) (k : Int) (b : List Int) (h : a.length ≠ 0) (h' : b.length ≠ 0) (ha : a.length ≤ 1000000) (hb : b.length ≤ 1000000) : i_copyPlace_f (a, k, b) = some (a, k, b) := by
  rw [i_copyPlace_f_eq, clone_val a h ha, Option.bind_some, clone_val b h' hb, Option.bind_some]
theorem copyPl {p : Pl} (h : PlPp p) : i_copyPlace_f (p.1, p.2.1, p.2.2) = some (p.1, p.2.1, p.2.2) := by
  have hm := PlP.sm h
  have h1 := h.1.lo
  have h2 := h.2.2
  exact copyPlace_val _ _ _ (by omega) (by omega) (by omega) (by omega)
theorem icopy_loop1 (a : List Int) (k : Int) (b : List Int) (l : List Pl) (y3 : Int) (hl : l.length ≤ 100) (hs : ∀ p ∈ l, PlPp p) : ∀ i, i ≤ l.length → i_copyDesk_l1 l (l.length : Int) (i : Int) y3 k a b (l.take i) = some (a, k, b, l) := by
  refine advN ?_ fun i hi ih => ?_
  · rw [i_copyDesk_l1_eq, cnd_f (by omega), List.take_length]
  · have hm := hs _ (getD_mem (d := ([], 0, [])) hi)
    rw [i_copyDesk_l1_eq, cnd_t (by omega), if_pos (inN hi), gP, copyPl hm, Option.bind_some, if_pos (by simp; omega), w1 hi (by omega)]
    have e : l.take (i + 1) = l.take i ++ [((l.getD i ([], 0, [])).1, (l.getD i ([], 0, [])).2.1, (l.getD i ([], 0, [])).2.2)] := by
      rw [List.take_succ_eq_append_getElem hi, List.getD_eq_getElem?_getD, List.getElem?_eq_getElem hi]; rfl
    rw [← e]
    exact ih
theorem icopy_val {a : List Int} {k : Int} {b : List Int} {l : List Pl} (h : DkP a k b l) : i_copyDesk_f (a, k, b, l) = some (a, k, b, l) := by
  have hl := h.2.2
  rw [i_copyDesk_f_eq, copyPl (p := (a, k, b)) h.2.1, Option.bind_some]
  simp only
  rw [i_copyDesk_l0_eq]
  by_cases c : 0 < l.length
  · have hm := h.1 _ (getD_mem (d := ([], 0, [])) c)
    have hg : List.getD l (0 : Int).toNat ([], 0, []) = l.getD 0 ([], 0, []) := rfl
    rw [cnd_t (by omega), if_pos ⟨by omega, by omega⟩, hg, copyPl hm, Option.bind_some, if_pos (by simp)]
    have e : l.take 1 = [((l.getD 0 ([], 0, [])).1, (l.getD 0 ([], 0, [])).2.1, (l.getD 0 ([], 0, [])).2.2)] := by
      rw [List.take_succ_eq_append_getElem c, List.getD_eq_getElem?_getD, List.getElem?_eq_getElem c]; rfl
    rw [← e]
    exact icopy_loop1 a k b l 0 (by omega) h.1 1 (by omega)
  · have : l = [] := List.eq_nil_of_length_eq_zero (by omega)
    subst this
    rw [cnd_f (by simp)]
end FN
/-! What a deed makes of a place, as a value. -/
namespace FN
open Go
/-- The wire of two nodes, turned over. -/
noncomputable def flipV (a : List Int) (A B : Int) : List Int :=
  let z := List.set a A.toNat (Go.bits .xor IntKind.i64 (List.getD a A.toNat 0) (IntKind.i64.wrap (1 * 2 ^ min B.toNat IntKind.i64.bits)))
  List.set z B.toNat (Go.bits .xor IntKind.i64 (List.getD z B.toNat 0) (IntKind.i64.wrap (1 * 2 ^ min A.toNat IntKind.i64.bits)))
section
variable {a : List Int} {k : Int} {b : List Int} (h : PlP a k b)
include h
theorem made_eq (K A B : Int) : s_l15Made_f (a, k, b, K, A, B) =
    (let t2 : Option Pl := if K = 2 ∧ A = 0 ∧ B = 0 then some (a, k, stepV a k b) else if K = 3 ∧ B = 0 then some (a, A, b) else some ([], 0, [])
     let lt : Option Pl := if K = 1 ∧ B = 0 ∧ (0 ≤ A ∧ A < (a.length : Int)) ∧ b.getD A.toNat 0 = 0 then some (a, k, List.set b A.toNat 1) else t2
     if K = 0 ∧ (0 ≤ A ∧ A < (a.length : Int)) ∧ (0 ≤ B ∧ B < (a.length : Int)) ∧ A ≠ B then some (flipV a A B, k, b) else lt) := by
  have hm := PlP.sm h
  have he := h.2.2
  have hlo := h.1.lo
  have hW : IntKind.i64.wrap ((List.length a : Int) - 1) = (a.length : Int) - 1 := i64w (by omega) (by omega)
  rw [s_l15Made_f_eq, l15Place_val _ _ _ (by omega) (by omega), Option.bind_some, l1In_val, Option.bind_some, l1In_val, Option.bind_some, s_step h, Option.bind_some, hW]
  simp only [beq_self_eq_true, Bool.and_true, Bool.true_and, Option.bind_some]
  have e2 : (cond ((K == 2) && ((A == 0) && (B == 0))) (some (a, k, stepV a k b)) (cond ((K == 3) && (B == 0)) (some (a, A, b)) (some (([] : List Int), (0 : Int), ([] : List Int))))) =
      (if K = 2 ∧ A = 0 ∧ B = 0 then some (a, k, stepV a k b) else if K = 3 ∧ B = 0 then some (a, A, b) else some ([], 0, [])) := by
    by_cases c : K = 2 ∧ A = 0 ∧ B = 0
    · rw [if_pos c]; obtain ⟨rfl, rfl, rfl⟩ := c; rfl
    · rw [if_neg c]
      have : ((K == 2) && ((A == 0) && (B == 0))) = false := by
        apply Bool.eq_false_iff.2; intro hh; apply c; simpa using hh
      rw [this, cond_false]
      by_cases c' : K = 3 ∧ B = 0
      · rw [if_pos c']; obtain ⟨rfl, rfl⟩ := c'; rfl
      · rw [if_neg c']
        have : ((K == 3) && (B == 0)) = false := by
          apply Bool.eq_false_iff.2; intro hh; apply c'; simpa using hh
        rw [this, cond_false]
  rw [e2]
  generalize (if K = 2 ∧ A = 0 ∧ B = 0 then some (a, k, stepV a k b) else if K = 3 ∧ B = 0 then some (a, A, b) else some ([], 0, [])) = T2
  have e1 : (cond ((K == 1) && (B == 0)) (cond (decide (0 ≤ A ∧ A ≤ (a.length : Int) - 1)) (if (0 : Int) ≤ A ∧ A < (b.length : Int) then (cond (List.getD b A.toNat 0 == 0) (if (0 : Int) ≤ A ∧ A < (b.length : Int) then (some (a, k, List.set b A.toNat 1)) else none) T2) else none) T2) T2) =
      (if K = 1 ∧ B = 0 ∧ (0 ≤ A ∧ A < (a.length : Int)) ∧ b.getD A.toNat 0 = 0 then some (a, k, List.set b A.toNat 1) else T2) := by
    by_cases c : K = 1 ∧ B = 0
    · obtain ⟨rfl, rfl⟩ := c
      by_cases c1 : 0 ≤ A ∧ A < (a.length : Int)
      · rw [show ((1 : Int) == 1 && (0 : Int) == 0) = true from rfl, cond_true, cnd_t (by omega), if_pos (by omega), if_pos (by omega)]
        by_cases c2 : b.getD A.toNat 0 = 0
        · rw [beq_t c2, if_pos ⟨rfl, rfl, c1, c2⟩]
        · rw [beq_f c2, if_neg (fun hh => c2 hh.2.2.2)]
      · rw [show ((1 : Int) == 1 && (0 : Int) == 0) = true from rfl, cond_true, cnd_f (by omega), if_neg (fun hh => c1 hh.2.2.1)]
    · have : ((K == 1) && (B == 0)) = false := by
        apply Bool.eq_false_iff.2; intro hh; apply c; simpa using hh
      rw [this, cond_false, if_neg (fun hh => c ⟨hh.1, hh.2.1⟩)]
  rw [e1]
  generalize (if K = 1 ∧ B = 0 ∧ (0 ≤ A ∧ A < (a.length : Int)) ∧ b.getD A.toNat 0 = 0 then some (a, k, List.set b A.toNat 1) else T2) = LT
  by_cases c : K = 0
  · subst c
    rw [show ((0 : Int) == 0) = true from rfl, cond_true]
    by_cases hA : 0 ≤ A ∧ A < (a.length : Int)
    · rw [cnd_t (by omega)]
      by_cases hB : 0 ≤ B ∧ B < (a.length : Int)
      · rw [cnd_t (by omega)]
        by_cases hn : A ≠ B
        · rw [bne_t hn, if_pos hA, if_neg (by omega), if_pos hA, List.length_set, if_pos hB, if_neg (by omega), if_pos hB]
          simp only
          rw [if_pos ⟨trivial, hA, hB, hn⟩]
          rfl
        · rw [bne_f (by omega)]
          simp only
          rw [if_neg (fun hh => hn hh.2.2.2)]
      · rw [cnd_f (by omega)]
        simp only
        rw [if_neg (fun hh => hB hh.2.2.1)]
    · rw [cnd_f (by omega)]
      simp only
      rw [if_neg (fun hh => hA hh.2.1)]
  · rw [beq_f c, if_neg (fun hh => c hh.1)]
end
end FN
/-! Deeds: the program's and the reference's alike. -/
namespace FN
open Go
section
variable {a : List Int} {k : Int} {b : List Int} {l : List Pl} (h : DkP a k b l)
include h
/-- Behind what is made. -/
theorem do_made {K A B : Int} (hK : ¬ (K = 4 ∧ A = 0 ∧ B = 0 ∧ 0 < l.length)) {z : List Int} {κ : Int} {st : List Int} (hst : st.length ≤ 100)
    (hm : s_l15Made_f (a, k, b, K, A, B) = some (z, κ, st)) : s_DeskDo_f (a, k, b, l, K, A, B) = i_DeskDo_j4 a k b l 0 k κ a b l z st l := by
  have hp := PlP.sm h.2.1
  have hl := h.2.2
  have hsm : ∀ p ∈ l, smP 4611686018427387904 p := fun p hp => by have := PlP.sm (h.1 p hp); exact ⟨by omega, by omega⟩
  have hW : IntKind.i64.wrap ((List.length l : Int) - 1) = (l.length : Int) - 1 := i64w (by omega) (by omega)
  obtain ⟨t1, t1', t1''⟩ := placeText_same z κ st (by omega)
  obtain ⟨t2, t2', t2''⟩ := placeText_same a k b (by omega)
  rw [i_DeskDo_j4_eq, ipl z κ st (by omega), Option.bind_some, t1'', Option.bind_some, t2'', Option.bind_some]
  rw [s_DeskDo_f_eq, sdesk a k b l (by omega) (by omega) hsm, decide_eq_true h, Option.bind_some, Bool.not_true, cond_false, l15Copy_val h, Option.bind_some, hm, Option.bind_some]
  simp only [hW]
  rw [spl z κ st (by omega), Option.bind_some, t1', Option.bind_some, t2', Option.bind_some]
  have hlen : (l ++ ([(a, k, b)] : List (List Int × Int × List Int))).length = l.length + 1 := by simp
  have hmem : ∀ p ∈ l ++ ([(a, k, b)] : List (List Int × Int × List Int)), PlPp p := fun p hp => by
    rcases List.mem_append.1 hp with hp | hp
    · exact h.1 p hp
    · have : p = (a, k, b) := by simpa using hp
      rw [this]; exact h.2.1
  have main : (cond (!decide (PlP z κ st)) (some (a, k, b, l, false)) (cond (ByteArray.toList t1 == ByteArray.toList t2) (some (a, k, b, l, false)) (if (List.length l + List.length ([(a, k, b)] : List (List Int × Int × List Int))) * 56 ≤ 140737488355328 then (cond ((decide (8 < (List.length (l ++ ([(a, k, b)] : List (List Int × Int × List Int))) : Int)))) (if (0 : Int) ≤ 1 ∧ 1 ≤ (List.length (l ++ ([(a, k, b)] : List (List Int × Int × List Int))) : Int) then (s_DeskDo_j0 0 k (List.drop (1 : Int).toNat (List.take ((List.length (l ++ ([(a, k, b)] : List (List Int × Int × List Int))))) (l ++ ([(a, k, b)] : List (List Int × Int × List Int))))) κ z st) else none) (s_DeskDo_j1 0 k κ (l ++ ([(a, k, b)] : List (List Int × Int × List Int))) z st)) else none))) =
      (cond (!decide (PlP z κ st)) (some (a, k, b, l, false)) (cond (ByteArray.toList t1 == ByteArray.toList t2) (some (a, k, b, l, false)) (Option.bind (i_copyPlace_f (a, k, b)) fun r4 => (if (List.length l + List.length ([(r4.1, r4.2.1, r4.2.2)] : List (List Int × Int × List Int))) * 56 ≤ 140737488355328 then (cond ((decide (8 < (List.length (l ++ ([(r4.1, r4.2.1, r4.2.2)] : List (List Int × Int × List Int))) : Int)))) (if (0 : Int) ≤ 1 ∧ 1 ≤ (List.length (l ++ ([(r4.1, r4.2.1, r4.2.2)] : List (List Int × Int × List Int))) : Int) then (Option.bind (i_copyDesk_f (z, κ, st, (List.drop (1 : Int).toNat (List.take ((List.length (l ++ ([(r4.1, r4.2.1, r4.2.2)] : List (List Int × Int × List Int))))) (l ++ ([(r4.1, r4.2.1, r4.2.2)] : List (List Int × Int × List Int))))))) fun r5 => (some (r5.1, r5.2.1, r5.2.2.1, r5.2.2.2, true))) else none) (Option.bind (i_copyDesk_f (z, κ, st, (l ++ ([(r4.1, r4.2.1, r4.2.2)] : List (List Int × Int × List Int))))) fun r6 => (some (r6.1, r6.2.1, r6.2.2.1, r6.2.2.2, true)))) else none)))) := by
    by_cases hq : PlP z κ st
    · rw [decide_eq_true hq, Bool.not_true, cond_false, cond_false]
      cases (ByteArray.toList t1 == ByteArray.toList t2) with
      | true => rw [cond_true, cond_true]
      | false =>
        rw [cond_false, cond_false, copyPl (p := (a, k, b)) h.2.1, Option.bind_some]
        have h56 : (List.length l + List.length ([(a, k, b)] : List (List Int × Int × List Int))) * 56 ≤ 140737488355328 := by simp; omega
        have hin : (0 : Int) ≤ 1 ∧ 1 ≤ ((l.length + 1 : Nat) : Int) := ⟨by omega, by omega⟩
        simp only [if_pos h56, hlen, if_pos hin]
        by_cases c8 : (8 : Int) < ((l.length + 1 : Nat) : Int)
        · have hd : DkP z κ st (List.drop (1 : Int).toNat (List.take (l.length + 1) (l ++ ([(a, k, b)] : List (List Int × Int × List Int))))) := ⟨fun p hp' => hmem p (List.mem_of_mem_take (List.mem_of_mem_drop hp')), hq, by rw [List.length_drop, List.length_take, hlen, show (1 : Int).toNat = 1 from rfl]; omega⟩
          rw [cnd_t c8, cnd_t c8, s_DeskDo_j0_eq, icopy_val hd, Option.bind_some]
        · have hd : DkP z κ st (l ++ ([(a, k, b)] : List (List Int × Int × List Int))) := ⟨hmem, hq, by rw [hlen]; omega⟩
          rw [cnd_f c8, cnd_f c8, s_DeskDo_j1_eq, icopy_val hd, Option.bind_some]
    · rw [decide_eq_false hq, Bool.not_false, cond_true, cond_true]
  by_cases c4 : K = 4 ∧ A = 0 ∧ B = 0
  · obtain ⟨rfl, rfl, rfl⟩ := c4
    have : ¬ (0 : Int) < (l.length : Int) := fun hh => hK ⟨rfl, rfl, rfl, by omega⟩
    rw [show ((4 : Int) == 4 && ((0 : Int) == 0 && ((0 : Int) == 0 && true))) = true from rfl, cond_true, cnd_f this]
    exact main
  · have : (K == 4 && (A == 0 && (B == 0 && true))) = false := by
      apply Bool.eq_false_iff.2; intro hh; apply c4; simpa using hh
    rw [this, cond_false]
    exact main
end
end FN
namespace FN
open Go
section
variable {a : List Int} {k : Int} {b : List Int} {l : List Pl} (h : DkP a k b l)
include h
omit h in
theorem j5_no {z : List Int} {κ : Int} {st : List Int} (hst : st.length ≤ 100) (hn : ¬ PlP z κ st) : i_DeskDo_j4 a k b l 0 k κ a b l z st l = some (a, k, b, l, false) := by
  rw [i_DeskDo_j4_eq, ipl z κ st (by omega), Option.bind_some, decide_eq_false hn, Bool.not_false, cond_true]
omit h in
theorem no_zero : ¬ PlP [] 0 [] := fun h => by have := h.1.lo; simp at this
/-- What cannot be done. -/
theorem do_no {K A B : Int} (hK : ¬ (K = 4 ∧ A = 0 ∧ B = 0 ∧ 0 < l.length)) (hm : s_l15Made_f (a, k, b, K, A, B) = some ([], 0, [])) : s_DeskDo_f (a, k, b, l, K, A, B) = some (a, k, b, l, false) := by
  rw [do_made h hK (by simp) hm]
  exact j5_no (by simp) no_zero
/-- The program's, behind its tests of names. -/
theorem i_do_head (K A B : Int) : i_DeskDo_f (a, k, b, l, K, A, B) =
    if (K ≠ 0 ∧ B ≠ 0) ∨ ((K = 2 ∨ K = 4) ∧ A ≠ 0) then some (a, k, b, l, false) else i_DeskDo_j1 a k b l K A B 0 k k a b l a b l := by
  have hl := h.2.2
  have hb := PlP.sm h.2.1
  have hsm : ∀ p ∈ l, smP 4611686018427387904 p := fun p hp => by have := PlP.sm (h.1 p hp); exact ⟨by omega, by omega⟩
  rw [i_DeskDo_f_eq, idesk a k b l (by omega) (by omega) hsm, decide_eq_true h, Option.bind_some, Bool.not_true, cond_false, icopy_val h, Option.bind_some, Option.bind_some]
  simp only
  rw [i_DeskDo_j0_eq]
  by_cases k0 : K = 0
  · have n2 : K ≠ 2 := by omega
    have n4 : K ≠ 4 := by omega
    rw [bne_f k0, beq_f n2, beq_f n4, if_neg (by omega)]
  · rw [bne_t k0]
    by_cases b0 : B = 0
    · rw [bne_f b0]
      by_cases k2 : K = 2
      · rw [beq_t k2]
        by_cases a0 : A = 0
        · rw [bne_f a0, if_neg (by omega)]
        · rw [bne_t a0, if_pos (by omega)]
      · rw [beq_f k2]
        by_cases k4 : K = 4
        · rw [beq_t k4]
          by_cases a0 : A = 0
          · rw [bne_f a0, if_neg (by omega)]
          · rw [bne_t a0, if_pos (by omega)]
        · rw [beq_f k4, if_neg (by omega)]
    · rw [bne_t b0, if_pos (by omega)]
end
end FN
namespace FN
open Go
section
variable {a : List Int} {k : Int} {b : List Int} {l : List Pl} (h : DkP a k b l)
include h
theorem do_same (K A B : Int) : i_DeskDo_f (a, k, b, l, K, A, B) = s_DeskDo_f (a, k, b, l, K, A, B) := by
  have hp := PlP.sm h.2.1
  have hl := h.2.2
  have he := h.2.1.2.2
  have hlo := h.2.1.1.lo
  have hsm : ∀ p ∈ l, smP 4611686018427387904 p := fun p hp => by have := PlP.sm (h.1 p hp); exact ⟨by omega, by omega⟩
  have hW : IntKind.i64.wrap ((List.length l : Int) - 1) = (l.length : Int) - 1 := i64w (by omega) (by omega)
  have hme := made_eq h.2.1 K A B
  rw [i_do_head h]
  by_cases hh : (K ≠ 0 ∧ B ≠ 0) ∨ ((K = 2 ∨ K = 4) ∧ A ≠ 0)
  · rw [if_pos hh, do_no h (by omega)]
    rw [hme]
    simp only
    rw [if_neg (by omega), if_neg (by omega), if_neg (by omega), if_neg (by omega)]
  · rw [if_neg hh, i_DeskDo_j1_eq]
    by_cases k0 : K = 0
    · have n4 : ¬ (K = 4 ∧ A = 0 ∧ B = 0 ∧ 0 < l.length) := by omega
      have bad : ¬ ((0 ≤ A ∧ A < (a.length : Int)) ∧ (0 ≤ B ∧ B < (a.length : Int)) ∧ A ≠ B) → s_DeskDo_f (a, k, b, l, K, A, B) = some (a, k, b, l, false) := by
        intro hb
        rw [do_no h n4]
        rw [hme]
        simp only
        rw [if_neg (fun q => hb q.2), if_neg (by omega), if_neg (by omega), if_neg (by omega)]
      rw [beq_t k0]
      by_cases c1 : A < 0
      · rw [cnd_t c1, bad (by omega)]
      rw [cnd_f c1]
      by_cases c2 : (a.length : Int) ≤ A
      · rw [cnd_t c2, bad (by omega)]
      rw [cnd_f c2]
      by_cases c3 : B < 0
      · rw [cnd_t c3, bad (by omega)]
      rw [cnd_f c3]
      by_cases c4 : (a.length : Int) ≤ B
      · rw [cnd_t c4, bad (by omega)]
      rw [cnd_f c4]
      by_cases c5 : A = B
      · rw [beq_t c5, bad (by omega)]
      have hA : 0 ≤ A ∧ A < (a.length : Int) := ⟨by omega, by omega⟩
      have hB : 0 ≤ B ∧ B < (a.length : Int) := ⟨by omega, by omega⟩
      rw [beq_f c5, i_DeskDo_j2_eq, if_pos hA, if_neg (by omega), if_pos hA, i_DeskDo_j6_eq, List.length_set, if_pos hB, if_neg (by omega), if_pos hB]
      refine (do_made h n4 (z := flipV a A B) (κ := k) (st := b) (by omega) ?_).symm
      rw [hme]
      simp only
      rw [if_pos ⟨k0, hA, hB, c5⟩]
    rw [beq_f k0]
    have hB0 : B = 0 := by omega
    have m0 : ¬ (K = 0 ∧ (0 ≤ A ∧ A < (a.length : Int)) ∧ (0 ≤ B ∧ B < (a.length : Int)) ∧ A ≠ B) := fun q => k0 q.1
    by_cases k1 : K = 1
    · have n4 : ¬ (K = 4 ∧ A = 0 ∧ B = 0 ∧ 0 < l.length) := by omega
      have bad : ¬ ((0 ≤ A ∧ A < (a.length : Int)) ∧ b.getD A.toNat 0 = 0) → s_DeskDo_f (a, k, b, l, K, A, B) = some (a, k, b, l, false) := by
        intro hb
        rw [do_no h n4]
        rw [hme]
        simp only
        rw [if_neg m0, if_neg (fun q => hb q.2.2), if_neg (by omega), if_neg (by omega)]
      rw [beq_t k1]
      by_cases c1 : A < 0
      · rw [cnd_t c1, bad (by omega)]
      rw [cnd_f c1]
      by_cases c2 : (a.length : Int) ≤ A
      · rw [cnd_t c2, bad (by omega)]
      have hA : 0 ≤ A ∧ A < (b.length : Int) := ⟨by omega, by omega⟩
      rw [cnd_f c2, if_pos hA]
      by_cases c3 : List.getD b A.toNat 0 = 0
      · rw [bne_f c3, i_DeskDo_j3_eq, if_pos hA]
        refine (do_made h n4 (z := a) (κ := k) (st := List.set b A.toNat 1) (by rw [List.length_set]; omega) ?_).symm
        rw [hme]
        simp only
        rw [if_neg m0, if_pos ⟨k1, hB0, by omega, c3⟩]
      · rw [bne_t c3, bad (fun q => c3 q.2)]
    rw [beq_f k1]
    have m1 : ¬ (K = 1 ∧ B = 0 ∧ (0 ≤ A ∧ A < (a.length : Int)) ∧ b.getD A.toNat 0 = 0) := fun q => k1 q.1
    by_cases k2 : K = 2
    · have hA0 : A = 0 := by omega
      rw [beq_t k2, i_step h.2.1, Option.bind_some]
      refine (do_made h (by omega) (z := a) (κ := k) (st := stepV a k b) (by rw [stepV_len]; omega) ?_).symm
      rw [hme]
      simp only
      rw [if_neg m0, if_neg m1, if_pos ⟨k2, hA0, hB0⟩]
    rw [beq_f k2]
    by_cases k3 : K = 3
    · rw [beq_t k3]
      refine (do_made h (by omega) (z := a) (κ := A) (st := b) (by omega) ?_).symm
      rw [hme]
      simp only
      rw [if_neg m0, if_neg m1, if_neg (by omega), if_pos ⟨k3, hB0⟩]
    rw [beq_f k3]
    have hz : s_l15Made_f (a, k, b, K, A, B) = some ([], 0, []) := by
      rw [hme]
      simp only
      rw [if_neg m0, if_neg m1, if_neg (by omega), if_neg (by omega)]
    by_cases k4 : K = 4
    · have hA0 : A = 0 := by omega
      rw [beq_t k4, hW, i_DeskDo_j5_eq]
      by_cases c : 0 < l.length
      · have h1 : (0 : Int) ≤ (l.length : Int) - 1 ∧ (l.length : Int) - 1 < (l.length : Int) := ⟨by omega, by omega⟩
        have h2 : (0 : Int) ≤ (l.length : Int) - 1 ∧ (l.length : Int) - 1 ≤ (l.length : Int) := ⟨by omega, by omega⟩
        rw [cnd_f (by omega), i_DeskDo_j7_eq, if_pos h2, if_pos h1, if_pos (by omega), if_pos (by rw [List.length_take]; omega)]
        simp only [Option.bind_some, List.take_take, Nat.min_self]
        obtain ⟨z, κ, st, hz', _⟩ := made_tot h.2.1 K A B
        rw [s_DeskDo_f_eq, sdesk a k b l (by omega) (by omega) hsm, decide_eq_true h, Option.bind_some, Bool.not_true, cond_false, l15Copy_val h, Option.bind_some]
        have e4 : (K == 4 && (A == 0 && (B == 0 && true))) = true := by rw [k4, hA0, hB0]; rfl
        simp only [hW]
        rw [e4, cond_true, cnd_t (by omega), if_pos h1, if_pos h2, List.drop_zero]
      · rw [cnd_t (by omega), do_no h (by omega) hz]
    · rw [beq_f k4, do_no h (by omega) hz]
end
end FN
/-! Deeds one behind the other: the program's and the reference's alike. -/
namespace FN
open Go
theorem run1_same (ds : List Dd3) (hd : ds.length ≤ 4000000000) : ∀ i, i ≤ ds.length → ∀ (n : Int) (a : List Int) (k : Int) (b : List Int) (l : List Pl), DkP a k b l → i_doAll_l1 n ds (ds.length : Int) (i : Int) k 0 a b l = s_l15Run_l1 ds n (i : Int) 0 a k b l := by
  refine advN ?_ fun i hi ih => ?_
  · intro n a k b l h
    rw [i_doAll_l1_eq, s_l15Run_l1_eq, cnd_f (by omega), cnd_f (by omega)]
  · intro n a k b l h
    obtain ⟨a', k', b', l', t, e, h'⟩ := do_tot h (ds.getD i (0, 0, 0)).1 (ds.getD i (0, 0, 0)).2.1 (ds.getD i (0, 0, 0)).2.2
    rw [i_doAll_l1_eq, s_l15Run_l1_eq, cnd_t (by omega), cnd_t (by omega), if_pos (inN hi), if_pos (inN hi), gD3, do_same h, e, Option.bind_some, Option.bind_some, w1 hi (by omega)]
    cases t with
    | true => exact ih _ _ _ _ _ h'
    | false => exact ih _ _ _ _ _ h
theorem run0_same (ds : List Dd3) (hd : ds.length ≤ 4000000000) : ∀ i, i ≤ ds.length → ∀ (n : Int) (a : List Int) (k : Int) (b : List Int) (l : List Pl), DkP a k b l → i_doAll_l0 n ds (ds.length : Int) (i : Int) k 0 a b l = s_l15Run_l0 ds n (i : Int) 0 a k b l := by
  refine advN ?_ fun i hi ih => ?_
  · intro n a k b l h
    rw [i_doAll_l0_eq, s_l15Run_l0_eq, cnd_f (by omega), cnd_f (by omega)]
  · intro n a k b l h
    obtain ⟨a', k', b', l', t, e, h'⟩ := do_tot h (ds.getD i (0, 0, 0)).1 (ds.getD i (0, 0, 0)).2.1 (ds.getD i (0, 0, 0)).2.2
    rw [i_doAll_l0_eq, s_l15Run_l0_eq, cnd_t (by omega), cnd_t (by omega), if_pos (inN hi), if_pos (inN hi), gD3, do_same h, e, Option.bind_some, Option.bind_some, w1 hi (by omega)]
    cases t with
    | true => exact run1_same ds hd (i + 1) (by omega) _ _ _ _ _ h'
    | false => exact ih _ _ _ _ _ h
theorem doAll_same {a : List Int} {k : Int} {b : List Int} {l : List Pl} (h : DkP a k b l) (ds : List Dd3) (hd : ds.length ≤ 4000000000) : i_doAll_f (a, k, b, l, ds) = s_l15Run_f (a, k, b, l, ds) := by
  rw [i_doAll_f_eq, s_l15Run_f_eq, icopy_val h, l15Copy_val h, Option.bind_some, Option.bind_some]
  exact run0_same ds hd 0 (by omega) 0 a k b l h
end FN
/-! The text of a place is read as the place. -/
namespace FN
open Go
theorem szB (s : ByteArray) : s.size = s.data.toList.length := by rw [Array.length_toList]; rfl
def dgB (v : Int) : UInt8 := UInt8.ofNat (48 + v.toNat)
theorem dgB_l {v : Int} (h0 : 0 ≤ v) (h1 : v < 10) : (itoaS v).data.toList = [dgB v] ∧ dig (dgB v) = v ∧ (dgB v).toNat = 48 + v.toNat := by
  obtain ⟨m, rfl⟩ : ∃ m : Nat, v = m := ⟨v.toNat, by omega⟩
  exact itoa_l (by omega)
theorem no32 {v : Int} (h0 : 0 ≤ v) (h1 : v < 10) : (32 : UInt8) ≠ dgB v := fun e => by
  have h2 := (dgB_l h0 h1).2.2
  rw [← e] at h2
  have : (32 : UInt8).toNat = 32 := rfl
  omega
theorem dgs_data {st : List Int} (hs : ∀ j, j < st.length → 0 ≤ st.getD j 0 ∧ st.getD j 0 < 10) : ∀ i, i ≤ st.length → (dgs st i).data.toList = (st.take i).map dgB
  | 0, _ => rfl
  | i + 1, h => by
    have h1 := dgs_data hs i (by omega)
    have h2 := hs i (by omega)
    rw [dgs, ba_app, h1, (dgB_l h2.1 h2.2).1, List.take_succ_eq_append_getElem (show i < st.length by omega), List.map_append]
    have : st.getD i 0 = st[i] := by rw [List.getD_eq_getElem?_getD, List.getElem?_eq_getElem (by omega)]; rfl
    rw [this]; rfl
theorem mem_join {x : UInt8} : ∀ (prs : List ByteArray), x ∈ (joinS prs str14).data.toList → x = 44 ∨ ∃ p ∈ prs, x ∈ p.data.toList := by
  intro prs hx
  cases prs with
  | nil => cases hx
  | cons p l =>
    have e : (joinS (p :: l) str14).data.toList = Lib.join (p.data.toList :: l.map fun b => b.data.toList) [44] := rfl
    rw [e, Lib.join_cons, List.mem_append] at hx
    rcases hx with hx | hx
    · exact .inr ⟨p, by simp, hx⟩
    · simp only [Lib.joinTail, List.mem_flatten, List.mem_map] at hx
      obtain ⟨a, ⟨b, ⟨q, hq, rfl⟩, rfl⟩, h2⟩ := hx
      rw [List.mem_append] at h2
      rcases h2 with h2 | h2
      · exact .inl (by simpa using h2)
      · exact .inr ⟨q, by simp [hq], h2⟩
section
variable {net st : List Int} {kd : Int} (h : PlP net kd st)
include h
/-- The text: its middle part, and what is read of it. -/
theorem ptx_told : ∃ Y : List UInt8, (ptx net kd st).data.toList = [dgB net.length] ++ 32 :: (Y ++ 32 :: ([dgB kd] ++ 32 :: st.map dgB)) ∧ (32 : UInt8) ∉ Y ∧
    (if Y = [46] then some (List.replicate net.length 0) else pairsF (net.length : Int) (cutL 44 Y) (List.replicate net.length 0)) = some net ∧ Y.length ≤ 900 := by
  have hnl : net.length ≤ 6 := h.1.hi
  have hs : st.length ≤ 4611686018427387904 := by have := h.2.1.2.2.2.2; omega
  have hst : ∀ j, j < st.length → 0 ≤ st.getD j 0 ∧ st.getD j 0 < 10 := fun j hj => ⟨(h.2.1.1 j hj).1, by have := (h.2.1.1 j hj).2; have := h.2.1.2.2.1; omega⟩
  obtain ⟨prs, y, z, r, hG⟩ := all_val h 0 (by omega) [] ByteArray.empty _ (inv_zero hnl)
  have hz := inv_last h r
  subst hz
  have hf : s_PlaceText_f (z, kd, st) = s_PlaceText_j2 y (dgs st st.length) z kd st := by
    rw [s_PlaceText_f_eq, spl z kd st hs, Option.bind_some, decide_eq_true h]
    exact hG
  have hl := r.pr.len
  have hsz := r.pr.sz
  have hk := h.2.1.2.1
  have hk' := h.2.1.2.2.1
  have told : ∀ Y : ByteArray, Y.size ≤ 900 → s_PlaceText_j2 y (dgs st st.length) z kd st = s_PlaceText_j4 Y (dgs st st.length) z kd st → (ptx z kd st).data.toList = [dgB z.length] ++ 32 :: (Y.data.toList ++ 32 :: ([dgB kd] ++ 32 :: st.map dgB)) := by
    intro Y hY e
    have e1 : s_PlaceText_f (z, kd, st) = _ := (hf.trans e).trans (fin_same h Y hY _ rfl)
    rw [(ptx_val z kd st hs).2] at e1
    have e1 := Option.some.inj e1
    have d1 := (dgB_l (v := (z.length : Int)) (by omega) (by omega)).1
    have d2 := (dgB_l (v := kd) (by omega) (by omega)).1
    have d3 := dgs_data hst st.length (Nat.le_refl _)
    have d4 : str1.data.toList = [32] := rfl
    rw [e1, ba_app, ba_app, ba_app, ba_app, ba_app, ba_app, d1, d2, d3, d4, List.take_length]
    simp only [List.append_assoc, List.singleton_append, List.cons_append, List.nil_append]
  by_cases hp : prs = []
  · subst hp
    have hy : y = ByteArray.empty := r.pr.eq.symm.trans (joinS_nil _)
    subst hy
    refine ⟨[46], told str15 (by rw [z15]; omega) ?_, by decide, ?_, by simp⟩
    · rw [s_PlaceText_j2_eq, show (ByteArray.toList ByteArray.empty == ByteArray.toList ByteArray.empty) = true from by simp, cond_true]
    · rw [if_pos rfl]
      exact r.fold
  · have hpos : 0 < prs.length := List.length_pos_iff.2 hp
    have h44 : ∀ x : UInt8, x = 32 ∨ x = 44 → ∀ p ∈ prs, x ∉ p.data.toList := by
      intro x hx p hp hm
      obtain ⟨a, b, ha, hb, hl⟩ := r.fm p hp
      rw [hl] at hm
      have e1 := (itoa_l (a := a) (by omega)).2.2
      have e2 := (itoa_l (a := b) (by omega)).2.2
      have hx' : x.toNat ≤ 44 := by rcases hx with rfl | rfl <;> decide
      simp only [List.mem_cons, List.not_mem_nil, or_false] at hm
      rcases hm with rfl | rfl <;> omega
    refine ⟨y.data.toList, told y (by omega) ?_, ?_, ?_, by rw [show y.data.toList.length = y.size from by rw [Array.length_toList]; rfl]; omega⟩
    · rw [s_PlaceText_j2_eq, empty_toList (r.pr.pos hp), cond_false]
    · intro hm
      rw [← r.pr.eq] at hm
      rcases mem_join prs hm with h1 | ⟨p, hp, h1⟩
      · cases h1
      · exact h44 32 (.inl rfl) p hp h1
    · have hc : cutL 44 y.data.toList = prs.map (·.data.toList) := by
        rw [← r.pr.eq]
        exact cut_join prs hp (h44 44 (.inr rfl))
      rw [hc]
      have hne : y.data.toList ≠ [46] := by
        intro e
        rw [e] at hc
        have e2 : cutL 44 [46] = [[46]] := by decide
        rw [e2] at hc
        obtain ⟨p, l, rfl⟩ := List.exists_cons_of_ne_nil hp
        simp only [List.map_cons, List.cons.injEq] at hc
        obtain ⟨a, b, _, _, hl⟩ := r.fm p (by simp)
        rw [hl] at hc
        exact absurd hc.1 (by simp)
      rw [if_neg hne]
      exact r.fold
theorem ptx_cut : ∃ Y : List UInt8, cutL 32 (ptx net kd st).data.toList = [[dgB net.length], Y, [dgB kd], st.map dgB] ∧
    (if Y = [46] then some (List.replicate net.length 0) else pairsF (net.length : Int) (cutL 44 Y) (List.replicate net.length 0)) = some net ∧ (ptx net kd st).size ≤ 1000 := by
  have hnl : net.length ≤ 6 := h.1.hi
  have hk := h.2.1.2.1
  have hk' := h.2.1.2.2.1
  obtain ⟨Y, e1, e2, e3, e4⟩ := ptx_told h
  refine ⟨Y, ?_, e3, ?_⟩
  · have n1 : (32 : UInt8) ∉ [dgB (net.length : Int)] := by simpa using no32 (v := (net.length : Int)) (by omega) (by omega)
    have n2 : (32 : UInt8) ∉ [dgB kd] := by simpa using no32 (v := kd) (by omega) (by omega)
    have n3 : (32 : UInt8) ∉ st.map dgB := by
      intro hm
      obtain ⟨v, hv, e⟩ := List.mem_map.1 hm
      obtain ⟨i, hi⟩ := List.getElem?_of_mem hv
      obtain ⟨hl, hi⟩ := List.getElem?_eq_some_iff.1 hi
      have := h.2.1.1 i hl
      rw [List.getD_eq_getElem?_getD, List.getElem?_eq_getElem hl, hi] at this
      exact no32 (v := v) this.1 (by have := this.2; simp at this; omega) e.symm
    rw [e1, cutL_sep n1, cutL_sep e2, cutL_sep n2, cutL_one n3]
  · rw [szB, e1]
    have := h.2.1.2.2.2.2
    simp
    omega
theorem read_back : readP (ptx net kd st).data.toList = (net, kd, st, true) := by
  have hnl : net.length ≤ 6 := h.1.hi
  have hlo := h.1.lo
  have hk := h.2.1.2.1
  have hk' := h.2.1.2.2.1
  obtain ⟨Y, e1, e2, _⟩ := ptx_cut h
  have d1 := (dgB_l (v := (net.length : Int)) (by omega) (by omega)).2.1
  have d2 := (dgB_l (v := kd) (by omega) (by omega)).2.1
  have d3 : (st.map dgB).map dig = st := by
    rw [List.map_map]
    have : ∀ v ∈ st, (dig ∘ dgB) v = id v := by
      intro v hv
      obtain ⟨i, hi⟩ := List.getElem?_of_mem hv
      obtain ⟨hl, hi⟩ := List.getElem?_eq_some_iff.1 hi
      have := h.2.1.1 i hl
      rw [List.getD_eq_getElem?_getD, List.getElem?_eq_getElem hl, hi] at this
      exact (dgB_l (v := v) this.1 (by have := this.2; simp at this; omega)).2.1
    rw [List.map_congr_left this, List.map_id]
  have hc : (1 : Int) ≤ (net.length : Int) ∧ (net.length : Int) ≤ 6 := ⟨by omega, by omega⟩
  rw [readP_some e1, d1, d2, d3, if_pos hc, Int.toNat_natCast, e2]
  simp only
  unfold finP
  rw [of_data, if_pos rfl]
end
end FN
/-! The reader of a code. -/
namespace FN
open Go
theorem pick_ok {l : List Int} (hl : Bytes l) (hn : l.length ≤ 2000) {p n : Int} (hp : 0 ≤ p) (hp' : p ≤ 1000000000) (h1 : 1 ≤ n) (hn' : n ≤ 1000000000) : ∃ v : Int, r_pick_f (l, p, n) = some (v, p + 1) ∧ 0 ≤ v ∧ v < n := by
  rw [r_pick_f_eq]
  have e1 : IntKind.i64.wrap (p + 1) = p + 1 := i64w (by omega) (by omega)
  have e2 : IntKind.i64.wrap (p + 1 - 1) = p := by rw [i64w (n := p + 1 - 1) (by omega) (by omega)]; omega
  simp only [e1, e2, and_self, if_true]
  rw [cnd_f (by omega)]
  by_cases hz : l.length = 0
  · rw [beq_t (by omega)]
    exact ⟨0, rfl, by omega, by omega⟩
  rw [beq_f (by omega)]
  by_cases hlt : p < (l.length : Int)
  · rw [cnd_t hlt, if_pos ⟨hp, hlt⟩, if_neg (by omega)]
    have hb := hl.get p.toNat
    rw [i64w (n := l.getD p.toNat 0) (by omega) (by omega)]
    exact ⟨_, rfl, Int.tmod_nonneg _ hb.1, Int.tmod_lt_of_pos _ (by omega)⟩
  · rw [cnd_f hlt, if_neg (by omega)]
    have a0 : 0 ≤ Int.tmod p (l.length : Int) := Int.tmod_nonneg _ hp
    have a1 : Int.tmod p (l.length : Int) < (l.length : Int) := Int.tmod_lt_of_pos _ (by omega)
    rw [if_pos ⟨a0, a1⟩, if_neg (by omega)]
    have e3 : IntKind.i64.wrap (IntKind.i64.wrap (p * 7) + 3) = p * 7 + 3 := by rw [i64w (n := p * 7) (by omega) (by omega), i64w (n := p * 7 + 3) (by omega) (by omega)]
    rw [e3]
    have b0 : 0 ≤ Int.tmod (p * 7 + 3) (l.length : Int) := Int.tmod_nonneg _ (by omega)
    have b1 : Int.tmod (p * 7 + 3) (l.length : Int) < (l.length : Int) := Int.tmod_lt_of_pos _ (by omega)
    rw [if_pos ⟨b0, b1⟩, if_neg (by omega), if_neg (by omega)]
    have c1 := hl.get (Int.tmod p (l.length : Int)).toNat
    have c2 := hl.get (Int.tmod (p * 7 + 3) (l.length : Int)).toNat
    generalize l.getD (Int.tmod p (l.length : Int)).toNat 0 = u at c1 ⊢
    generalize l.getD (Int.tmod (p * 7 + 3) (l.length : Int)).toNat 0 = v at c2 ⊢
    have d0 : 0 ≤ Int.tdiv p (l.length : Int) := Int.tdiv_nonneg hp (by omega)
    have d1 : Int.tdiv p (l.length : Int) ≤ p := Int.tdiv_le_self _ hp
    generalize Int.tdiv p (l.length : Int) = d at d0 d1 ⊢
    rw [i64w (n := u) (by omega) (by omega), i64w (n := v) (by omega) (by omega), i64w (n := d) (by omega) (by omega), i64w (n := u * 131) (by omega) (by omega), i64w (n := v * 1117) (by omega) (by omega), i64w (n := p * 29) (by omega) (by omega), i64w (n := d * 53) (by omega) (by omega), i64w (n := u * 131 + v * 1117) (by omega) (by omega), i64w (n := u * 131 + v * 1117 + p * 29) (by omega) (by omega), i64w (n := u * 131 + v * 1117 + p * 29 + d * 53) (by omega) (by omega)]
    have f0 : 0 ≤ u * 131 + v * 1117 + p * 29 + d * 53 := by omega
    have f1 : u * 131 + v * 1117 + p * 29 + d * 53 < 1000000000000 := by omega
    generalize u * 131 + v * 1117 + p * 29 + d * 53 = x at f0 f1 ⊢
    have g0 : 0 ≤ Int.tdiv x 64 := Int.tdiv_nonneg f0 (by omega)
    have g1 : Int.tdiv x 64 ≤ x := Int.tdiv_le_self _ f0
    rw [i64w (n := Int.tdiv x 64) (by omega) (by omega)]
    exact ⟨_, rfl, Int.tmod_nonneg _ (xor_nn f0 (by omega) g0 (by omega)), Int.tmod_lt_of_pos _ (by omega)⟩
/-- A draw below 1 is 0. -/
theorem pick_low {l : List Int} {p n : Int} (hp : 0 ≤ p) (hp' : p ≤ 1000000000) (h1 : n < 1) : r_pick_f (l, p, n) = some (0, p + 1) := by
  rw [r_pick_f_eq]
  have e1 : IntKind.i64.wrap (p + 1) = p + 1 := i64w (by omega) (by omega)
  simp only [e1, and_self, if_true]
  rw [cnd_t h1]
theorem open_ok {l : List Int} (hl : Bytes l) : ∃ b : List Int, s_l20Open_f l = some (b, 0) ∧ Bytes b ∧ b.length ≤ 2000 := by
  rw [s_l20Open_f_eq]
  by_cases h : 2000 < (l.length : Int)
  · rw [cnd_t h, if_pos (by omega)]
    exact ⟨_, rfl, fun x hx => hl x (List.mem_of_mem_take (List.mem_of_mem_drop hx)), by simp; omega⟩
  · rw [cnd_f h]
    exact ⟨_, rfl, hl, by omega⟩
end FN
/-! What is drawn: nets, states, places. -/
namespace FN
open Go
theorem lenle {a b : Nat} (ha : a ≤ 100) (hb : b ≤ 100) : (a + b) * 8 ≤ 140737488355328 := by omega
theorem path_j {n : Int} (k : Nat) (hk : (k : Int) < n) (hn : n ≤ 6) (ih : ∀ y : List Int, y.length = k + 1 → ∃ l : List Int, s_PathNet_l0 n ((k + 1 : Nat) : Int) y = some l ∧ (l.length : Int) = n) (v : Int) (y : List Int) (hy : y.length = k) :
    ∃ l : List Int, s_PathNet_j1 n (k : Int) v y = some l ∧ (l.length : Int) = n := by
  rw [s_PathNet_j1_eq, w1 (n := k + 1) (by omega) (by omega)]
  by_cases h : ((k + 1 : Nat) : Int) < n
  · rw [cnd_t h, if_neg (by omega), if_pos (lenle (by omega) (by simp))]
    exact ih _ (by simp [hy])
  · rw [cnd_f h, if_pos (lenle (by omega) (by simp))]
    exact ih _ (by simp [hy])
theorem path_loop {n : Nat} (h1 : 1 ≤ n) (hn : n ≤ 6) : ∀ i, i ≤ n → ∀ y : List Int, y.length = i → ∃ l : List Int, s_PathNet_l0 (n : Int) (i : Int) y = some l ∧ (l.length : Int) = n := by
  refine advN ?_ fun i hi ih => ?_
  · intro y hy
    rw [s_PathNet_l0_eq, cnd_f (by omega)]
    exact ⟨y, rfl, by omega⟩
  · intro y hy
    rw [s_PathNet_l0_eq, cnd_t (by omega), l1In_val, Option.bind_some, cnd_t (show (1 : Int) ≤ n ∧ (n : Int) ≤ 6 by omega)]
    by_cases c : (0 : Int) < i
    · rw [cnd_t c, wsub (by omega) (by omega), if_neg (by omega)]
      exact path_j i (by omega) (by omega) ih _ y hy
    · rw [cnd_f c]
      exact path_j i (by omega) (by omega) ih _ y hy
theorem path_ok {n : Nat} (h1 : 1 ≤ n) (hn : n ≤ 6) : ∃ l : List Int, s_PathNet_f (n : Int) = some l ∧ l.length = n := by
  obtain ⟨l, h, hl⟩ := path_loop h1 hn 0 (by omega) [] rfl
  exact ⟨l, by rw [s_PathNet_f_eq]; exact h, by omega⟩
theorem ring_loop {n : Nat} (h1 : 3 ≤ n) (hn : n ≤ 6) : ∀ i, i ≤ n → ∀ y : List Int, y.length = i → ∃ l : List Int, s_RingNet_l0 (n : Int) (i : Int) y = some l ∧ (l.length : Int) = n := by
  refine advN ?_ fun i hi ih => ?_
  · intro y hy
    rw [s_RingNet_l0_eq, cnd_f (by omega)]
    exact ⟨y, rfl, by omega⟩
  · intro y hy
    rw [s_RingNet_l0_eq, cnd_t (by omega), l1In_val, Option.bind_some, cnd_t (show (3 : Int) ≤ n ∧ (n : Int) ≤ 6 by omega), if_neg (by omega), w1 (n := i + 1) (by omega) (by omega)]
    have e : IntKind.i64.wrap ((i : Int) + (n : Int)) = ((i + n : Nat) : Int) := by rw [i64w (by omega) (by omega)]; omega
    have e1 : IntKind.i64.wrap (IntKind.i64.wrap ((i : Int) + (n : Int)) - 1) = ((i + n - 1 : Nat) : Int) := by rw [e, i64w (by omega) (by omega)]; omega
    rw [e1]
    have t1 : ¬ (Int.tmod ((i + 1 : Nat) : Int) n < 0) := by have := Int.tmod_nonneg (n : Int) (show (0 : Int) ≤ ((i + 1 : Nat) : Int) by omega); omega
    have t2 : ¬ (Int.tmod ((i + n - 1 : Nat) : Int) n < 0) := by have := Int.tmod_nonneg (n : Int) (show (0 : Int) ≤ ((i + n - 1 : Nat) : Int) by omega); omega
    rw [if_neg t1, if_neg (by omega), if_neg t2, if_pos (lenle (by omega) (by simp))]
    exact ih _ (by simp [hy])
theorem ring_ok {n : Nat} (h1 : 3 ≤ n) (hn : n ≤ 6) : ∃ l : List Int, s_RingNet_f (n : Int) = some l ∧ l.length = n := by
  obtain ⟨l, h, hl⟩ := ring_loop h1 hn 0 (by omega) [] rfl
  exact ⟨l, by rw [s_RingNet_f_eq]; exact h, by omega⟩
theorem odd0 (l : List Int) (p : Int) : r_odd_f (l, p, 0) = some (false, p) := by
  rw [r_odd_f_eq, cnd_f (by omega)]
  simp
section
variable {l : List Int} (hl : Bytes l) (hn : l.length ≤ 2000)
include hl hn
theorem odd_ok {p n : Int} (hp : 0 ≤ p) (hp' : p ≤ 1000000000) (hn' : n ≤ 1000000000) : ∃ (b : Bool) (q : Int), r_odd_f (l, p, n) = some (b, q) ∧ p ≤ q ∧ q ≤ p + 1 := by
  rw [r_odd_f_eq]
  by_cases h : 0 < n
  · obtain ⟨v, h1, h2, h3⟩ := pick_ok hl hn hp hp' (show 1 ≤ n by omega) hn'
    rw [cnd_t h, h1, Option.bind_some, if_pos ⟨rfl, rfl⟩]
    exact ⟨_, p + 1, rfl, by omega, by omega⟩
  · rw [cnd_f h, if_pos ⟨rfl, rfl⟩]
    exact ⟨_, p, rfl, by omega, by omega⟩
theorem l20Net_loop {n : Nat} (h1 : 1 ≤ n) (h6 : n ≤ 6) : ∀ k : Nat, k ≤ 6 → ∀ (p : Int) (y : List Int), 0 ≤ p → p + 2 * (k : Int) ≤ 900000000 → y.length = n →
    ∃ (z : List Int) (q : Int), s_l20Net_l1 l 0 (n : Int) (k : Int) l p y = some (z, q) ∧ z.length = n ∧ p ≤ q ∧ q ≤ p + 2 * k := by
  intro k
  induction k with
  | zero =>
    intro _ p y hp hp' hy
    rw [s_l20Net_l1_eq, cnd_f (by omega), s_l20Net_j2_eq, odd0, Option.bind_some]
    exact ⟨y, p, by simp, hy, by omega, by omega⟩
  | succ k ih =>
    intro hk p y hp hp' hy
    rw [s_l20Net_l1_eq, cnd_t (by omega)]
    obtain ⟨a, e1, a0, a1⟩ := pick_ok hl hn hp (by omega) (show (1 : Int) ≤ n by omega) (by omega)
    obtain ⟨b, e2, b0, b1⟩ := pick_ok hl hn (show 0 ≤ p + 1 by omega) (by omega) (show (1 : Int) ≤ n by omega) (by omega)
    have hk1 : IntKind.i64.wrap (((k + 1 : Nat) : Int) - 1) = (k : Int) := by rw [wsub (by omega) (by omega)]; omega
    rw [e1, Option.bind_some, e2, Option.bind_some, hk1]
    simp only
    have ra : (0 : Int) ≤ a ∧ a < (y.length : Int) := ⟨a0, by omega⟩
    have rb : ∀ w : List Int, w.length = n → (0 : Int) ≤ b ∧ b < (w.length : Int) := fun w hw => ⟨b0, by omega⟩
    cases hc : (a != b) with
    | true =>
      rw [cond_true, if_pos ra, if_neg (show ¬ (b : Int) < 0 by omega), if_pos ra, if_pos (rb _ (by simp [hy])), if_neg (show ¬ (a : Int) < 0 by omega), if_pos (rb _ (by simp [hy]))]
      obtain ⟨z, q, g1, g2, g3, g4⟩ := ih (by omega) (p + 1 + 1) _ (by omega) (by omega) (show (List.set (List.set y (a : Int).toNat (Go.bits .or IntKind.i64 (List.getD y (a : Int).toNat 0) (IntKind.i64.wrap (1 * 2 ^ min (b : Int).toNat IntKind.i64.bits)))) (b : Int).toNat (Go.bits .or IntKind.i64 (List.getD (List.set y (a : Int).toNat (Go.bits .or IntKind.i64 (List.getD y (a : Int).toNat 0) (IntKind.i64.wrap (1 * 2 ^ min (b : Int).toNat IntKind.i64.bits)))) (b : Int).toNat 0) (IntKind.i64.wrap (1 * 2 ^ min (a : Int).toNat IntKind.i64.bits)))).length = n by simp [hy])
      exact ⟨z, q, g1, g2, by omega, by omega⟩
    | false =>
      rw [cond_false]
      obtain ⟨z, q, g1, g2, g3, g4⟩ := ih (by omega) (p + 1 + 1) y (by omega) (by omega) hy
      exact ⟨z, q, g1, g2, by omega, by omega⟩
theorem l20Net_j {n : Nat} (h1 : 1 ≤ n) (h6 : n ≤ 6) (p : Int) (y : List Int) (hp : 0 ≤ p) (hp' : p ≤ 800000000) (hy : y.length = n) :
    ∃ (z : List Int) (q : Int), s_l20Net_j0 l 0 (n : Int) l p y = some (z, q) ∧ z.length = n ∧ p ≤ q ∧ q ≤ p + 20 := by
  obtain ⟨v, e, v0, v1⟩ := pick_ok hl hn hp (by omega) (show (1 : Int) ≤ 6 by omega) (by omega)
  obtain ⟨m, rfl⟩ : ∃ m : Nat, v = m := ⟨v.toNat, by omega⟩
  rw [s_l20Net_j0_eq, e, Option.bind_some]
  obtain ⟨z, q, g1, g2, g3, g4⟩ := l20Net_loop hl hn h1 h6 m (by omega) (p + 1) y (by omega) (by omega) hy
  exact ⟨z, q, g1, g2, by omega, by omega⟩
theorem l20Net_ok {p : Int} (hp : 0 ≤ p) (hp' : p ≤ 700000000) : ∃ (z : List Int) (q : Int), s_l20Net_f (l, p, 0) = some (z, q) ∧ 1 ≤ z.length ∧ z.length ≤ 6 ∧ p ≤ q ∧ q ≤ p + 30 := by
  obtain ⟨v, e, v0, v1⟩ := pick_ok hl hn hp (by omega) (show (1 : Int) ≤ 6 by omega) (by omega)
  obtain ⟨m, rfl⟩ : ∃ m : Nat, v = m := ⟨v.toNat, by omega⟩
  have hm : IntKind.i64.wrap (1 + (m : Int)) = ((m + 1 : Nat) : Int) := by rw [i64w (by omega) (by omega)]; omega
  rw [s_l20Net_f_eq, e, Option.bind_some]
  simp only [hm]
  obtain ⟨pn, e1, e2⟩ := path_ok (n := m + 1) (by omega) (by omega)
  obtain ⟨u, e3, u0, u1⟩ := pick_ok hl hn (show 0 ≤ p + 1 by omega) (by omega) (show (1 : Int) ≤ 4 by omega) (by omega)
  rw [e1, Option.bind_some, e3, Option.bind_some]
  simp only
  have fin : ∀ y : List Int, y.length = m + 1 → ∃ (z : List Int) (q : Int), s_l20Net_j0 l 0 ((m + 1 : Nat) : Int) l (p + 1 + 1) y = some (z, q) ∧ 1 ≤ z.length ∧ z.length ≤ 6 ∧ p ≤ q ∧ q ≤ p + 30 := fun y hy => by
    obtain ⟨z, q, g1, g2, g3, g4⟩ := l20Net_j hl hn (n := m + 1) (by omega) (by omega) (p + 1 + 1) y (by omega) (by omega) hy
    exact ⟨z, q, g1, by omega, by omega, by omega, by omega⟩
  cases c0 : (u == 0) with
  | true =>
    rw [cond_true]
    by_cases h3 : (3 : Int) ≤ ((m + 1 : Nat) : Int)
    · obtain ⟨rn, e4, e5⟩ := ring_ok (n := m + 1) (by omega) (by omega)
      rw [cnd_t h3, e4, Option.bind_some]
      exact fin rn e5
    · rw [cnd_f h3]
      exact fin pn e2
  | false =>
    rw [cond_false]
    cases c1 : (u == 1) with
    | true =>
      rw [cond_true, if_pos (by omega)]
      exact fin _ (by simp)
    | false =>
      rw [cond_false]
      exact fin pn e2
theorem l20State_loop {n : Nat} (h6 : n ≤ 6) {k t : Int} (hk : 1 ≤ k) (hk' : k ≤ 100) : ∀ i, i ≤ n → ∀ (p : Int) (y : List Int), 0 ≤ p → p ≤ 700000000 + 2 * (i : Int) → y.length = i →
    ∃ (z : List Int) (q : Int), s_l20State_l0 l (n : Int) k 0 t (i : Int) l p y = some (z, q) ∧ z.length = n ∧ p ≤ q ∧ q ≤ p + 2 * ((n : Int) - i) := by
  refine advN ?_ fun i hi ih => ?_
  · intro p y hp hp' hy
    rw [s_l20State_l0_eq, cnd_f (by omega), s_l20State_j1_eq, odd0, Option.bind_some]
    exact ⟨y, p, by simp, hy, by omega, by omega⟩
  · intro p y hp hp' hy
    have hw : IntKind.i64.wrap ((i : Int) + 1) = ((i + 1 : Nat) : Int) := w1 hi (by omega)
    rw [s_l20State_l0_eq, cnd_t (by omega)]
    simp only [hw]
    by_cases c : 0 < t
    · obtain ⟨v, e, v0, v1⟩ := pick_ok hl hn hp (by omega) (show (1 : Int) ≤ 3 by omega) (by omega)
      rw [cnd_t c, e, Option.bind_some]
      simp only
      by_cases d : v < t
      · rw [cnd_t d, if_pos (lenle (by omega) (by simp))]
        obtain ⟨z, q, g1, g2, g3, g4⟩ := ih (p + 1) (y ++ [0]) (by omega) (by omega) (by simp [hy])
        exact ⟨z, q, g1, g2, by omega, by omega⟩
      · obtain ⟨u, e2, u0, u1⟩ := pick_ok hl hn (show 0 ≤ p + 1 by omega) (by omega) hk (by omega)
        rw [cnd_f d, e2, Option.bind_some, if_pos (lenle (by omega) (by simp))]
        obtain ⟨z, q, g1, g2, g3, g4⟩ := ih (p + 1 + 1) (y ++ [u]) (by omega) (by omega) (by simp [hy])
        exact ⟨z, q, g1, g2, by omega, by omega⟩
    · obtain ⟨u, e2, u0, u1⟩ := pick_ok hl hn hp (by omega) hk (by omega)
      rw [cnd_f c, e2, Option.bind_some, if_pos (lenle (by omega) (by simp))]
      obtain ⟨z, q, g1, g2, g3, g4⟩ := ih (p + 1) (y ++ [u]) (by omega) (by omega) (by simp [hy])
      exact ⟨z, q, g1, g2, by omega, by omega⟩
theorem l20State_ok {n : Nat} (h6 : n ≤ 6) {k : Int} (hk : 1 ≤ k) (hk' : k ≤ 100) {p : Int} (hp : 0 ≤ p) (hp' : p ≤ 600000000) : ∃ (z : List Int) (q : Int), s_l20State_f (l, p, (n : Int), k, 0) = some (z, q) ∧ z.length = n ∧ p ≤ q ∧ q ≤ p + 20 := by
  obtain ⟨v, e, v0, v1⟩ := pick_ok hl hn hp (by omega) (show (1 : Int) ≤ 3 by omega) (by omega)
  rw [s_l20State_f_eq, e, Option.bind_some]
  obtain ⟨z, q, g1, g2, g3, g4⟩ := l20State_loop hl hn h6 (t := v) hk hk' 0 (by omega) (p + 1) [] (by omega) (by omega) rfl
  exact ⟨z, q, g1, g2, by omega, by omega⟩
theorem l20Place_ok {n : Int} (hn' : n ≤ 1000000000) {p : Int} (hp : 0 ≤ p) (hp' : p ≤ 500000000) : ∃ (a : List Int) (k : Int) (b : List Int) (q : Int), s_l20Place_f (l, p, n) = some (a, k, b, q) ∧ a.length ≤ 6 ∧ b.length ≤ 7 ∧ p ≤ q ∧ q ≤ p + 100 := by
  obtain ⟨z, q, e1, z1, z6, q1, q2⟩ := l20Net_ok hl hn hp (by omega)
  obtain ⟨u, e2, u0, u1⟩ := pick_ok hl hn (show 0 ≤ q by omega) (by omega) (show (1 : Int) ≤ 3 by omega) (by omega)
  obtain ⟨v, e3, v0, v1⟩ := pick_ok hl hn (show 0 ≤ q + 1 by omega) (by omega) (show (1 : Int) ≤ 2 by omega) (by omega)
  have huv : 0 ≤ u * v ∧ u * v ≤ 2 := by
    rcases (show v = 0 ∨ v = 1 by omega) with rfl | rfl
    · simp
    · simp; omega
  have hw : IntKind.i64.wrap (3 + IntKind.i64.wrap (u * v)) = 3 + u * v := by rw [i64w (n := u * v) (by omega) (by omega), i64w (by omega) (by omega)]
  rw [s_l20Place_f_eq, e1, Option.bind_some, e2, Option.bind_some, e3, Option.bind_some]
  simp only [hw]
  obtain ⟨s, q', e4, s1, q3, q4⟩ := l20State_ok hl hn z6 (k := 3 + u * v) (by omega) (by omega) (show 0 ≤ q + 1 + 1 by omega) (by omega)
  obtain ⟨o, q5, e5, q6, q7⟩ := odd_ok hl hn (show 0 ≤ q' by omega) (by omega) hn'
  rw [e4, Option.bind_some, e5, Option.bind_some]
  simp only
  cases o with
  | false =>
    rw [cond_false, if_pos (by simp)]
    exact ⟨z, _, s, q5, rfl, z6, by omega, by omega, by omega⟩
  | true =>
    obtain ⟨w, e6, w0, w2⟩ := pick_ok hl hn (show 0 ≤ q5 by omega) (by omega) (show (1 : Int) ≤ 3 by omega) (by omega)
    rw [cond_true, e6, Option.bind_some]
    simp only
    cases c0 : (w == 0) with
    | true =>
      rw [cond_true, if_pos (lenle (by omega) (by simp)), if_pos (by simp)]
      exact ⟨z, _, s ++ [0], q5 + 1, rfl, z6, by simp; omega, by omega, by omega⟩
    | false =>
      rw [cond_false]
      cases c1 : (w == 1) with
      | true =>
        obtain ⟨x, e7, x0, x2⟩ := pick_ok hl hn (show 0 ≤ q5 + 1 by omega) (by omega) (show (1 : Int) ≤ 2 by omega) (by omega)
        rw [cond_true, e7, Option.bind_some]
        simp only
        rw [if_pos ⟨x0, by simpa using x2⟩, if_pos (by simp)]
        exact ⟨z, _, s, q5 + 1 + 1, rfl, z6, by omega, by omega, by omega⟩
      | false =>
        rw [cond_false, if_pos (by simp)]
        exact ⟨[], 0, [], q5 + 1, rfl, by simp, by simp, by omega, by omega⟩
end
end FN
/-! What is the same, is told so. -/
namespace FN
open Go
theorem sameInts_loop (a : List Int) (ha : a.length ≤ 4611686018427387904) : ∀ i, i ≤ a.length → w_sameInts_l0 a a (i : Int) = some true := by
  refine advN ?_ fun i hi ih => ?_
  · rw [w_sameInts_l0_eq, cnd_f (by omega)]
  · rw [w_sameInts_l0_eq, cnd_t (by omega), if_pos (inN hi), if_pos (inN hi), bne_f rfl, w1 hi (by omega)]
    exact ih
theorem sameInts_refl (a : List Int) (ha : a.length ≤ 4611686018427387904) : w_sameInts_f (a, a) = some true := by
  rw [w_sameInts_f_eq, bne_f rfl]
  exact sameInts_loop a ha 0 (by omega)
theorem samePlace_refl (a : List Int) (k : Int) (b : List Int) (ha : a.length ≤ 4611686018427387904) (hb : b.length ≤ 4611686018427387904) : w_samePlace_f (a, k, b, a, k, b) = some true := by
  rw [w_samePlace_f_eq, sameInts_refl a ha, Option.bind_some, cond_true, sameInts_refl b hb]
  simp
theorem alive_yes : w_alive_f () = some true := by
  rw [w_alive_f_eq, inet, Option.bind_some, inet, decide_eq_true (show NetP [2, 1] by decide), cond_true, decide_eq_false (show ¬ NetP [1] by decide)]
  rfl
end FN
namespace FN
open Go
theorem cutL_last (c : UInt8) : ∀ l : List UInt8, cutL c (l ++ [c]) = cutL c l ++ [[]]
  | [] => by simp [cutL]
  | x :: l => by
    by_cases h : x = c
    · subst h; rw [List.cons_append, cutL_eq, cutL_eq, cutL_last x l]; rfl
    · rw [List.cons_append, cutL_neq h, cutL_neq h, cutL_last c l]
      cases hz : cutL c l with
      | nil => exact absurd hz (cutL_ne c l)
      | cons y ys => rfl
/-- What is read is its own text, or nothing. -/
theorem readP_spec (L : List UInt8) (hL : L.length ≤ 1048577) : readP L = bad ∨ ∃ z k st, readP L = (z, k, st, true) ∧ PlP z k st ∧ ptx z k st = ofL L := by
  by_cases h : ∃ a w1 k w3, cutL 32 L = [[a], w1, [k], w3]
  · obtain ⟨a, w1, k, w3, h⟩ := h
    have hw : w3.length ≤ L.length := cutL_word 32 L w3 (by rw [h]; simp)
    rw [readP_some h]
    split
    · split
      · rename_i z' hz
        unfold finP
        split
        · rename_i he
          refine .inr ⟨_, _, _, rfl, ?_, he⟩
          apply Classical.byContradiction
          intro hn
          rw [ptx_no _ _ _ (by rw [List.length_map]; omega) hn] at he
          have h2 : (ofL L).size = 0 := by rw [← he]; rfl
          rw [ofL_size] at h2
          rw [List.eq_nil_of_length_eq_zero h2] at h
          simp [cutL] at h
        · exact .inl rfl
      · exact .inl rfl
    · exact .inl rfl
  · exact .inl (readP_none fun a w1 k w3 e => h ⟨a, w1, k, w3, e⟩)
theorem readP_more {L : List UInt8} (hL : L.length ≤ 1048577) {z st : List Int} {k : Int} (h : readP L = (z, k, st, true)) : readP (L ++ [32]) = bad := by
  have h4 : ∃ a w1 k w3, cutL 32 L = [[a], w1, [k], w3] := by
    apply Classical.byContradiction
    intro hn
    rw [readP_none fun a w1 k w3 e => hn ⟨a, w1, k, w3, e⟩] at h
    cases h
  obtain ⟨a, w1, k', w3, h4⟩ := h4
  refine readP_none fun a' w1' k'' w3' e => ?_
  rw [cutL_last, h4] at e
  have := congrArg List.length e
  simp at this
end FN
/-! A desk after deeds, as a value. -/
namespace FN
open Go
abbrev Dk := List Int × Int × List Int × List Pl
abbrev DkOk (d : Dk) : Prop := DkP d.1 d.2.1 d.2.2.1 d.2.2.2
abbrev nowP (d : Dk) : Pl := (d.1, d.2.1, d.2.2.1)
/-- What a deed makes of a place. -/
noncomputable def madeV (p : Pl) (x : Dd3) : Pl := (s_l15Made_f (p.1, p.2.1, p.2.2, x.1, x.2.1, x.2.2)).getD ([], 0, [])
theorem madeV_val {p : Pl} (h : PlPp p) (x : Dd3) : s_l15Made_f (p.1, p.2.1, p.2.2, x.1, x.2.1, x.2.2) = some ((madeV p x).1, (madeV p x).2.1, (madeV p x).2.2) ∧ (madeV p x).2.2.length ≤ 100 := by
  obtain ⟨z, κ, st, hz, hst⟩ := made_tot h x.1 x.2.1 x.2.2
  have : madeV p x = (z, κ, st) := by unfold madeV; rw [hz]; rfl
  rw [this]
  exact ⟨hz, hst⟩
/-- It can be done, and is not the way back. -/
noncomputable def canV (p : Pl) (x : Dd3) : Bool := decide (PlP (madeV p x).1 (madeV p x).2.1 (madeV p x).2.2) && !decide (ptx (madeV p x).1 (madeV p x).2.1 (madeV p x).2.2 = ptx p.1 p.2.1 p.2.2)
def bkB (x : Dd3) (n : Nat) : Bool := decide (x.1 = 4 ∧ x.2.1 = 0 ∧ x.2.2 = 0 ∧ 0 < n)
def pastV (d : Dk) : List Pl := if 8 < (d.2.2.2 ++ [nowP d]).length then (d.2.2.2 ++ [nowP d]).drop 1 else d.2.2.2 ++ [nowP d]
def backV (d : Dk) : Dk := ((d.2.2.2.getD (d.2.2.2.length - 1) ([], 0, [])).1, (d.2.2.2.getD (d.2.2.2.length - 1) ([], 0, [])).2.1, (d.2.2.2.getD (d.2.2.2.length - 1) ([], 0, [])).2.2, d.2.2.2.take (d.2.2.2.length - 1))
noncomputable def doV (d : Dk) (x : Dd3) : Dk × Bool :=
  if bkB x d.2.2.2.length = true then (backV d, true)
  else if canV (nowP d) x = true then (((madeV (nowP d) x).1, (madeV (nowP d) x).2.1, (madeV (nowP d) x).2.2, pastV d), true) else (d, false)
theorem backV_ok {d : Dk} (h : DkOk d) (h0 : 0 < d.2.2.2.length) : DkOk (backV d) := by
  have hp := h.1 _ (getD_mem (d := ([], 0, [])) (show d.2.2.2.length - 1 < d.2.2.2.length by omega))
  exact ⟨fun p hp' => h.1 p (List.mem_of_mem_take hp'), hp, by have := h.2.2; show (d.2.2.2.take _).length ≤ 8; rw [List.length_take]; omega⟩
theorem doV_ok {d : Dk} (h : DkOk d) (x : Dd3) : DkOk (doV d x).1 := by
  unfold doV
  split
  · rename_i hb
    exact backV_ok h (by unfold bkB at hb; simpa using (of_decide_eq_true hb).2.2.2)
  · split
    · rename_i hc
      unfold canV at hc
      rw [Bool.and_eq_true] at hc
      have hmem : ∀ p ∈ d.2.2.2 ++ [nowP d], PlPp p := fun p hp => by
        rcases List.mem_append.1 hp with hp | hp
        · exact h.1 p hp
        · have : p = nowP d := by simpa using hp
          rw [this]; exact h.2.1
      have hq : PlP (madeV (nowP d) x).1 (madeV (nowP d) x).2.1 (madeV (nowP d) x).2.2 := by
        have := hc.1
        rwa [decide_eq_true_eq] at this
      have key : ∀ (m : Pl) (l : List Pl), PlP m.1 m.2.1 m.2.2 → (∀ p ∈ l, PlPp p) → l.length ≤ 8 → DkOk (m.1, m.2.1, m.2.2, l) := fun m l h1 h2 h3 => ⟨h2, h1, h3⟩
      refine key _ _ hq (fun p hp => ?_) ?_
      · have hp' : p ∈ pastV d := hp
        unfold pastV at hp'
        split at hp'
        · exact hmem p (List.mem_of_mem_drop hp')
        · exact hmem p hp'
      · have h8 := h.2.2
        unfold pastV
        split
        · rw [List.length_drop, List.length_append, List.length_singleton]; omega
        · omega
    · exact h
theorem doV_no {d : Dk} {x : Dd3} (h : (doV d x).2 = false) : (doV d x).1 = d := by
  unfold doV at h ⊢
  split at h
  · cases h
  · rename_i h1
    rw [if_neg h1]
    split at h
    · cases h
    · rename_i h2; rw [if_neg h2]
theorem do_val {d : Dk} (h : DkOk d) (x : Dd3) : s_DeskDo_f (d.1, d.2.1, d.2.2.1, d.2.2.2, x.1, x.2.1, x.2.2) = some ((doV d x).1.1, (doV d x).1.2.1, (doV d x).1.2.2.1, (doV d x).1.2.2.2, (doV d x).2) := by
  obtain ⟨a, k, b, l⟩ := d
  obtain ⟨K, A, B⟩ := x
  have h' : DkP a k b l := h
  have hl := h'.2.2
  have hsz := PlP.sm h'.2.1
  by_cases h4 : K = 4 ∧ A = 0 ∧ B = 0 ∧ 0 < l.length
  · have e : doV (a, k, b, l) (K, A, B) = (backV (a, k, b, l), true) := by
      unfold doV
      rw [if_pos (show bkB (K, A, B) l.length = true from decide_eq_true h4)]
    rw [e]
    obtain ⟨k4, A0, B0, c⟩ := h4
    have hsm : ∀ p ∈ l, smP 4611686018427387904 p := fun p hp => by have := PlP.sm (h'.1 p hp); exact ⟨by omega, by omega⟩
    have hW : IntKind.i64.wrap ((List.length l : Int) - 1) = (l.length : Int) - 1 := i64w (by omega) (by omega)
    have h1 : (0 : Int) ≤ (l.length : Int) - 1 ∧ (l.length : Int) - 1 < (l.length : Int) := ⟨by omega, by omega⟩
    have h2 : (0 : Int) ≤ (l.length : Int) - 1 ∧ (l.length : Int) - 1 ≤ (l.length : Int) := ⟨by omega, by omega⟩
    obtain ⟨z, κ, st, hz', _⟩ := made_tot h'.2.1 K A B
    rw [s_DeskDo_f_eq, sdesk a k b l (by omega) (by omega) hsm, decide_eq_true h', Option.bind_some, Bool.not_true, cond_false, l15Copy_val h', Option.bind_some]
    have e4 : (K == 4 && (A == 0 && (B == 0 && true))) = true := by rw [k4, A0, B0]; rfl
    simp only [hW]
    rw [e4, cond_true, cnd_t (by omega), if_pos h1, if_pos h2]
    have hi : ((l.length : Int) - 1).toNat = l.length - 1 := by omega
    rw [hi]
    rfl
  · obtain ⟨z, κ, st, hz, hst⟩ := made_tot h'.2.1 K A B
    have hmv : madeV (a, k, b) (K, A, B) = (z, κ, st) := by unfold madeV; rw [hz]; rfl
    have hb : ¬ bkB (K, A, B) l.length = true := fun hh => h4 (of_decide_eq_true hh)
    show s_DeskDo_f (a, k, b, l, K, A, B) = _
    rw [do_made h' h4 hst hz, i_DeskDo_j4_eq, ipl z κ st (by omega), Option.bind_some, (ptx_val z κ st (by omega)).1, Option.bind_some, (ptx_val a k b (by omega)).1, Option.bind_some]
    unfold doV
    simp only
    rw [if_neg hb]
    unfold canV
    simp only [hmv]
    have hlen : (l ++ ([(a, k, b)] : List (List Int × Int × List Int))).length = l.length + 1 := by simp
    have hmem : ∀ p ∈ l ++ ([(a, k, b)] : List (List Int × Int × List Int)), PlPp p := fun p hp => by
      rcases List.mem_append.1 hp with hp | hp
      · exact h'.1 p hp
      · have : p = (a, k, b) := by simpa using hp
        rw [this]; exact h'.2.1
    by_cases hq : PlP z κ st
    · rw [decide_eq_true hq, Bool.not_true, cond_false, Bool.true_and]
      by_cases he : ptx z κ st = ptx a k b
      · rw [he, show (ByteArray.toList (ptx a k b) == ByteArray.toList (ptx a k b)) = true from by simp, cond_true, decide_eq_true rfl, if_neg (by simp)]
      · have hne : (ByteArray.toList (ptx z κ st) == ByteArray.toList (ptx a k b)) = false := by
          cases hc : (ByteArray.toList (ptx z κ st) == ByteArray.toList (ptx a k b)) with
          | false => rfl
          | true =>
            exfalso
            apply he
            have := beq_bytes (a := ptx z κ st) (b := ptx a k b) (x := 0) (y := 1)
            rw [hc, Bool.not_true, cond_false] at this
            by_cases h0 : ptx z κ st = ptx a k b
            · exact h0
            · rw [if_neg h0] at this; cases this
        have h56 : (List.length l + List.length ([(a, k, b)] : List (List Int × Int × List Int))) * 56 ≤ 140737488355328 := by simp; omega
        have hin : (0 : Int) ≤ 1 ∧ 1 ≤ ((l.length + 1 : Nat) : Int) := ⟨by omega, by omega⟩
        rw [hne, cond_false, decide_eq_false he, Bool.not_false, if_pos rfl, copyPl (p := (a, k, b)) h'.2.1, Option.bind_some]
        simp only [if_pos h56, hlen, if_pos hin]
        unfold pastV
        simp only
        by_cases c8 : (8 : Int) < ((l.length + 1 : Nat) : Int)
        · have hd : DkP z κ st (List.drop (1 : Int).toNat (List.take (l.length + 1) (l ++ ([(a, k, b)] : List (List Int × Int × List Int))))) := ⟨fun p hp' => hmem p (List.mem_of_mem_take (List.mem_of_mem_drop hp')), hq, by rw [List.length_drop, List.length_take, hlen, show (1 : Int).toNat = 1 from rfl]; omega⟩
          rw [cnd_t c8, icopy_val hd, Option.bind_some, if_pos (show 8 < (l ++ ([(a, k, b)] : List Pl)).length by rw [hlen]; omega)]
          have ht : List.take (l.length + 1) (l ++ ([(a, k, b)] : List (List Int × Int × List Int))) = l ++ [(a, k, b)] := List.take_of_length_le (by rw [hlen]; omega)
          rw [ht]
          rfl
        · have hd : DkP z κ st (l ++ ([(a, k, b)] : List (List Int × Int × List Int))) := ⟨hmem, hq, by rw [hlen]; omega⟩
          rw [cnd_f c8, icopy_val hd, Option.bind_some, if_neg (show ¬ 8 < (l ++ ([(a, k, b)] : List Pl)).length by rw [hlen]; omega)]
    · rw [decide_eq_false hq, Bool.not_false, cond_true, Bool.false_and, if_neg (by simp)]
theorem ido_val {d : Dk} (h : DkOk d) (x : Dd3) : i_DeskDo_f (d.1, d.2.1, d.2.2.1, d.2.2.2, x.1, x.2.1, x.2.2) = some ((doV d x).1.1, (doV d x).1.2.1, (doV d x).1.2.2.1, (doV d x).1.2.2.2, (doV d x).2) := by
  rw [do_same h]; exact do_val h x
/-- Deeds, one behind the other. -/
noncomputable def runV (d : Dk) (ds : List Dd3) : Dk := ds.foldl (fun d x => (doV d x).1) d
theorem runV_ok {d : Dk} (h : DkOk d) (ds : List Dd3) : DkOk (runV d ds) := by
  induction ds generalizing d with
  | nil => exact h
  | cons x ds ih => exact ih (doV_ok h x)
theorem runV_app (d : Dk) (xs ys : List Dd3) : runV d (xs ++ ys) = runV (runV d xs) ys := List.foldl_append
/-- How many can be done. -/
noncomputable def cntV (d : Dk) : List Dd3 → Int
  | [] => 0
  | x :: ds => (if (doV d x).2 = true then 1 else 0) + cntV (doV d x).1 ds
theorem cntV_app (d : Dk) : ∀ xs ys : List Dd3, cntV d (xs ++ ys) = cntV d xs + cntV (runV d xs) ys
  | [], ys => by simp [cntV, runV]
  | x :: xs, ys => by
    rw [List.cons_append, cntV, cntV, cntV_app _ xs ys]
    show _ = _ + cntV (runV (doV d x).1 xs) ys
    omega
theorem cntV_le (d : Dk) : ∀ xs : List Dd3, 0 ≤ cntV d xs ∧ cntV d xs ≤ xs.length
  | [] => by simp [cntV]
  | x :: xs => by
    have := cntV_le (doV d x).1 xs
    rw [cntV, List.length_cons]
    split <;> omega
theorem drop_getD {ds : List Dd3} {i : Nat} (hi : i < ds.length) : ds.drop i = ds.getD i (0, 0, 0) :: ds.drop (i + 1) := by
  rw [List.drop_eq_getElem_cons hi, List.getD_eq_getElem?_getD, List.getElem?_eq_getElem hi]; rfl
theorem run1_val (ds : List Dd3) (hd : ds.length ≤ 4000000000) (y3 : Int) : ∀ i, i ≤ ds.length → ∀ (n : Int) (d : Dk), 0 ≤ n → n + (ds.length : Int) ≤ 4000000000 + (i : Int) → DkOk d → s_l15Run_l1 ds n (i : Int) y3 d.1 d.2.1 d.2.2.1 d.2.2.2 = some ((runV d (ds.drop i)).1, (runV d (ds.drop i)).2.1, (runV d (ds.drop i)).2.2.1, (runV d (ds.drop i)).2.2.2, n + cntV d (ds.drop i)) := by
  refine advN ?_ fun i hi ih => ?_
  · intro n d hn _ h
    rw [s_l15Run_l1_eq, cnd_f (by omega), List.drop_length]
    simp [runV, cntV]
  · intro n d hn hn' h
    rw [s_l15Run_l1_eq, cnd_t (by omega), if_pos (inN hi), gD3, do_val h, Option.bind_some, w1 hi (by omega), drop_getD hi, cntV]
    have hr : ∀ x : Dd3, ∀ l, runV d (x :: l) = runV (doV d x).1 l := fun _ _ => rfl
    rw [hr]
    cases ht : (doV d (ds.getD i (0, 0, 0))).2 with
    | true =>
      have hW : IntKind.i64.wrap (n + 1) = n + 1 := i64w (by omega) (by omega)
      have := ih (n + 1) _ (by omega) (by omega) (doV_ok h (ds.getD i (0, 0, 0)))
      rw [if_pos rfl, show n + (1 + cntV (doV d (ds.getD i (0, 0, 0))).1 (ds.drop (i + 1))) = n + 1 + cntV (doV d (ds.getD i (0, 0, 0))).1 (ds.drop (i + 1)) by omega]
      simp only [cond_true, hW]
      exact this
    | false =>
      have hs := doV_no ht
      rw [if_neg (by simp), hs, Int.zero_add]
      exact ih n _ hn (by omega) h
theorem run0_val (ds : List Dd3) (hd : ds.length ≤ 4000000000) (y3 : Int) : ∀ i, i ≤ ds.length → ∀ (n : Int) (d : Dk), 0 ≤ n → n + (ds.length : Int) ≤ 4000000000 + (i : Int) → DkOk d → s_l15Run_l0 ds n (i : Int) y3 d.1 d.2.1 d.2.2.1 d.2.2.2 = some ((runV d (ds.drop i)).1, (runV d (ds.drop i)).2.1, (runV d (ds.drop i)).2.2.1, (runV d (ds.drop i)).2.2.2, n + cntV d (ds.drop i)) := by
  refine advN ?_ fun i hi ih => ?_
  · intro n d hn _ h
    rw [s_l15Run_l0_eq, cnd_f (by omega), List.drop_length]
    simp [runV, cntV]
  · intro n d hn hn' h
    rw [s_l15Run_l0_eq, cnd_t (by omega), if_pos (inN hi), gD3, do_val h, Option.bind_some, w1 hi (by omega), drop_getD hi, cntV]
    have hr : ∀ x : Dd3, ∀ l, runV d (x :: l) = runV (doV d x).1 l := fun _ _ => rfl
    rw [hr]
    cases ht : (doV d (ds.getD i (0, 0, 0))).2 with
    | true =>
      have hW : IntKind.i64.wrap (n + 1) = n + 1 := i64w (by omega) (by omega)
      have := run1_val ds hd y3 (i + 1) (by omega) (n + 1) _ (by omega) (by omega) (doV_ok h (ds.getD i (0, 0, 0)))
      rw [if_pos rfl, show n + (1 + cntV (doV d (ds.getD i (0, 0, 0))).1 (ds.drop (i + 1))) = n + 1 + cntV (doV d (ds.getD i (0, 0, 0))).1 (ds.drop (i + 1)) by omega]
      simp only [cond_true, hW]
      exact this
    | false =>
      have hs := doV_no ht
      rw [if_neg (by simp), hs, Int.zero_add]
      exact ih n _ hn (by omega) h
theorem srun_val {d : Dk} (h : DkOk d) (ds : List Dd3) (hd : ds.length ≤ 4000000000) : s_l15Run_f (d.1, d.2.1, d.2.2.1, d.2.2.2, ds) = some ((runV d ds).1, (runV d ds).2.1, (runV d ds).2.2.1, (runV d ds).2.2.2, cntV d ds) := by
  rw [s_l15Run_f_eq, l15Copy_val h, Option.bind_some]
  have := run0_val ds hd 0 0 (by omega) 0 d (by omega) (by omega) h
  rw [Int.zero_add] at this
  exact this
theorem irun_val {d : Dk} (h : DkOk d) (ds : List Dd3) (hd : ds.length ≤ 4000000000) : i_doAll_f (d.1, d.2.1, d.2.2.1, d.2.2.2, ds) = some ((runV d ds).1, (runV d ds).2.1, (runV d ds).2.2.1, (runV d ds).2.2.2, cntV d ds) := by
  rw [doAll_same h ds hd]; exact srun_val h ds hd
/-! Two desks at one place. -/
theorem doV_now {d e : Dk} (hn : nowP d = nowP e) {x : Dd3} (hx : x.1 ≠ 4) : (doV d x).2 = (doV e x).2 ∧ nowP (doV d x).1 = nowP (doV e x).1 := by
  have hb : ∀ n, ¬ bkB x n = true := fun n h => hx (of_decide_eq_true h).1
  unfold doV
  rw [if_neg (hb _), if_neg (hb _), hn]
  split
  · exact ⟨rfl, rfl⟩
  · exact ⟨rfl, hn⟩
end FN
/-! Copies, comparisons, sizes. -/
namespace FN
open Go
theorem set_copy {α : Type} (a b : List α) (i : Nat) (d : α) (h : i < a.length) (hb : b.length = a.length) (he : ∀ j, j < i → b[j]? = a[j]?) : ∀ j, j < i + 1 → (b.set i (a.getD i d))[j]? = a[j]? := by
  intro j hj
  by_cases e : j = i
  · subst e
    rw [List.getElem?_set_self (by omega), List.getD_eq_getElem?_getD, List.getElem?_eq_getElem h]; rfl
  · rw [List.getElem?_set_ne (Ne.symm e)]; exact he j (by omega)
theorem toIntS_loop (a : List Int) (ha : a.length ≤ 1048576) : ∀ i, i ≤ a.length → ∀ b : List Int, b.length = a.length → (∀ j, j < i → b[j]? = a[j]?) → w_toIntS_l0 a (i : Int) b = some a := by
  refine advN ?_ fun i hi ih => ?_
  · intro b hb he
    rw [w_toIntS_l0_eq, cnd_f (by omega)]
    congr 1
    apply List.ext_getElem?
    intro j
    rcases Nat.lt_or_ge j a.length with h | h
    · exact he j h
    · rw [List.getElem?_eq_none (by omega), List.getElem?_eq_none (by omega)]
  · intro b hb he
    rw [w_toIntS_l0_eq, cnd_t (by omega), if_pos (inN hi), if_pos ⟨by omega, by omega⟩, w1 hi (by omega), gN, Int.toNat_natCast]
    exact ih _ (by simp [hb]) (set_copy a b i 0 hi hb he)
theorem toIntS_val (a : List Int) (ha : a.length ≤ 1048576) : w_toIntS_f a = some a := by
  rw [w_toIntS_f_eq, if_pos ⟨by omega, by omega, by omega⟩]
  exact toIntS_loop a ha 0 (by omega) _ (by simp) (fun j hj => by omega)
theorem eqIntS_loop (a b : List Int) (ha : a.length ≤ 4611686018427387904) (hb : a.length = b.length) : ∀ i, i ≤ a.length → Tells (w_eqIntS_l0 a b (i : Int)) (∀ j, i ≤ j → j < a.length → a.getD j 0 = b.getD j 0) := by
  refine advN ?_ fun i hi ih => ?_
  · rw [w_eqIntS_l0_eq, cnd_f (by omega)]
    exact Tells.yes fun j h1 h2 => by omega
  · rw [w_eqIntS_l0_eq, cnd_t (by omega), if_pos (inN hi), if_pos ⟨by omega, by omega⟩, gN, gN, w1 hi (by omega)]
    by_cases c : a.getD i 0 = b.getD i 0
    · rw [bne_f c]
      refine ih.iff ⟨fun h j h1 h2 => ?_, fun h j h1 h2 => h j (by omega) h2⟩
      by_cases e : j = i
      · rw [e]; exact c
      · exact h j (by omega) h2
    · rw [bne_t c]; exact Tells.no fun h => c (h i (Nat.le_refl i) hi)
theorem ext_getD (a b : List Int) (h : a.length = b.length) (he : ∀ j, j < a.length → a.getD j 0 = b.getD j 0) : a = b := by
  apply List.ext_getElem h
  intro i h1 h2
  have := he i h1
  simpa [List.getD_eq_getElem?_getD, List.getElem?_eq_getElem h1, List.getElem?_eq_getElem h2] using this
theorem eqIntS_val (a b : List Int) (ha : a.length ≤ 4611686018427387904) (_hb' : b.length ≤ 4611686018427387904) : w_eqIntS_f (a, b) = some (decide (a = b)) := by
  apply Tells.val
  rw [w_eqIntS_f_eq]
  by_cases h : a.length = b.length
  · rw [bne_f (by omega)]
    exact (eqIntS_loop a b ha h 0 (by omega)).iff ⟨fun k => ext_getD a b h fun j hj => k j (by omega) hj, fun k j _ _ => by rw [k]⟩
  · rw [bne_t (by omega)]; exact Tells.no fun k => h (by rw [k])
theorem szIntS_val (a : List Int) (x : Int) (ha : a.length ≤ 9223372036854775807) (h0 : 0 ≤ x) (h1 : x ≤ 1048576) : w_szIntS_f (a, x) = some (if x - a.length < 0 then -1 else x - a.length) := by
  rw [w_szIntS_f_eq, i64w (n := x - (a.length : Int)) (by omega) (by omega)]
  split
  · rename_i h; rw [cnd_t h]
  · rename_i h; rw [cnd_f h]
/-- A place's size: it answers -1, or all is small. -/
theorem szPlace_val (a : List Int) (k : Int) (b : List Int) (x : Int) (h1 : a.length ≤ 9223372036854775807) (h2 : b.length ≤ 9223372036854775807) (h3 : 0 ≤ x) (h4 : x ≤ 1048576) :
    w_szPlace_f (a, k, b, x) = some (-1) ∨ (w_szPlace_f (a, k, b, x) = some (x - a.length - b.length) ∧ (a.length : Int) + b.length ≤ x) := by
  rw [w_szPlace_f_eq, szIntS_val _ x h1 h3 h4, Option.bind_some]
  split
  · left; rfl
  · rename_i hc
    rw [cnd_f (by omega), szIntS_val _ _ h2 (by omega) (by omega), Option.bind_some]
    split
    · left; rfl
    · rename_i b
      right
      rw [cnd_f (by omega)]
      exact ⟨rfl, by omega⟩
theorem toPlace_val (a : List Int) (k : Int) (b : List Int) (ha : a.length ≤ 1048576) (hb : b.length ≤ 1048576) : w_toPlace_f (a, k, b) = some (a, k, b) := by
  rw [w_toPlace_f_eq, toIntS_val a ha, Option.bind_some, toIntS_val b hb, Option.bind_some]
theorem eqPlace_val (a : List Int) (k : Int) (b : List Int) (a' : List Int) (k' : Int) (b' : List Int) (h1 : a.length ≤ 4611686018427387904) (h2 : a'.length ≤ 4611686018427387904) (h3 : b.length ≤ 4611686018427387904) (h4 : b'.length ≤ 4611686018427387904) :
    w_eqPlace_f (a, k, b, a', k', b') = some (decide (a = a' ∧ k = k' ∧ b = b')) := by
  apply Tells.val
  rw [w_eqPlace_f_eq, eqIntS_val _ _ h1 h2, Option.bind_some]
  by_cases c1 : a = a'
  · rw [decide_eq_true c1]
    show Tells (cond (k != k') _ _) _
    by_cases c2 : k = k'
    · rw [bne_f c2, eqIntS_val _ _ h3 h4, Option.bind_some]
      by_cases c3 : b = b'
      · rw [decide_eq_true c3]; exact Tells.yes ⟨c1, c2, c3⟩
      · rw [decide_eq_false c3]; exact Tells.no fun h => c3 h.2.2
    · rw [bne_t c2]; exact Tells.no fun h => c2 h.2.1
  · rw [decide_eq_false c1]; exact Tells.no fun h => c1 h.1
end FN
/-! Marks that are held. -/
namespace FN
open Go
theorem hmarkL_len : ∀ (l : List Int) (k : Int), (markL k l).length = l.length
  | [], _ => rfl
  | _ :: l, k => by simp [markL, hmarkL_len l]
theorem markL_get : ∀ (l : List Int) (k : Int) (i : Nat), i < l.length → (markL k l).getD i 0 = k + i
  | _ :: l, k, 0, _ => by simp [markL]
  | _ :: l, k, i + 1, h => by
    have := markL_get l (k + 1) i (by simpa using h)
    simp only [markL, List.getD_cons_succ, this]
    omega
theorem held_loop (l : List Int) (k : Int) (hk : 0 ≤ k) (hk' : k + l.length ≤ 4611686018427387904) : ∀ i, i ≤ l.length → w_heldIntS_l0 (markL k l) (k + i) (i : Int) = some (k + l.length) := by
  refine advN ?_ fun i hi ih => ?_
  · rw [w_heldIntS_l0_eq, hmarkL_len, cnd_f (by omega)]
  · rw [w_heldIntS_l0_eq, hmarkL_len, cnd_t (by omega), if_pos (inN hi), gN, markL_get l k i hi, bne_f rfl, w1 hi (by omega), i64w (by omega) (by omega), show k + (i : Int) + 1 = k + ((i + 1 : Nat) : Int) by omega]
    exact ih
theorem held_val (l : List Int) (k : Int) (hk : 0 ≤ k) (hk' : k + l.length ≤ 4611686018427387904) : w_heldIntS_f (markL k l, k) = some (k + l.length) := by
  rw [w_heldIntS_f_eq]
  have := held_loop l k hk hk' 0 (by omega)
  simpa using this
theorem heldPlace_val (a b : List Int) (x : Int) (h : (a.length : Int) + b.length ≤ 1000000000) : w_heldPlace_f (markL 1 a, x, markL (1 + (a.length : Int)) b, 1) = some (1 + (a.length : Int) + b.length) := by
  rw [w_heldPlace_f_eq, held_val a 1 (by omega) (by omega), Option.bind_some, cnd_f (show ¬ (1 + (a.length : Int) < 0) by omega), held_val b (1 + (a.length : Int)) (by omega) (by omega), Option.bind_some, cnd_f (show ¬ (1 + (a.length : Int) + b.length < 0) by omega)]
end FN
