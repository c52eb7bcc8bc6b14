/- Texts of the proof, joined: Plain laws of numbers and lists. -/
import Derived.Deep.Slices
import Derived.OpenShut
import Derived.ShutString
import Derived.WideShapes
import Derived.Below
import Derived.Carry
import Derived.Test.YthdapnmdllbejaaG0
set_option linter.unusedVariables false
set_option linter.unusedSimpArgs false
set_option linter.unusedSectionVars false
/-! What comes in, opened: typed values with their bounds. -/
namespace FN
open Go Go.RowKit
def okI (n : Int) : Prop := -9223372036854775808 ≤ n ∧ n ≤ 9223372036854775807
def okL (l : List Int) : Prop := l.length ≤ maxLen ∧ ∀ y ∈ l, okI y
def WfE : (c : CK) → c.T → Prop
  | .i64, x => okI x
  | .u8, x => 0 ≤ x ∧ x ≤ 255
  | .str, s => s.size ≤ maxLen
  | .intss, l => okL l
  | .place, x => okL x.1 ∧ okI x.2.1 ∧ okL x.2.2
  | .deed, x => okI x.1 ∧ okI x.2.1 ∧ okI x.2.2
  | .bool, _ => True
  | .pair, x => okI x.1 ∧ okI x.2
def WfR : (r : RS) → r.T → Prop
  | .int k, n => (Lit.int k n).wf = true
  | .bool, _ => True
  | .str, s => s.size ≤ maxLen
  | .row _ _, _ => False
  | .view c, xs => xs.length ≤ maxLen ∧ ∀ x ∈ xs, WfE c x
  | .any, _ => False
  | .fview _, _ => False
  | .nil, _ => False
def WfTs : (rs : List RS) → Ts rs → Prop
  | [], _ => True
  | [a], x => WfR a x
  | a :: b :: az, x => WfR a x.1 ∧ WfTs (b :: az) x.2
theorem wf_i64 {n : Int} (h : (Lit.int .i64 n).wf = true) : okI n := by
  simp [Lit.wf, IntKind.min, IntKind.max, IntKind.bits, IntKind.signed] at h
  unfold okI; omega
theorem wf_u8 {n : Int} (h : (Lit.int .u8 n).wf = true) : 0 ≤ n ∧ n ≤ 255 := by
  simp [Lit.wf, IntKind.min, IntKind.max, IntKind.bits, IntKind.signed] at h
  omega
theorem list_of {α : Type} {p : Nat → α → Prop} : ∀ n, (∀ i, i < n → ∃ x, p i x) → ∃ xs : List α, xs.length = n ∧ ∀ (i : Nat) x, xs[i]? = some x → p i x := by
  intro n
  induction n with
  | zero => intro _; exact ⟨[], rfl, fun i x h => by simp at h⟩
  | succ n ih =>
    intro h
    obtain ⟨xs, h1, h2⟩ := ih fun i hi => h i (by omega)
    obtain ⟨x, hx⟩ := h n (by omega)
    refine ⟨xs ++ [x], by simp [h1], fun i y hy => ?_⟩
    rcases Nat.lt_or_ge i xs.length with hl | hl
    · rw [List.getElem?_append_left hl] at hy; exact h2 i y hy
    · rw [List.getElem?_append_right hl] at hy
      have : i = n := by
        have := (List.getElem?_eq_some_iff.1 hy).1
        simp at this; omega
      subst this
      simp [h1] at hy
      subst hy; exact hx
section
variable {H : Type} {enc : TypeId × Value → H} {P : Program} {w : World} {sp : Nat → Bool} {held : Bool}
def okT (w : World) : Nat → Prop := (av w fun _ => True).okf false
theorem okT_all (w : World) (k : Nat) : okT w k := ⟨trivial, fun h => by cases h⟩
theorem trod_int' {t : TypeId} {k : IntKind} {n : Nat} {cs : List Value} {y : DataW H × List MemPlace} (ht : P.underlying t = some (.int k)) (h : DataW.trod enc P w 0 sp held n t cs = some y) : ∃ m, cs = [.int k m] ∧ (Lit.int k m).wf = true := by
  cases n with
  | zero => simp [DataW.trod] at h
  | succ n =>
    simp only [DataW.trod, ht] at h
    split at h <;> try (simp_all; done)
theorem trod_bool' {t : TypeId} {n : Nat} {cs : List Value} {y : DataW H × List MemPlace} (ht : P.underlying t = some .bool) (h : DataW.trod enc P w 0 sp held n t cs = some y) : ∃ b, cs = [.bool b] := by
  cases n with
  | zero => simp [DataW.trod] at h
  | succ n =>
    simp only [DataW.trod, ht] at h
    split at h <;> first | (exact ⟨_, rfl⟩) | (simp_all; done)
theorem trod_str' {t : TypeId} {n : Nat} {cs : List Value} {y : DataW H × List MemPlace} (ht : P.underlying t = some .string) (h : DataW.trod enc P w 0 sp held n t cs = some y) : ∃ s, cs = [.string s] ∧ s.size ≤ maxLen := by
  cases n with
  | zero => simp [DataW.trod] at h
  | succ n =>
    simp only [DataW.trod, ht] at h
    split at h <;> try (simp_all; done)
theorem open_sl {t e : TypeId} {c : CK} (ht : P.underlying t = some (.slice e)) (hsz : P.cellsOf e = c.sz)
    (hel : ∀ (n : Nat) (cs : List Value) (y : DataW H × List MemPlace), DataW.trod enc P w 0 sp held n e cs = some y → ∃ x : c.T, ElR w (okT w) c x cs ∧ WfE c x) {n : Nat} {cs : List Value} {y : DataW H × List MemPlace}
    (h : DataW.trod enc P w 0 sp held n t cs = some y) : ∃ v xs, cs = [v] ∧ SlR w (okT w) c xs v ∧ xs.length ≤ maxLen ∧ ∀ x ∈ xs, WfE c x := by
  rcases Go.Deep.open_slice ht h with ⟨rfl, _⟩ | ⟨a, len, cap, m, k, D, Pl, rfl, _, hl, hm, hmm, _, hx⟩
  · exact ⟨_, [], rfl, ⟨none, 0, rfl, Nat.le_refl _, Nat.zero_le _, fun h => absurd rfl h⟩, Nat.zero_le _, fun x hx => by simp at hx⟩
  · have hlm : len ≤ m := by rw [hmm]; split <;> omega
    obtain ⟨xs, e1, e2⟩ := list_of (p := fun i (x : c.T) => ∃ cs', w.cells? 0 (a.add (i * P.cellsOf e)) (P.cellsOf e) = some cs' ∧ ElR w (okT w) c x cs' ∧ WfE c x) len (fun i hi => by
      obtain ⟨cs', h1, h2⟩ := hx i (by omega)
      obtain ⟨x, h3, h4⟩ := hel _ _ _ h2
      exact ⟨x, cs', h1, h3, h4⟩)
    subst e1
    refine ⟨_, xs, rfl, ⟨some a, cap, rfl, hl, by omega, fun hne => ⟨a, rfl, okT_all w _, ?_, fun j x hj => ?_⟩⟩, by omega, fun x hx => ?_⟩
    · cases xs with
      | nil => exact absurd rfl hne
      | cons x xs =>
        obtain ⟨cs', h1, h3, _⟩ := e2 0 x rfl
        obtain ⟨_, h5, h6⟩ := World.cells?_some h1
        have hpos := c.sz_pos
        have := h6 0 (by omega)
        have hl0 : 0 < cs'.length := by omega
        rw [List.getElem?_eq_getElem hl0] at this
        have := World.block_lt_of_cell? w _ this
        rwa [Addr.add_block, Addr.add_block] at this
    · obtain ⟨cs', h1, h3, _⟩ := e2 j x hj
      obtain ⟨_, h5, h6⟩ := World.cells?_some h1
      refine ⟨cs', h3, fun i u hi => ?_⟩
      have hil := (List.getElem?_eq_some_iff.1 hi).1
      have := h6 i (by omega)
      rw [Addr.add_add, hsz] at this
      rw [this, hi]
    · obtain ⟨i, hi⟩ := List.getElem?_of_mem hx
      obtain ⟨_, _, _, h4⟩ := e2 i x hi
      exact h4
theorem open_slI {t e : TypeId} (ht : P.underlying t = some (.slice e)) (he : P.underlying e = some (.int .i64)) (hsz : P.cellsOf e = 1) {n : Nat} {cs : List Value} {y : DataW H × List MemPlace}
    (h : DataW.trod enc P w 0 sp held n t cs = some y) : ∃ v xs, cs = [v] ∧ SlI w (okT w) xs v ∧ okL xs := by
  obtain ⟨v, xs, h1, h2, h3, h4⟩ := open_sl (c := .i64) ht hsz (fun n cs y h => by
    obtain ⟨m, rfl, hm⟩ := trod_int' he h
    exact ⟨m, rfl, wf_i64 hm⟩) h
  exact ⟨v, xs, h1, slI_iff.1 h2, h3, h4⟩
theorem trod_struct' {t : TypeId} {fs : Array Field} {n : Nat} {cs : List Value} {y : DataW H × List MemPlace} (ht : P.underlying t = some (.struct fs)) (h : DataW.trod enc P w 0 sp held n t cs = some y) :
    cs.length = P.cellsOf t ∧ ∃ m, ∀ f ∈ fs.toList, ∃ z, DataW.trod enc P w 0 sp held m f.type ((cs.drop f.offset).take (P.cellsOf f.type)) = some z := by
  cases n with
  | zero => simp [DataW.trod] at h
  | succ n =>
    have h' : (if cs.length = P.cellsOf t then (fs.toList.mapM fun f => DataW.trod enc P w 0 sp held n f.type ((cs.drop f.offset).take (P.cellsOf f.type))).map fun xs => (DataW.agg (xs.map (·.1)), xs.flatMap (·.2)) else none) = some y := by
      rw [← h]
      simp only [DataW.trod, ht]
    split at h'
    · rename_i hl
      obtain ⟨xs, h1, _⟩ := Option.map_eq_some_iff.1 h'
      refine ⟨hl, n, fun f hf => ?_⟩
      have key : ∀ (l : List Field) (xs : List (DataW H × List MemPlace)), (l.mapM fun f => DataW.trod enc P w 0 sp held n f.type ((cs.drop f.offset).take (P.cellsOf f.type))) = some xs → ∀ f ∈ l, ∃ z, DataW.trod enc P w 0 sp held n f.type ((cs.drop f.offset).take (P.cellsOf f.type)) = some z := by
        intro l
        induction l with
        | nil => intro _ _ f hf; cases hf
        | cons g l ih =>
          intro xs hx f hf
          rw [List.mapM_cons] at hx
          obtain ⟨z, hz, hx⟩ := Option.bind_eq_some_iff.1 hx
          obtain ⟨zs, hzs, _⟩ := Option.bind_eq_some_iff.1 hx
          cases hf with
          | head => exact ⟨z, hz⟩
          | tail _ hf => exact ih zs hzs f hf
      exact key _ _ h1 f hf
    · cases h'
end
end FN
/-! From a law's contract to its call; arguments. -/
namespace FN
open Go Go.RowKit
theorem law_calls [Gl] {P : Program} {f : FuncId} {ps : List (Option Nat)} {pc : List RS} {run : Ts pc → Option (Ts [RS.bool])} (hc : CtrOk P f ⟨{ ps := ps, pc := pc, rs := [none], rc := [.bool] }, run⟩) {w : World} (hI : Gl.I w) {args : Array Value} {x : Ts pc} {fl : List Value}
    (h1 : flatV ps args.toList = some fl) (h2 : F2 (V1 (av w fun _ => True)) (inPs pc x) fl) (hr : run x = some true) : Calls P f args w fun e w' => e = .returned (.bool true) ∧ Below w.heap.size w w' := by
  refine (hc w (fun _ => True) args none x true hI ⟨rfl, fl, h1, h2⟩ hr).mono fun e w' hh => ?_
  obtain ⟨v, rfl, ⟨us, sp, ho, _, hsh⟩, hk⟩ := hh
  obtain ⟨_, _, vs, hvs, rfl⟩ := hsh
  obtain ⟨u, rfl, hu⟩ := ho
  have hu' : u = .bool true := hu
  subst hu'
  refine ⟨?_, hk.os, hk.tape, hk.output, hk.size, fun k hlt => hk.block k hlt (by rintro ⟨b, hb⟩; cases hb)⟩
  cases vs with
  | nil => simp [flatV] at hvs
  | cons v vs =>
    cases vs with
    | nil =>
      simp only [flatV, Option.map_some] at hvs
      injection hvs with hvs
      injection hvs with hvs
      subst hvs
      rfl
    | cons v' vs => simp [flatV] at hvs
/-- A row of numbers that came in. -/
def IsRow (k : IntKind) (w : World) (a : Option Addr) (len cap : Nat) (zs : List Int) : Prop :=
  (a = none ∧ len = 0 ∧ cap = 0 ∧ zs = []) ∨
  ∃ x, a = some x ∧ len ≤ cap ∧ cap ≤ maxLen ∧ zs.length = cap ∧ (∀ i, i < zs.length → w.cell? (x.add i) = some (.int k (zs.getD i 0))) ∧ ∀ n ∈ zs, (Lit.int k n).wf = true
theorem IsRow.bytes {w : World} {a : Option Addr} {len cap : Nat} {zs : List Int} (h : IsRow .u8 w a len cap zs) : V1 (av w fun _ => True) (.row false .u8 (zs.take len)) (.slice a len cap) ∧ ∀ x ∈ zs.take len, 0 ≤ x ∧ x ≤ 255 := by
  rcases h with ⟨rfl, rfl, rfl, rfl⟩ | ⟨x, rfl, hl, hm, hz, hc, hw⟩
  · exact ⟨⟨none, 0, rfl, Nat.le_refl _, Nat.zero_le _, fun h => absurd rfl h⟩, fun x hx => by simp at hx⟩
  · have hlen : (zs.take len).length = len := by rw [List.length_take]; omega
    refine ⟨⟨some x, cap, by rw [hlen], by omega, by omega, fun hne => ⟨x, rfl, ⟨trivial, fun h => by cases h⟩, (by
      have hz0 : 0 < zs.length := by
        cases zs with
        | nil => simp at hne
        | cons z zs => simp
      have := World.block_lt_of_cell? w _ (hc 0 hz0)
      rwa [Addr.add_block] at this), fun j y hj => ⟨[.int .u8 y], rfl, fun i u hi => ?_⟩⟩⟩, fun y hy => ?_⟩
    · cases i with
      | succ i => simp at hi
      | zero =>
        simp at hi
        subst hi
        rw [List.getElem?_take] at hj
        split at hj
        · have hjl := (List.getElem?_eq_some_iff.1 hj).1
          have := hc j hjl
          rw [List.getD_eq_getElem?_getD, hj] at this
          show w.cell? (x.add (j * 1 + 0)) = _
          simpa using this
        · cases hj
    · have := hw y (List.mem_of_mem_take hy)
      simp [Lit.wf, IntKind.min, IntKind.max, IntKind.bits, IntKind.signed] at this
      omega
end FN
/-! A law's arguments, opened by the program's own table of types. -/
namespace FN
open Go Go.RowKit
def isI (P : Program) (t : TypeId) : Bool := match P.underlying t with | some (.int .i64) => P.cellsOf t == 1 | _ => false
def isIs (P : Program) (t : TypeId) : Bool := match P.underlying t with | some (.slice e) => isI P e && P.cellsOf t == 1 | _ => false
def elCK (P : Program) (e : TypeId) : Option CK := match P.underlying e with
  | some (.int .i64) => some .i64
  | some (.int .u8) => some .u8
  | some .string => some .str
  | some .bool => some .bool
  | some (.slice q) => if isI P q then some .intss else none
  | some (.struct fs) => match fs.toList with
    | [a, b, c] => if a.offset = 0 ∧ b.offset = 1 ∧ c.offset = 2 then
        (if isI P a.type ∧ isI P b.type ∧ isI P c.type then some .deed else if isIs P a.type ∧ isI P b.type ∧ isIs P c.type then some .place else none) else none
    | [a, b] => if a.offset = 0 ∧ b.offset = 1 ∧ isI P a.type ∧ isI P b.type then some .pair else none
    | _ => none
  | _ => none
mutual
def tyRS (P : Program) : Nat → TypeId → Option (List RS)
  | 0, _ => none
  | n + 1, t => match P.underlying t with
    | some (.int k) => some [.int k]
    | some .bool => some [.bool]
    | some .string => some [.str]
    | some (.slice e) => match elCK P e with
      | some c => if P.cellsOf e = c.sz then some [.view c] else none
      | none => none
    | some (.struct fs) => match fsRS P n fs.toList 0 with
      | some rs => if P.cellsOf t = rs.length then some rs else none
      | none => none
    | _ => none
def fsRS (P : Program) : Nat → List Field → Nat → Option (List RS)
  | _, [], _ => some []
  | 0, _, _ => none
  | n + 1, f :: fs, o => match tyRS P n f.type, fsRS P n fs (o + P.cellsOf f.type) with
    | some a, some b => if f.offset = o ∧ P.cellsOf f.type = a.length then some (a ++ b) else none
    | _, _ => none
end
def sigRS (P : Program) : List TypeId → Option (List (Option Nat) × List RS)
  | [] => some ([], [])
  | t :: ts => match tyRS P 20 t, sigRS P ts with
    | some a, some b => match P.underlying t with
      | some (.struct _) => some (some a.length :: b.1, a ++ b.2)
      | _ => if a.length = 1 then some (none :: b.1, a ++ b.2) else none
    | _, _ => none
section
variable {H : Type} {enc : TypeId × Value → H} {P : Program} {w : World} {sp : Nat → Bool} {held : Bool}
theorem isI_spec {t : TypeId} (h : isI P t = true) : P.underlying t = some (.int .i64) ∧ P.cellsOf t = 1 := by
  unfold isI at h
  split at h
  · rename_i hu; exact ⟨hu, by simpa using h⟩
  · cases h
theorem isIs_spec {t : TypeId} (h : isIs P t = true) : ∃ e, P.underlying t = some (.slice e) ∧ P.underlying e = some (.int .i64) ∧ P.cellsOf e = 1 ∧ P.cellsOf t = 1 := by
  unfold isIs at h
  split at h
  · rename_i e hu
    simp only [Bool.and_eq_true] at h
    obtain ⟨h1, h2⟩ := isI_spec h.1
    exact ⟨e, hu, h1, h2, by simpa using h.2⟩
  · cases h
theorem len3 {cs : List Value} (h : cs.length = 3) : ∃ a b c, cs = [a, b, c] := by
  match cs, h with
  | [a, b, c], _ => exact ⟨a, b, c, rfl⟩
theorem len2 {cs : List Value} (h : cs.length = 2) : ∃ a b, cs = [a, b] := by
  match cs, h with
  | [a, b], _ => exact ⟨a, b, rfl⟩
theorem open_el {e : TypeId} {c : CK} (h : elCK P e = some c) (hsz : P.cellsOf e = c.sz) {n : Nat} {cs : List Value} {y : DataW H × List MemPlace} (hT : DataW.trod enc P w 0 sp held n e cs = some y) : ∃ x : c.T, ElR w (okT w) c x cs ∧ WfE c x := by
  unfold elCK at h
  split at h
  · rename_i hu
    injection h with h; subst h
    obtain ⟨m, rfl, hm⟩ := trod_int' hu hT
    exact ⟨m, rfl, wf_i64 hm⟩
  · rename_i hu
    injection h with h; subst h
    obtain ⟨m, rfl, hm⟩ := trod_int' hu hT
    exact ⟨m, rfl, wf_u8 hm⟩
  · rename_i hu
    injection h with h; subst h
    obtain ⟨s, rfl, hs⟩ := trod_str' hu hT
    exact ⟨s, rfl, hs⟩
  · rename_i hu
    injection h with h; subst h
    obtain ⟨b, rfl⟩ := trod_bool' hu hT
    exact ⟨b, rfl, trivial⟩
  · rename_i q hu
    split at h
    · rename_i hq
      injection h with h; subst h
      obtain ⟨h1, h2⟩ := isI_spec hq
      obtain ⟨v, xs, rfl, hs, hok⟩ := open_slI hu h1 h2 hT
      exact ⟨xs, ⟨v, rfl, hs⟩, hok⟩
    · cases h
  · rename_i fs hu
    obtain ⟨hl, m, hf⟩ := trod_struct' hu hT
    split at h
    · rename_i a b c' hfs
      rw [hfs] at hf
      split at h
      · rename_i ho
        obtain ⟨oa, ob, oc⟩ := ho
        obtain ⟨za, ha⟩ := hf a (by simp)
        obtain ⟨zb, hb⟩ := hf b (by simp)
        obtain ⟨zc, hc⟩ := hf c' (by simp)
        rw [oa] at ha; rw [ob] at hb; rw [oc] at hc
        split at h
        · rename_i hi
          injection h with h; subst h
          obtain ⟨u1, u2, u3, rfl⟩ := len3 (hl.trans hsz)
          obtain ⟨a1, a2⟩ := isI_spec hi.1
          obtain ⟨b1, b2⟩ := isI_spec hi.2.1
          obtain ⟨c1, c2⟩ := isI_spec hi.2.2
          rw [a2] at ha; rw [b2] at hb; rw [c2] at hc
          obtain ⟨m1, e1, w1⟩ := trod_int' a1 ha
          obtain ⟨m2, e2, w2⟩ := trod_int' b1 hb
          obtain ⟨m3, e3, w3⟩ := trod_int' c1 hc
          simp at e1 e2 e3
          subst e1; subst e2; subst e3
          exact ⟨(m1, m2, m3), rfl, wf_i64 w1, wf_i64 w2, wf_i64 w3⟩
        · split at h
          · rename_i hi
            injection h with h; subst h
            obtain ⟨u1, u2, u3, rfl⟩ := len3 (hl.trans hsz)
            obtain ⟨ea, a1, a2, a3, a4⟩ := isIs_spec hi.1
            obtain ⟨b1, b2⟩ := isI_spec hi.2.1
            obtain ⟨ec, c1, c2, c3, c4⟩ := isIs_spec hi.2.2
            rw [a4] at ha; rw [b2] at hb; rw [c4] at hc
            obtain ⟨v1, xs1, e1, s1, k1⟩ := open_slI a1 a2 a3 ha
            obtain ⟨m2, e2, w2⟩ := trod_int' b1 hb
            obtain ⟨v3, xs3, e3, s3, k3⟩ := open_slI c1 c2 c3 hc
            simp at e1 e2 e3
            subst e1; subst e2; subst e3
            exact ⟨(xs1, m2, xs3), ⟨_, _, rfl, s1, s3⟩, k1, wf_i64 w2, k3⟩
          · cases h
      · cases h
    · rename_i a b hfs
      rw [hfs] at hf
      split at h
      · rename_i ho
        obtain ⟨oa, ob, ia, ib⟩ := ho
        injection h with h; subst h
        obtain ⟨za, ha⟩ := hf a (by simp)
        obtain ⟨zb, hb⟩ := hf b (by simp)
        rw [oa] at ha; rw [ob] at hb
        obtain ⟨u1, u2, rfl⟩ := len2 (hl.trans hsz)
        obtain ⟨a1, a2⟩ := isI_spec ia
        obtain ⟨b1, b2⟩ := isI_spec ib
        rw [a2] at ha; rw [b2] at hb
        obtain ⟨m1, e1, w1⟩ := trod_int' a1 ha
        obtain ⟨m2, e2, w2⟩ := trod_int' b1 hb
        simp at e1 e2
        subst e1; subst e2
        exact ⟨(m1, m2), rfl, wf_i64 w1, wf_i64 w2⟩
      · cases h
    · cases h
  · cases h
/-- Typed cells, one behind the other. -/
theorem ts_app {v : Vw} : ∀ {az bs : List RS} {cs ds : List Value}, (∃ x : Ts az, F2 (V1 v) (inPs az x) cs ∧ WfTs az x) → (∃ y : Ts bs, F2 (V1 v) (inPs bs y) ds ∧ WfTs bs y) → ∃ z : Ts (az ++ bs), F2 (V1 v) (inPs (az ++ bs) z) (cs ++ ds) ∧ WfTs (az ++ bs) z
  | [], bs, cs, ds, ⟨x, h1, _⟩, h => by
    simp only [inPs] at h1
    cases h1
    exact h
  | [a], [], cs, ds, ⟨x, h1, h2⟩, ⟨y, h3, _⟩ => by
    simp only [inPs] at h3
    cases h3
    exact ⟨x, by simpa using h1, h2⟩
  | [a], b :: bs, cs, ds, ⟨x, h1, h2⟩, ⟨y, h3, h4⟩ => ⟨(x, y), F2.app h1 h3, h2, h4⟩
  | a :: b :: az, bs, cs, ds, ⟨x, h1, h2⟩, h => by
    simp only [inPs] at h1
    cases h1 with
    | @cons _ u _ us e1 e2 =>
      obtain ⟨z, h3, h4⟩ := ts_app (az := b :: az) ⟨x.2, e2, h2.2⟩ h
      exact ⟨(x.1, z), .cons e1 h3, h2.1, h4⟩
theorem inPs_len {v : Vw} {rs : List RS} {x : Ts rs} {cs : List Value} (h : F2 (V1 v) (inPs rs x) cs) : cs.length = rs.length := by
  have : ∀ (rs : List RS) (x : Ts rs), (inPs rs x).length = rs.length := by
    intro rs
    induction rs with
    | nil => intro x; rfl
    | cons a az ih =>
      cases az with
      | nil => intro x; rfl
      | cons b bs => intro x; simp only [inPs, List.length_cons]; rw [ih]; simp
  rw [← h.len, this]
mutual
theorem open_ty : ∀ (k : Nat) {t : TypeId} {rs : List RS} {n : Nat} {cs : List Value} {y : DataW H × List MemPlace}, tyRS P k t = some rs → DataW.trod enc P w 0 sp held n t cs = some y → ∃ x : Ts rs, F2 (V1 (av w fun _ => True)) (inPs rs x) cs ∧ WfTs rs x
  | 0, t, rs, n, cs, y, h, hT => by simp [tyRS] at h
  | k + 1, t, rs, n, cs, y, h, hT => by
    simp only [tyRS] at h
    split at h
    · rename_i kk hu
      injection h with h; subst h
      obtain ⟨m, rfl, hm⟩ := trod_int' hu hT
      exact ⟨m, .cons rfl .nil, hm⟩
    · rename_i hu
      injection h with h; subst h
      obtain ⟨b, rfl⟩ := trod_bool' hu hT
      exact ⟨b, .cons rfl .nil, trivial⟩
    · rename_i hu
      injection h with h; subst h
      obtain ⟨s, rfl, hs⟩ := trod_str' hu hT
      exact ⟨s, .cons rfl .nil, hs⟩
    · rename_i e hu
      split at h
      · rename_i c hc
        split at h
        · rename_i hsz
          injection h with h; subst h
          obtain ⟨v, xs, rfl, h1, h2, h3⟩ := open_sl hu hsz (fun n cs y => open_el hc hsz) hT
          exact ⟨xs, .cons h1 .nil, h2, h3⟩
        · cases h
      · cases h
    · rename_i fs hu
      split at h
      · rename_i rs' hrs
        split at h
        · rename_i hl
          injection h with h; subst h
          obtain ⟨hlen, m, hf⟩ := trod_struct' hu hT
          have := open_fs k (o := 0) (cs := cs) hrs (by omega) (fun f hf' => ⟨m, hf f hf'⟩)
          simpa using this
        · cases h
      · cases h
    · cases h
theorem open_fs : ∀ (k : Nat) {fs : List Field} {rs : List RS} {o : Nat} {cs : List Value}, fsRS P k fs o = some rs → cs.length = o + rs.length → (∀ f ∈ fs, ∃ m z, DataW.trod enc P w 0 sp held m f.type ((cs.drop f.offset).take (P.cellsOf f.type)) = some z) →
    ∃ x : Ts rs, F2 (V1 (av w fun _ => True)) (inPs rs x) (cs.drop o) ∧ WfTs rs x
  | k, [], rs, o, cs, h, hl, _ => by
    have : rs = [] := by cases k <;> simp [fsRS] at h <;> exact h
    subst this
    rw [List.drop_eq_nil_of_le (by simp at hl; omega)]
    exact ⟨(), .nil, trivial⟩
  | 0, _ :: _, rs, o, cs, h, hl, _ => by simp [fsRS] at h
  | k + 1, f :: fs, rs, o, cs, h, hl, hf => by
    simp only [fsRS] at h
    split at h
    · rename_i a b ha hb
      split at h
      · rename_i hc
        injection h with h; subst h
        obtain ⟨h1, h2⟩ := hc
        obtain ⟨m, z, hz⟩ := hf f (by simp)
        rw [h1] at hz
        have hx := open_ty k ha hz
        rw [h2] at hb hz hx
        simp only [List.length_append] at hl
        have hy := open_fs k (cs := cs) hb (by omega) (fun g hg => hf g (by simp [hg]))
        have := ts_app hx hy
        have e : (cs.drop o).take a.length ++ cs.drop (o + a.length) = cs.drop o := by
          rw [← List.drop_drop, List.take_append_drop]
        rwa [e] at this
      · cases h
    · cases h
end
theorem open_args : ∀ {ts : List TypeId} {vs : List Value} {ds : List (DataW H)} {p : List MemPlace} {ps : List (Option Nat)} {rs : List RS} {base : Nat}, DataW.TrodAll enc P w 0 sp held ts vs ds p →
    (∀ (j : Nat) t v, ts[j]? = some t → vs[j]? = some v → Value.okWide P w .any base t v) → sigRS P ts = some (ps, rs) → ∃ fl, flatV ps vs = some fl ∧ ∃ x : Ts rs, F2 (V1 (av w fun _ => True)) (inPs rs x) fl ∧ WfTs rs x
  | [], vs, ds, p, ps, rs, base, hA, _, hs => by
    obtain ⟨rfl, rfl, rfl⟩ := Go.ChangeShapes.trodAll_nil hA
    simp only [sigRS] at hs
    injection hs with hs
    injection hs with h1 h2
    subst h1; subst h2
    exact ⟨[], rfl, (), .nil, trivial⟩
  | t :: ts, vs, ds, p, ps, rs, base, hA, hok, hs => by
    obtain ⟨v, vs', d, ds', p', q', rfl, rfl, rfl, h0, hA'⟩ := Go.ChangeShapes.trodAll_cons hA
    simp only [sigRS] at hs
    split at hs
    · rename_i a b ha hb
      obtain ⟨fl, hfl, hy⟩ := open_args (ps := b.1) (rs := b.2) hA' (fun j t v hj hv => hok (j + 1) t v (by simpa using hj) (by simpa using hv)) hb
      obtain ⟨m, hm⟩ := h0
      have hx := open_ty 20 ha hm
      have hv := hok 0 t v rfl rfl
      split at hs
      · rename_i fs hu
        injection hs with hs
        injection hs with h1 h2
        subst h1; subst h2
        obtain ⟨cs, rfl, hcs⟩ := Go.WideShapes.okWide_struct hu hv
        have hlen : cs.size = a.length := by
          obtain ⟨x, h1, _⟩ := hx
          have := inPs_len h1
          simpa [Value.cells] using this
        exact ⟨cs.toList ++ fl, by simp [flatV, hlen, hfl], ts_app (by simpa [Value.cells] using hx) hy⟩
      · rename_i hu
        split at hs
        · rename_i hl1
          injection hs with hs
          injection hs with h1 h2
          subst h1; subst h2
          have hcell : v.cells.toList = [v] := by
            unfold tyRS at ha
            split at ha
            · rename_i k hk; obtain ⟨n, rfl⟩ := Go.WideShapes.okWide_int hk hv; rfl
            · rename_i hk; obtain ⟨n, rfl⟩ := Go.WideShapes.okWide_bool hk hv; rfl
            · rename_i hk; obtain ⟨n, rfl⟩ := Go.WideShapes.okWide_string hk hv; rfl
            · rename_i e hk; obtain ⟨n, l, c, rfl⟩ := Go.WideShapes.okWide_slice hk hv; rfl
            · rename_i fs hk; exact absurd hk (hu fs)
            · cases ha
          rw [hcell] at hx
          exact ⟨v :: fl, by simp [flatV, hfl], ts_app hx hy⟩
        · cases hs
    · cases hs
/-- The arguments read az they read before. -/
theorem args_keep {w' : World} (hl : laidOutB P = true) (hb : Below w.heap.size w w') : ∀ {ts : List TypeId} {vs : List Value} {ds : List (DataW H)} {p : List MemPlace}, (∀ t ∈ ts, P.readableRec t = true ∧ t < P.types.size) → DataW.TrodAll enc P w 0 (fun _ => true) true ts vs ds p →
    ∃ p', DataW.TrodAll enc P w' 0 (fun b => decide (b < w.heap.size)) true ts vs ds p'
  | [], vs, ds, p, _, hA => by
    obtain ⟨rfl, rfl, rfl⟩ := Go.ChangeShapes.trodAll_nil hA
    exact ⟨[], Go.ChangeShapes.trodAll_mk0⟩
  | t :: ts, vs, ds, p, hr, hA => by
    obtain ⟨v, vs', d, ds', p', q', rfl, rfl, rfl, h0, hA'⟩ := Go.ChangeShapes.trodAll_cons hA
    obtain ⟨q, hq⟩ := args_keep hl hb (fun t ht => hr t (by simp [ht])) hA'
    have lt0 : ∀ x ∈ p', x.block < w.heap.size := by obtain ⟨m, hm⟩ := h0; exact DataW.trod_lt m _ _ _ hm
    exact ⟨p' ++ q, trodAll_cons_mk (Below.trod hl (hr t (by simp)).1 (hr t (by simp)).2 h0 hb lt0) hq⟩
end
end FN
namespace FN
open Go
theorem TrodAll_len {H : Type} {enc : TypeId × Value → H} {P : Program} {w : World} {base : Nat} {sp : Nat → Bool} {held : Bool} : ∀ {ts : List TypeId} {vs : List Value} {ds : List (DataW H)} {p : List MemPlace}, DataW.TrodAll enc P w base sp held ts vs ds p → ds.length = ts.length
  | [], vs, ds, p, h => by
    obtain ⟨rfl, rfl, rfl⟩ := Go.ChangeShapes.trodAll_nil h
    rfl
  | t :: ts, vs, ds, p, h => by
    obtain ⟨v, vs', d, ds', p', q', rfl, rfl, rfl, _, h'⟩ := Go.ChangeShapes.trodAll_cons h
    simp [TrodAll_len h']
end FN
/-! Square windings: each grid, each state, by the kernel. -/
namespace FN
open Go
def sts : Nat → List (List Int)
  | 0 => [[]]
  | n + 1 => (sts n).flatMap fun l => [0 :: l, 1 :: l, 2 :: l]
def chk (r c : Int) (net : List Int) (l : List Int) : Bool := match i_SquareWindings_f_c 120 (r, c, l), s_SquareWindings_f_c 120 (r, c, l) with
  | some a, some b => a == b && decide (a.length ≤ 10) && w_FnSquareWindings_l0_c 120 r c l a net 0 true 0 == some true
  | _, _ => false
def chkG (r c : Int) (n : Nat) : Bool := match i_GridNet_f_c 120 (r, c) with
  | some net => decide (net.length = n) && (sts n).all (chk r c net)
  | none => false
theorem g11 : chkG 1 1 1 = true := by kernel_rfl
theorem g12 : chkG 1 2 2 = true := by kernel_rfl
theorem g13 : chkG 1 3 3 = true := by kernel_rfl
theorem g14 : chkG 1 4 4 = true := by kernel_rfl
theorem g15 : chkG 1 5 5 = true := by kernel_rfl
theorem g16 : chkG 1 6 6 = true := by kernel_rfl
theorem g21 : chkG 2 1 2 = true := by kernel_rfl
theorem g22 : chkG 2 2 4 = true := by kernel_rfl
theorem g23 : chkG 2 3 6 = true := by kernel_rfl
theorem g31 : chkG 3 1 3 = true := by kernel_rfl
theorem g32 : chkG 3 2 6 = true := by kernel_rfl
theorem g41 : chkG 4 1 4 = true := by kernel_rfl
theorem g51 : chkG 5 1 5 = true := by kernel_rfl
theorem g61 : chkG 6 1 6 = true := by kernel_rfl
end FN
/-! Numbers and lists: what the equations' proofs use. -/
namespace FN
open Go
theorem i64w {n : Int} (h0 : -9223372036854775808 ≤ n) (h1 : n ≤ 9223372036854775807) : IntKind.i64.wrap n = n := by
  simp [IntKind.wrap, IntKind.bits, IntKind.signed]
  split <;> omega
theorem cnd_t {p : Prop} [Decidable p] {α : Type} {a b : α} (h : p) : cond (decide p) a b = a := by rw [decide_eq_true h]; rfl
theorem cnd_f {p : Prop} [Decidable p] {α : Type} {a b : α} (h : ¬ p) : cond (decide p) a b = b := by rw [decide_eq_false h]; rfl
theorem beq_t {x y : Int} {α : Type} {a b : α} (h : x = y) : cond (x == y) a b = a := by rw [h]; simp
theorem beq_f {x y : Int} {α : Type} {a b : α} (h : x ≠ y) : cond (x == y) a b = b := by rw [beq_false_of_ne h]; rfl
theorem bne_t {x y : Int} {α : Type} {a b : α} (h : x ≠ y) : cond (x != y) a b = a := by rw [bne_iff_ne.2 h]; rfl
theorem bne_f {x y : Int} {α : Type} {a b : α} (h : x = y) : cond (x != y) a b = b := by rw [h]; simp
theorem bits_nat {a b : Nat} (ha : a < 9223372036854775808) (hb : b < 9223372036854775808) :
    Go.bits .and .i64 (a : Int) (b : Int) = ((a &&& b : Nat) : Int) ∧ Go.bits .or .i64 (a : Int) (b : Int) = ((a ||| b : Nat) : Int) ∧ Go.bits .xor .i64 (a : Int) (b : Int) = ((a ^^^ b : Nat) : Int) := by
  have ha' : a < 2 ^ 63 := ha
  have hb' : b < 2 ^ 63 := hb
  have e1 : (BitVec.ofInt 64 (a : Int)).toNat = a := by rw [BitVec.ofInt_natCast, BitVec.toNat_ofNat]; exact Nat.mod_eq_of_lt (by omega)
  have e2 : (BitVec.ofInt 64 (b : Int)).toNat = b := by rw [BitVec.ofInt_natCast, BitVec.toNat_ofNat]; exact Nat.mod_eq_of_lt (by omega)
  have h1 : a &&& b < 2 ^ 63 := Nat.and_lt_two_pow _ hb'
  have h2 : a ||| b < 2 ^ 63 := Nat.or_lt_two_pow ha' hb'
  have h3 : a ^^^ b < 2 ^ 63 := Nat.xor_lt_two_pow ha' hb'
  refine ⟨?_, ?_, ?_⟩
  · show IntKind.i64.wrap ((BitVec.ofInt 64 (a : Int) &&& BitVec.ofInt 64 (b : Int) : BitVec 64).toNat : Int) = _
    rw [BitVec.toNat_and, e1, e2]
    exact i64w (by omega) (by omega)
  · show IntKind.i64.wrap ((BitVec.ofInt 64 (a : Int) ||| BitVec.ofInt 64 (b : Int) : BitVec 64).toNat : Int) = _
    rw [BitVec.toNat_or, e1, e2]
    exact i64w (by omega) (by omega)
  · show IntKind.i64.wrap ((BitVec.ofInt 64 (a : Int) ^^^ BitVec.ofInt 64 (b : Int) : BitVec 64).toNat : Int) = _
    rw [BitVec.toNat_xor, e1, e2]
    exact i64w (by omega) (by omega)
theorem xor_nn {x y : Int} (hx : 0 ≤ x) (hx' : x < 9223372036854775808) (hy : 0 ≤ y) (hy' : y < 9223372036854775808) : 0 ≤ Go.bits .xor .i64 x y := by
  obtain ⟨a, rfl⟩ := Int.eq_ofNat_of_zero_le hx
  obtain ⟨b, rfl⟩ := Int.eq_ofNat_of_zero_le hy
  rw [(bits_nat (a := a) (b := b) (by omega) (by omega)).2.2]
  omega
/-- The bytes of a code. -/
def Bytes (l : List Int) : Prop := ∀ x ∈ l, 0 ≤ x ∧ x ≤ 255
theorem Bytes.get {l : List Int} (h : Bytes l) (i : Nat) : 0 ≤ l.getD i 0 ∧ l.getD i 0 ≤ 255 := by
  rw [List.getD_eq_getElem?_getD]
  cases hx : l[i]? with
  | none => simp
  | some x => exact h x (List.mem_of_getElem? hx)
end FN
/-! Loops, bits, truths. -/
namespace FN
open Go
theorem advN {P : Nat → Prop} {n : Nat} (hn : P n) (h : ∀ i, i < n → P (i + 1) → P i) : ∀ a, a ≤ n → P a := by
  intro a ha
  obtain ⟨d, rfl⟩ : ∃ d, n = a + d := ⟨n - a, by omega⟩
  induction d generalizing a with
  | zero => exact hn
  | succ d ih => exact h a (by omega) (ih (a + 1) (by rw [show a + 1 + d = a + (d + 1) by omega]; exact hn) (fun i hi => h i (by omega)) (by omega))
theorem w1 {i n : Nat} (h : i < n) (hn : n ≤ 4611686018427387904) : IntKind.i64.wrap ((i : Int) + 1) = ((i + 1 : Nat) : Int) := by
  rw [i64w (n := (i : Int) + 1) (by omega) (by omega)]; omega
theorem wsub {i : Int} (h : -4611686018427387904 ≤ i) (h' : i ≤ 4611686018427387904) : IntKind.i64.wrap (i - 1) = i - 1 := i64w (by omega) (by omega)
theorem gN {l : List Int} (i : Nat) : List.getD l ((i : Int)).toNat 0 = l.getD i 0 := by simp
theorem inN {i n : Nat} (h : i < n) : (0 : Int) ≤ (i : Int) ∧ (i : Int) < (n : Int) := ⟨by omega, by omega⟩
theorem and1 (y : Int) : Go.bits .and .i64 y 1 = y % 2 := by
  show IntKind.i64.wrap ((BitVec.ofInt 64 y &&& BitVec.ofInt 64 1 : BitVec 64).toNat : Int) = _
  rw [BitVec.toNat_and, BitVec.toNat_ofInt]
  have h1 : (BitVec.ofInt 64 1).toNat = 1 := by decide
  rw [h1, Nat.and_one_is_mod]
  rw [i64w (n := (((y % (2 ^ 64 : Nat)).toNat % 2 : Nat) : Int)) (by omega) (by omega)]
  omega
/-- A bit of a number. -/
def bt (x : Int) (i : Nat) : Int := x / 2 ^ i % 2
theorem bt01 (x : Int) (i : Nat) : bt x i = 0 ∨ bt x i = 1 := by unfold bt; omega
theorem fd (x : Int) {i : Nat} (h : i ≤ 64) : Int.fdiv x (2 ^ min ((i : Int)).toNat IntKind.i64.bits) = x / 2 ^ i := by
  rw [Int.toNat_natCast, show min i IntKind.i64.bits = i from Nat.min_eq_left h]
  exact Int.fdiv_eq_ediv_of_nonneg _ (Int.le_of_lt (Int.pow_pos (by omega)))
theorem bit_and (x : Int) {i : Nat} (h : i ≤ 64) : Go.bits .and .i64 (Int.fdiv x (2 ^ min ((i : Int)).toNat IntKind.i64.bits)) 1 = bt x i := by
  rw [fd x h, and1]; rfl
theorem bit_mod {x : Int} (hx : 0 ≤ x) {i : Nat} (h : i ≤ 64) : Int.tmod (Int.fdiv x (2 ^ min ((i : Int)).toNat IntKind.i64.bits)) 2 = bt x i := by
  rw [fd x h]
  have : 0 ≤ x / 2 ^ i := Int.ediv_nonneg hx (Int.le_of_lt (Int.pow_pos (by omega)))
  rw [Int.tmod_eq_emod_of_nonneg this]; rfl
theorem sh1 {n : Nat} (h : n ≤ 62) : IntKind.i64.wrap (1 * 2 ^ min ((n : Int)).toNat IntKind.i64.bits) = 2 ^ n := by
  rw [Int.toNat_natCast, show min n IntKind.i64.bits = n from Nat.min_eq_left (by show n ≤ 64; omega), Int.one_mul]
  have : (2 : Int) ^ n ≤ 2 ^ 62 := by
    have := Nat.pow_le_pow_right (show 0 < 2 by omega) h
    exact_mod_cast this
  have : (0 : Int) < 2 ^ n := Int.pow_pos (by omega)
  exact i64w (by omega) (by omega)
theorem pow6 {n : Nat} (h : n ≤ 6) : (2 : Int) ^ n ≤ 64 ∧ 1 ≤ (2 : Int) ^ n := by
  obtain rfl | rfl | rfl | rfl | rfl | rfl | rfl : n = 0 ∨ n = 1 ∨ n = 2 ∨ n = 3 ∨ n = 4 ∨ n = 5 ∨ n = 6 := by omega
  all_goals decide
/-- It comes to a truth, that of Q. -/
def Tells (g : Option Bool) (Q : Prop) : Prop := ∃ r, g = some r ∧ (r = true ↔ Q)
theorem Tells.iff {g : Option Bool} {Q Q' : Prop} (k : Tells g Q) (h : Q ↔ Q') : Tells g Q' := by
  obtain ⟨r, h1, h2⟩ := k
  exact ⟨r, h1, h2.trans h⟩
theorem Tells.eq {g f : Option Bool} {Q : Prop} (h : g = f) (k : Tells f Q) : Tells g Q := h ▸ k
theorem Tells.no {Q : Prop} (h : ¬ Q) : Tells (some false) Q := ⟨false, rfl, by simp [h]⟩
theorem Tells.yes {Q : Prop} (h : Q) : Tells (some true) Q := ⟨true, rfl, by simp [h]⟩
theorem Tells.now {b : Bool} : Tells (some b) (b = true) := ⟨b, rfl, Iff.rfl⟩
theorem Tells.dec {Q : Prop} [Decidable Q] : Tells (some (decide Q)) Q := ⟨_, rfl, by simp⟩
theorem Tells.val {g : Option Bool} {Q : Prop} [Decidable Q] (k : Tells g Q) : g = some (decide Q) := by
  obtain ⟨r, h1, h2⟩ := k
  have : r = decide Q := by rw [Bool.eq_iff_iff]; simpa using h2
  exact this ▸ h1
theorem l1In_val (n a b : Int) : s_l1In_f (n, a, b) = some (decide (a ≤ n ∧ n ≤ b)) := by
  rw [s_l1In_f_eq]
  by_cases h : a ≤ n
  · rw [cnd_t h]; simp [h]
  · rw [cnd_f h]; simp [h]
end FN
/-! Nets, states, places: the program and the reference judge them alike. -/
namespace FN
open Go
structure NetP (l : List Int) : Prop where
  lo : 1 ≤ l.length
  hi : l.length ≤ 6
  rng : ∀ i, i < l.length → 0 ≤ l.getD i 0 ∧ l.getD i 0 < 2 ^ l.length
  sym : ∀ i, i < l.length → ∀ k, k < l.length → bt (l.getD i 0) k = bt (l.getD k 0) i
  self : ∀ i, i < l.length → bt (l.getD i 0) i = 0
instance (l : List Int) : Decidable (NetP l) :=
  decidable_of_iff (1 ≤ l.length ∧ l.length ≤ 6 ∧ (∀ i, i < l.length → 0 ≤ l.getD i 0 ∧ l.getD i 0 < 2 ^ l.length) ∧ (∀ i, i < l.length → ∀ k, k < l.length → bt (l.getD i 0) k = bt (l.getD k 0) i) ∧ (∀ i, i < l.length → bt (l.getD i 0) i = 0))
    ⟨fun ⟨a, b, c, d, e⟩ => ⟨a, b, c, d, e⟩, fun h => ⟨h.1, h.2, h.3, h.4, h.5⟩⟩
theorem inet_inner (l : List Int) (hn : l.length ≤ 6) (i : Nat) (hi : i < l.length) (x : Int) (Q : Prop)
    (hnext : Tells (i_NetOk_l0 l l (l.length : Int) ((i + 1 : Nat) : Int)) Q) : ∀ j, j ≤ l.length → Tells (i_NetOk_l1 l (i : Int) x l (l.length : Int) (i : Int) (l.length : Int) (j : Int)) ((∀ k, j ≤ k → k < l.length → bt x k = bt (l.getD k 0) i) ∧ Q) := by
  refine advN ?_ fun j hj ih => ?_
  · refine (Tells.eq ?_ hnext).iff ⟨fun h => ⟨fun k h1 h2 => by omega, h⟩, fun h => h.2⟩
    rw [i_NetOk_l1_eq, cnd_f (by omega), w1 hi (by omega)]
  · have e : i_NetOk_l1 l (i : Int) x l (l.length : Int) (i : Int) (l.length : Int) (j : Int) = cond (bt x j != bt (l.getD j 0) i) (some false) (i_NetOk_l1 l (i : Int) x l (l.length : Int) (i : Int) (l.length : Int) ((j + 1 : Nat) : Int)) := by
      rw [i_NetOk_l1_eq, cnd_t (by omega), if_neg (by omega), if_pos (inN hj), if_neg (by omega), bit_and x (by omega), gN, bit_and _ (by omega), w1 hj (by omega)]
    by_cases c : bt x j = bt (l.getD j 0) i
    · refine (Tells.eq (e.trans (bne_f c)) ih).iff ⟨fun h => ⟨fun k h1 h2 => ?_, h.2⟩, fun h => ⟨fun k h1 h2 => h.1 k (by omega) h2, h.2⟩⟩
      by_cases he : k = j
      · rw [he]; exact c
      · exact h.1 k (by omega) h2
    · exact Tells.eq (e.trans (bne_t c)) (Tells.no fun h => c (h.1 j (Nat.le_refl j) hj))
theorem inet_outer (l : List Int) (hn : l.length ≤ 6) : ∀ i, i ≤ l.length → Tells (i_NetOk_l0 l l (l.length : Int) (i : Int)) (∀ k, i ≤ k → k < l.length → (0 ≤ l.getD k 0 ∧ l.getD k 0 < 2 ^ l.length ∧ bt (l.getD k 0) k = 0) ∧ ∀ m, m < l.length → bt (l.getD k 0) m = bt (l.getD m 0) k) := by
  refine advN ?_ fun i hi ih => ?_
  · refine Tells.eq ?_ (Tells.yes fun k h1 h2 => by omega)
    rw [i_NetOk_l0_eq, cnd_f (by omega)]
  · have e : i_NetOk_l0 l l (l.length : Int) (i : Int) = cond (decide (l.getD i 0 < 0)) (some false) (cond (decide (2 ^ l.length ≤ l.getD i 0)) (some false) (cond (bt (l.getD i 0) i == 1) (some false) (i_NetOk_l1 l (i : Int) (l.getD i 0) l (l.length : Int) (i : Int) (l.length : Int) ((0 : Nat) : Int)))) := by
      rw [i_NetOk_l0_eq, cnd_t (by omega), if_pos (inN hi), if_neg (by omega), if_neg (by omega), sh1 (by omega), bit_and _ (by omega), gN]; rfl
    rw [e]
    by_cases a1 : l.getD i 0 < 0
    · rw [cnd_t a1]; exact Tells.no fun h => by have := (h i (Nat.le_refl i) hi).1.1; omega
    rw [cnd_f a1]
    by_cases a2 : 2 ^ l.length ≤ l.getD i 0
    · rw [cnd_t a2]; exact Tells.no fun h => by have := (h i (Nat.le_refl i) hi).1.2.1; omega
    rw [cnd_f a2]
    by_cases a3 : bt (l.getD i 0) i = 1
    · rw [beq_t a3]; exact Tells.no fun h => by have := (h i (Nat.le_refl i) hi).1.2.2; omega
    rw [beq_f a3]
    refine (inet_inner l hn i hi _ _ ih 0 (by omega)).iff ⟨fun h k h1 h2 => ?_, fun h => ⟨fun k _ h2 => (h i (Nat.le_refl i) hi).2 k h2, fun k h1 h2 => h k (by omega) h2⟩⟩
    by_cases he : k = i
    · subst he
      exact ⟨⟨by omega, by omega, by have := bt01 (l.getD k 0) k; omega⟩, fun m hm => h.1 m (by omega) hm⟩
    · exact h.2 k (by omega) h2
theorem inet (l : List Int) : i_NetOk_f l = some (decide (NetP l)) := by
  apply Tells.val
  rw [i_NetOk_f_eq]
  by_cases h1 : (l.length : Int) < 1
  · rw [cnd_t h1]; exact Tells.no fun h => by have := h.lo; omega
  rw [cnd_f h1]
  by_cases h2 : 6 < (l.length : Int)
  · rw [cnd_t h2]; exact Tells.no fun h => by have := h.hi; omega
  rw [cnd_f h2]
  refine (inet_outer l (by omega) 0 (by omega)).iff ⟨fun h => ?_, fun h => ?_⟩
  · exact ⟨by omega, by omega, fun i a => ⟨(h i (by omega) a).1.1, (h i (by omega) a).1.2.1⟩, fun i a k b => (h i (by omega) a).2 k b, fun i a => (h i (by omega) a).1.2.2⟩
  · exact fun i _ a => ⟨⟨(h.rng i a).1, (h.rng i a).2, h.self i a⟩, fun m b => h.sym i a m b⟩
/-! the reference -/
theorem snet_inner (l : List Int) (hn : l.length ≤ 6) (hr : ∀ i, i < l.length → 0 ≤ l.getD i 0 ∧ l.getD i 0 < 2 ^ l.length) (i : Nat) (hi : i < l.length) (Q : Prop)
    (hnext : Tells (s_NetOk_l2 l ((i + 1 : Nat) : Int)) Q) : ∀ j, j ≤ l.length → Tells (s_NetOk_l3 l (i : Int) (j : Int)) ((∀ k, j ≤ k → k < l.length → bt (l.getD i 0) k = bt (l.getD k 0) i ∧ (k = i → bt (l.getD i 0) k ≠ 1)) ∧ Q) := by
  refine advN ?_ fun j hj ih => ?_
  · refine (Tells.eq ?_ hnext).iff ⟨fun h => ⟨fun k h1 h2 => by omega, h⟩, fun h => h.2⟩
    rw [s_NetOk_l3_eq, cnd_f (by omega), w1 hi (by omega)]
  · have e : s_NetOk_l3 l (i : Int) (j : Int) = cond (bt (l.getD i 0) j != bt (l.getD j 0) i) (some false) (cond ((j : Int) == (i : Int)) (cond (bt (l.getD i 0) j == 1) (some false) (s_NetOk_l3 l (i : Int) ((j + 1 : Nat) : Int))) (s_NetOk_l3 l (i : Int) ((j + 1 : Nat) : Int))) := by
      rw [s_NetOk_l3_eq, cnd_t (by omega), if_pos (inN hi), if_neg (by omega), if_pos (inN hj), if_neg (by omega), if_pos (inN hi), if_neg (by omega), gN, gN, bit_mod (hr i hi).1 (by omega), bit_mod (hr j hj).1 (by omega), w1 hj (by omega)]
    rw [e]
    by_cases c : bt (l.getD i 0) j = bt (l.getD j 0) i
    · rw [bne_f c]
      by_cases d : j = i
      · rw [beq_t (by omega)]
        by_cases f : bt (l.getD i 0) j = 1
        · rw [beq_t f]; exact Tells.no fun h => (h.1 j (Nat.le_refl j) hj).2 d f
        · rw [beq_f f]
          refine ih.iff ⟨fun h => ⟨fun k h1 h2 => ?_, h.2⟩, fun h => ⟨fun k h1 h2 => h.1 k (by omega) h2, h.2⟩⟩
          by_cases he : k = j
          · rw [he]; exact ⟨c, fun _ => f⟩
          · exact h.1 k (by omega) h2
      · rw [beq_f (by omega)]
        refine ih.iff ⟨fun h => ⟨fun k h1 h2 => ?_, h.2⟩, fun h => ⟨fun k h1 h2 => h.1 k (by omega) h2, h.2⟩⟩
        by_cases he : k = j
        · rw [he]; exact ⟨c, fun hh => absurd hh d⟩
        · exact h.1 k (by omega) h2
    · rw [bne_t c]; exact Tells.no fun h => c (h.1 j (Nat.le_refl j) hj).1
theorem snet_outer (l : List Int) (hn : l.length ≤ 6) (hr : ∀ i, i < l.length → 0 ≤ l.getD i 0 ∧ l.getD i 0 < 2 ^ l.length) : ∀ i, i ≤ l.length → Tells (s_NetOk_l2 l (i : Int)) (∀ k, i ≤ k → k < l.length → bt (l.getD k 0) k = 0 ∧ ∀ m, m < l.length → bt (l.getD k 0) m = bt (l.getD m 0) k) := by
  refine advN ?_ fun i hi ih => ?_
  · refine Tells.eq ?_ (Tells.yes fun k h1 h2 => by omega)
    rw [s_NetOk_l2_eq, cnd_f (by omega)]
  · rw [s_NetOk_l2_eq, cnd_t (by omega)]
    refine (snet_inner l hn hr i hi _ ih 0 (by omega)).iff ⟨fun h k h1 h2 => ?_, fun h => ⟨fun k _ h2 => ⟨(h i (Nat.le_refl i) hi).2 k h2, fun he => ?_⟩, fun k h1 h2 => h k (by omega) h2⟩⟩
    · by_cases he : k = i
      · subst he
        exact ⟨by have := bt01 (l.getD k 0) k; have := (h.1 k (by omega) hi).2 rfl; omega, fun m hm => (h.1 m (by omega) hm).1⟩
      · exact h.2 k (by omega) h2
    · subst he
      have := (h k (Nat.le_refl k) hi).1
      omega
theorem snet_rng (l : List Int) (hn : l.length ≤ 6) (Q : Prop) (hj : (∀ i, i < l.length → 0 ≤ l.getD i 0 ∧ l.getD i 0 < 2 ^ l.length) → Tells (s_NetOk_j1 l) Q) :
    ∀ i, i ≤ l.length → (∀ k, k < i → 0 ≤ l.getD k 0 ∧ l.getD k 0 < 2 ^ l.length) → Tells (s_NetOk_l0 l (i : Int)) ((∀ k, i ≤ k → k < l.length → 0 ≤ l.getD k 0 ∧ l.getD k 0 < 2 ^ l.length) ∧ Q) := by
  refine advN ?_ fun i hi ih => ?_
  · intro hp
    refine (Tells.eq ?_ (hj hp)).iff ⟨fun h => ⟨fun k h1 h2 => by omega, h⟩, fun h => h.2⟩
    rw [s_NetOk_l0_eq, cnd_f (by omega)]
  · intro hp
    have hpow := pow6 hn
    have e : s_NetOk_l0 l (i : Int) = cond (!decide (0 ≤ l.getD i 0 ∧ l.getD i 0 ≤ 2 ^ l.length - 1)) (some false) (s_NetOk_l0 l ((i + 1 : Nat) : Int)) := by
      rw [s_NetOk_l0_eq, cnd_t (by omega), if_pos (inN hi), if_neg (by omega), sh1 (by omega), gN, wsub (by omega) (by omega), l1In_val, Option.bind_some, w1 hi (by omega)]
    rw [e]
    by_cases c : 0 ≤ l.getD i 0 ∧ l.getD i 0 ≤ 2 ^ l.length - 1
    · rw [decide_eq_true c]
      refine (ih fun k hk => ?_).iff ⟨fun h => ⟨fun k h1 h2 => ?_, h.2⟩, fun h => ⟨fun k h1 h2 => h.1 k (by omega) h2, h.2⟩⟩
      · by_cases he : k = i
        · subst he; omega
        · exact hp k (by omega)
      · by_cases he : k = i
        · subst he; omega
        · exact h.1 k (by omega) h2
    · rw [decide_eq_false c]
      exact Tells.no fun h => c (by have := h.1 i (Nat.le_refl i) hi; omega)
theorem snet (l : List Int) : s_NetOk_f l = some (decide (NetP l)) := by
  apply Tells.val
  rw [s_NetOk_f_eq, l1In_val, Option.bind_some]
  by_cases h1 : 1 ≤ (l.length : Int) ∧ (l.length : Int) ≤ 6
  · rw [decide_eq_true h1]
    refine (snet_rng l (by omega) (∀ k, k < l.length → bt (l.getD k 0) k = 0 ∧ ∀ m, m < l.length → bt (l.getD k 0) m = bt (l.getD m 0) k) (fun hr => ?_) 0 (by omega) (fun k hk => by omega)).iff ⟨fun h => ?_, fun h => ?_⟩
    · rw [s_NetOk_j1_eq]
      exact (snet_outer l (by omega) hr 0 (by omega)).iff ⟨fun h k => h k (by omega), fun h k _ => h k⟩
    · exact ⟨by omega, by omega, fun i a => h.1 i (by omega) a, fun i a k b => (h.2 i a).2 k b, fun i a => (h.2 i a).1⟩
    · exact ⟨fun k _ => h.rng k, fun k a => ⟨h.self k a, fun m b => h.sym k a m b⟩⟩
  · rw [decide_eq_false h1]
    exact Tells.no fun h => h1 (by have := h.lo; have := h.hi; omega)
/-! states -/
def StP (k : Int) (s : List Int) : Prop := (∀ i, i < s.length → 0 ≤ s.getD i 0 ∧ s.getD i 0 < k) ∧ 3 ≤ k ∧ k ≤ 5 ∧ 1 ≤ s.length ∧ s.length ≤ 6
instance (k : Int) (s : List Int) : Decidable (StP k s) := inferInstanceAs (Decidable (_ ∧ _))
theorem ist (k : Int) (s : List Int) (hs : s.length ≤ 4611686018427387904) : i_StateOk_f (k, s) = some (decide (StP k s)) := by
  apply Tells.val
  rw [i_StateOk_f_eq]
  have hj : Tells (i_StateOk_j1 k s) (3 ≤ k ∧ k ≤ 5 ∧ 1 ≤ s.length ∧ s.length ≤ 6) := by
    rw [i_StateOk_j1_eq]
    by_cases a : 3 ≤ k
    · rw [cnd_t a]
      by_cases b : k ≤ 5
      · rw [cnd_t b]
        by_cases c : 1 ≤ (s.length : Int)
        · rw [cnd_t c]
          exact Tells.dec.iff ⟨fun h => ⟨a, b, by omega, by omega⟩, fun h => by omega⟩
        · rw [cnd_f c]; exact Tells.no fun h => by omega
      · rw [cnd_f b]; exact Tells.no fun h => by omega
    · rw [cnd_f a]; exact Tells.no fun h => by omega
  have main : ∀ i, i ≤ s.length → Tells (i_StateOk_l0 k s s (s.length : Int) (i : Int)) ((∀ j, i ≤ j → j < s.length → 0 ≤ s.getD j 0 ∧ s.getD j 0 < k) ∧ (3 ≤ k ∧ k ≤ 5 ∧ 1 ≤ s.length ∧ s.length ≤ 6)) := by
    refine advN ?_ fun i hi ih => ?_
    · refine (Tells.eq ?_ hj).iff ⟨fun h => ⟨fun j h1 h2 => by omega, h⟩, fun h => h.2⟩
      rw [i_StateOk_l0_eq, cnd_f (by omega)]
    · have e : i_StateOk_l0 k s s (s.length : Int) (i : Int) = cond (decide (s.getD i 0 < 0)) (some false) (cond (decide (k ≤ s.getD i 0)) (some false) (i_StateOk_l0 k s s (s.length : Int) ((i + 1 : Nat) : Int))) := by
        rw [i_StateOk_l0_eq, cnd_t (by omega), if_pos (inN hi), gN, w1 hi (by omega)]
      rw [e]
      by_cases a : s.getD i 0 < 0
      · rw [cnd_t a]; exact Tells.no fun h => by have := h.1 i (Nat.le_refl i) hi; omega
      rw [cnd_f a]
      by_cases b : k ≤ s.getD i 0
      · rw [cnd_t b]; exact Tells.no fun h => by have := h.1 i (Nat.le_refl i) hi; omega
      rw [cnd_f b]
      refine ih.iff ⟨fun h => ⟨fun j h1 h2 => ?_, h.2⟩, fun h => ⟨fun j h1 h2 => h.1 j (by omega) h2, h.2⟩⟩
      by_cases he : j = i
      · subst he; omega
      · exact h.1 j (by omega) h2
  exact (main 0 (by omega)).iff ⟨fun h => ⟨fun i a => h.1 i (by omega) a, h.2⟩, fun h => ⟨fun i _ a => h.1 i a, h.2⟩⟩
theorem sst (k : Int) (s : List Int) (hs : s.length ≤ 4611686018427387904) : s_StateOk_f (k, s) = some (decide (StP k s)) := by
  apply Tells.val
  rw [s_StateOk_f_eq]
  have hj : Tells (s_StateOk_j1 k s) (3 ≤ k ∧ k ≤ 5 ∧ 1 ≤ s.length ∧ s.length ≤ 6) := by
    rw [s_StateOk_j1_eq, l1In_val, l1In_val, Option.bind_some, Option.bind_some]
    by_cases a : 3 ≤ k ∧ k ≤ 5
    · rw [decide_eq_true a]
      exact Tells.dec.iff ⟨fun h => ⟨a.1, a.2, by omega, by omega⟩, fun h => by omega⟩
    · rw [decide_eq_false a]; exact Tells.no fun h => a ⟨h.1, h.2.1⟩
  have main : ∀ i, i ≤ s.length → Tells (s_StateOk_l0 k s (i : Int)) ((∀ j, i ≤ j → j < s.length → 0 ≤ s.getD j 0 ∧ s.getD j 0 < k) ∧ (3 ≤ k ∧ k ≤ 5 ∧ 1 ≤ s.length ∧ s.length ≤ 6)) := by
    refine advN ?_ fun i hi ih => ?_
    · refine (Tells.eq ?_ hj).iff ⟨fun h => ⟨fun j h1 h2 => by omega, h⟩, fun h => h.2⟩
      rw [s_StateOk_l0_eq, cnd_f (by omega)]
    · have e : s_StateOk_l0 k s (i : Int) = cond (decide (s.getD i 0 < 0)) (some false) (cond (decide (k ≤ s.getD i 0)) (some false) (s_StateOk_l0 k s ((i + 1 : Nat) : Int))) := by
        rw [s_StateOk_l0_eq, cnd_t (by omega), if_pos (inN hi), if_pos (inN hi), gN, w1 hi (by omega)]
      rw [e]
      by_cases a : s.getD i 0 < 0
      · rw [cnd_t a]; exact Tells.no fun h => by have := h.1 i (Nat.le_refl i) hi; omega
      rw [cnd_f a]
      by_cases b : k ≤ s.getD i 0
      · rw [cnd_t b]; exact Tells.no fun h => by have := h.1 i (Nat.le_refl i) hi; omega
      rw [cnd_f b]
      refine ih.iff ⟨fun h => ⟨fun j h1 h2 => ?_, h.2⟩, fun h => ⟨fun j h1 h2 => h.1 j (by omega) h2, h.2⟩⟩
      by_cases he : j = i
      · subst he; omega
      · exact h.1 j (by omega) h2
  exact (main 0 (by omega)).iff ⟨fun h => ⟨fun i a => h.1 i (by omega) a, h.2⟩, fun h => ⟨fun i _ a => h.1 i a, h.2⟩⟩
/-! places -/
def PlP (n : List Int) (k : Int) (s : List Int) : Prop := NetP n ∧ StP k s ∧ n.length = s.length
instance (n : List Int) (k : Int) (s : List Int) : Decidable (PlP n k s) := inferInstanceAs (Decidable (_ ∧ _))
theorem iasked (n : List Int) (k : Int) (s : List Int) (hs : s.length ≤ 4611686018427387904) : i_asked_f (n, k, s) = some (decide (PlP n k s)) := by
  apply Tells.val
  rw [i_asked_f_eq, inet, Option.bind_some]
  by_cases a : NetP n
  · rw [decide_eq_true a, ist k s hs]
    by_cases b : StP k s
    · rw [decide_eq_true b]
      exact Tells.now.iff ⟨fun h => ⟨a, b, by have := eq_of_beq h; omega⟩, fun h => by have := h.2.2; simp [this]⟩
    · rw [decide_eq_false b]; exact Tells.no fun h => b h.2.1
  · rw [decide_eq_false a]; exact Tells.no fun h => a h.1
theorem sl3 (n : List Int) (k : Int) (s : List Int) (hs : s.length ≤ 4611686018427387904) : s_l3Ok_f (n, k, s) = some (decide (PlP n k s)) := by
  apply Tells.val
  rw [s_l3Ok_f_eq, snet, Option.bind_some]
  by_cases a : NetP n
  · rw [decide_eq_true a, sst k s hs]
    by_cases b : StP k s
    · rw [decide_eq_true b]
      exact Tells.now.iff ⟨fun h => ⟨a, b, by have := eq_of_beq h; omega⟩, fun h => by have := h.2.2; simp [this]⟩
    · rw [decide_eq_false b]; exact Tells.no fun h => b h.2.1
  · rw [decide_eq_false a]; exact Tells.no fun h => a h.1
theorem ipl (n : List Int) (k : Int) (s : List Int) (hs : s.length ≤ 4611686018427387904) : i_PlaceOk_f (n, k, s) = some (decide (PlP n k s)) := by
  rw [i_PlaceOk_f_eq, iasked n k s hs]; rfl
theorem spl (n : List Int) (k : Int) (s : List Int) (hs : s.length ≤ 4611686018427387904) : s_PlaceOk_f (n, k, s) = some (decide (PlP n k s)) := by
  rw [s_PlaceOk_f_eq, sl3 n k s hs]; rfl
end FN
/-! Square windings: outside the grids, and with bad states. -/
namespace FN
open Go
abbrev gridP (r c : Int) : Prop := 1 ≤ r ∧ 1 ≤ c ∧ r ≤ 6 ∧ c ≤ 6 ∧ r * c ≤ 6
theorem cases6 {r : Int} (h1 : 1 ≤ r) (h6 : r ≤ 6) : r = 1 ∨ r = 2 ∨ r = 3 ∨ r = 4 ∨ r = 5 ∨ r = 6 := by omega
theorem grid_cases {Q : Int → Int → Nat → Prop} (h11 : Q 1 1 1) (h12 : Q 1 2 2) (h13 : Q 1 3 3) (h14 : Q 1 4 4) (h15 : Q 1 5 5) (h16 : Q 1 6 6) (h21 : Q 2 1 2) (h22 : Q 2 2 4) (h23 : Q 2 3 6) (h31 : Q 3 1 3) (h32 : Q 3 2 6) (h41 : Q 4 1 4) (h51 : Q 5 1 5) (h61 : Q 6 1 6)
    {r c : Int} (h : gridP r c) : Q r c (r * c).toNat := by
  obtain ⟨h1, h2, h3, h4, h5⟩ := h
  rcases cases6 h1 h3 with rfl | rfl | rfl | rfl | rfl | rfl <;> rcases cases6 h2 h4 with rfl | rfl | rfl | rfl | rfl | rfl <;> first | assumption | omega
theorem wrap_small {r c : Int} (h1 : 1 ≤ r) (h2 : 1 ≤ c) (h3 : r ≤ 6) (h4 : c ≤ 6) : IntKind.i64.wrap (r * c) = r * c := by
  have a : 0 ≤ r * c := Int.mul_nonneg (by omega) (by omega)
  have b : r * c ≤ 6 * 6 := Int.mul_le_mul h3 h4 (by omega) (by omega)
  exact i64w (by omega) (by omega)
theorem igrid (r c : Int) : i_gridOk_f (r, c) = some (decide (gridP r c)) := by
  rw [i_gridOk_f_eq]
  by_cases h1 : 1 ≤ r
  · by_cases h2 : 1 ≤ c
    · by_cases h3 : r ≤ 6
      · by_cases h4 : c ≤ 6
        · rw [wrap_small h1 h2 h3 h4, decide_eq_true h1, decide_eq_true h2, decide_eq_true h3, decide_eq_true h4]
          simp only [cond_true]
          congr 1
          rw [decide_eq_decide]
          exact ⟨fun h => ⟨h1, h2, h3, h4, h⟩, fun h => h.2.2.2.2⟩
        · rw [decide_eq_true h1, decide_eq_true h2, decide_eq_true h3, decide_eq_false h4, decide_eq_false (show ¬ gridP r c from fun h => h4 h.2.2.2.1)]; rfl
      · rw [decide_eq_true h1, decide_eq_true h2, decide_eq_false h3, decide_eq_false (show ¬ gridP r c from fun h => h3 h.2.2.1)]; rfl
    · rw [decide_eq_true h1, decide_eq_false h2, decide_eq_false (show ¬ gridP r c from fun h => h2 h.2.1)]; rfl
  · rw [decide_eq_false h1, decide_eq_false (show ¬ gridP r c from fun h => h1 h.1)]; rfl
theorem sgrid (r c : Int) : s_l12Ok_f (r, c) = some (decide (gridP r c)) := by
  rw [s_l12Ok_f_eq, s_l1In_f_eq]
  by_cases h1 : 1 ≤ r
  · by_cases h3 : r ≤ 6
    · rw [decide_eq_true h1, decide_eq_true h3, cond_true, Option.bind_some, cond_true, s_l1In_f_eq]
      by_cases h2 : 1 ≤ c
      · by_cases h4 : c ≤ 6
        · rw [wrap_small h1 h2 h3 h4, decide_eq_true h2, decide_eq_true h4]
          simp only [cond_true, Option.bind_some]
          congr 1
          rw [decide_eq_decide]
          exact ⟨fun h => ⟨h1, h2, h3, h4, h⟩, fun h => h.2.2.2.2⟩
        · rw [decide_eq_true h2, decide_eq_false h4, decide_eq_false (show ¬ gridP r c from fun h => h4 h.2.2.2.1)]; rfl
      · rw [decide_eq_false h2, decide_eq_false (show ¬ gridP r c from fun h => h2 h.2.1)]; rfl
    · rw [decide_eq_true h1, decide_eq_false h3, decide_eq_false (show ¬ gridP r c from fun h => h3 h.2.2.1)]; rfl
  · rw [decide_eq_false h1, decide_eq_false (show ¬ gridP r c from fun h => h1 h.1)]; rfl
/-- No grid: no windings. -/
theorem sq_no {r c : Int} (l : List Int) (h : ¬ gridP r c) : i_GridNet_f (r, c) = some [] ∧ i_SquareWindings_f (r, c, l) = some [] ∧ s_SquareWindings_f (r, c, l) = some [] := by
  have e1 : i_GridNet_f (r, c) = some [] := by rw [i_GridNet_f_eq, igrid, decide_eq_false h]; rfl
  have e2 : s_GridNet_f (r, c) = some [] := by rw [s_GridNet_f_eq, s_GridNet_l0_eq, sgrid, decide_eq_false h]; rfl
  have e3 : s_SquareTours_f (r, c) = some [] := by rw [s_SquareTours_f_eq, s_SquareTours_l0_eq, sgrid, decide_eq_false h]; rfl
  refine ⟨e1, ?_, ?_⟩
  · rw [i_SquareWindings_f_eq, e1]; rfl
  · rw [s_SquareWindings_f_eq, e2, e3, Option.bind_some, Option.bind_some, s_SquareWindings_l0_eq]; rfl
theorem mem_sts : ∀ l : List Int, (∀ i, i < l.length → 0 ≤ l.getD i 0 ∧ l.getD i 0 < 3) → l ∈ sts l.length
  | [], _ => by simp [sts]
  | x :: l, h => by
    have h0 := h 0 (by simp)
    simp at h0
    have ih := mem_sts l fun i hi => by
      have := h (i + 1) (by simpa using hi)
      simpa using this
    simp only [List.length_cons, sts, List.mem_flatMap]
    refine ⟨l, ih, ?_⟩
    have : x = 0 ∨ x = 1 ∨ x = 2 := by omega
    rcases this with rfl | rfl | rfl <;> simp
def nets (r c : Int) (n : Nat) : Bool := match i_GridNet_f_c 120 (r, c), s_GridNet_f_c 120 (r, c), s_SquareTours_f_c 120 (r, c) with
  | some a, some b, some _ => a == b && decide (a.length = n) && decide (0 < n) && decide (n ≤ 6) && i_NetOk_f_c 120 a == some true
  | _, _, _ => false
theorem nets_all {r c : Int} (h : gridP r c) : nets r c (r * c).toNat = true := by
  refine grid_cases (Q := fun r c n => nets r c n = true) ?_ ?_ ?_ ?_ ?_ ?_ ?_ ?_ ?_ ?_ ?_ ?_ ?_ ?_ h <;> kernel_rfl
theorem chk_all {r c : Int} (h : gridP r c) : chkG r c (r * c).toNat = true :=
  grid_cases (Q := fun r c n => chkG r c n = true) g11 g12 g13 g14 g15 g16 g21 g22 g23 g31 g32 g41 g51 g61 h
/-- A grid's net. -/
theorem nets_val {r c : Int} (h : gridP r c) : ∃ net t, i_GridNet_f (r, c) = some net ∧ s_GridNet_f (r, c) = some net ∧ s_SquareTours_f (r, c) = some t ∧ net.length = (r * c).toNat ∧ 0 < net.length ∧ net.length ≤ 6 ∧ NetP net ∧
    ∀ l, PlP net 3 l → ∃ a, i_SquareWindings_f (r, c, l) = some a ∧ s_SquareWindings_f (r, c, l) = some a ∧ a.length ≤ 10 ∧ w_FnSquareWindings_l0 r c l a net 0 true 0 = some true := by
  have h1 := nets_all h
  have h2 := chk_all h
  unfold nets at h1
  split at h1
  · rename_i a b t ea eb et
    simp only [Bool.and_eq_true, decide_eq_true_eq] at h1
    obtain ⟨⟨⟨⟨h3, h4⟩, h5⟩, h6⟩, h7⟩ := h1
    have h3 : a = b := by simpa using h3
    subst h3
    have h7 : i_NetOk_f_c 120 a = some true := by simpa using h7
    have h8 : NetP a := by
      have := i_NetOk_f_c_le 120 a true h7
      rw [inet] at this
      exact of_decide_eq_true (Option.some.inj this)
    refine ⟨a, t, i_GridNet_f_c_le 120 (r, c) a ea, s_GridNet_f_c_le 120 (r, c) a eb, s_SquareTours_f_c_le 120 (r, c) t et, h4, by omega, by omega, h8, fun l hl => ?_⟩
    unfold chkG at h2
    rw [ea] at h2
    simp only [Bool.and_eq_true, decide_eq_true_eq, List.all_eq_true] at h2
    have hm : l ∈ sts (r * c).toNat := by
      rw [← h4, hl.2.2]
      exact mem_sts l hl.2.1.1
    have h8 := h2.2 l hm
    unfold chk at h8
    split at h8
    · rename_i x y ex ey
      simp only [Bool.and_eq_true, decide_eq_true_eq] at h8
      obtain ⟨⟨h9, h10⟩, h11⟩ := h8
      have h9 : x = y := by simpa using h9
      subst h9
      exact ⟨x, i_SquareWindings_f_c_le 120 (r, c, l) x ex, s_SquareWindings_f_c_le 120 (r, c, l) x ey, h10, w_FnSquareWindings_l0_c_le 120 r c l x a 0 true 0 true (by simpa using h11)⟩
    · cases h8
  · cases h1
/-- A bad state: no windings. -/
theorem sq_bad {r c : Int} {l net : List Int} (h : gridP r c) (hl : l.length ≤ 4611686018427387904) (hn : i_GridNet_f (r, c) = some net) (hb : ¬ PlP net 3 l) : i_SquareWindings_f (r, c, l) = some [] ∧ s_SquareWindings_f (r, c, l) = some [] := by
  obtain ⟨net', t, e1, e2, e3, e4, e5, e6, _, _⟩ := nets_val h
  have : net' = net := Option.some.inj (e1.symm.trans hn)
  subst this
  have hne : List.isEmpty net' = false := by cases net' with
    | nil => simp at e5
    | cons => rfl
  constructor
  · rw [i_SquareWindings_f_eq, e1, Option.bind_some, hne, cond_false, if_pos ⟨rfl, by omega⟩, iasked net' 3 l hl, decide_eq_false hb]; rfl
  · rw [s_SquareWindings_f_eq, e2, e3, Option.bind_some, Option.bind_some, s_SquareWindings_l0_eq, sl3 net' 3 l hl, decide_eq_false hb, Option.bind_some, cond_false]
    cases decide (0 < (t.length : Int)) <;> rfl
/-- Both are alike, and short. -/
theorem sq_val (r c : Int) (l : List Int) (hl : l.length ≤ 4611686018427387904) : ∃ a, i_SquareWindings_f (r, c, l) = some a ∧ s_SquareWindings_f (r, c, l) = some a ∧ a.length ≤ 10 := by
  by_cases h : gridP r c
  · obtain ⟨net, t, e1, _, _, _, _, _, _, e7⟩ := nets_val h
    by_cases hp : PlP net 3 l
    · obtain ⟨a, h1, h2, h3, _⟩ := e7 l hp
      exact ⟨a, h1, h2, h3⟩
    · obtain ⟨h1, h2⟩ := sq_bad h hl e1 hp
      exact ⟨[], h1, h2, by simp⟩
  · obtain ⟨_, h1, h2⟩ := sq_no l h
    exact ⟨[], h1, h2, by simp⟩
end FN
/-! Copies, comparisons, sizes. -/
namespace FN
open Go
theorem set_copy {α : Type} (a b : List α) (i : Nat) (d : α) (h : i < a.length) (hb : b.length = a.length) (he : ∀ j, j < i → b[j]? = a[j]?) : ∀ j, j < i + 1 → (b.set i (a.getD i d))[j]? = a[j]? := by
  intro j hj
  by_cases e : j = i
  · subst e
    rw [List.getElem?_set_self (by omega), List.getD_eq_getElem?_getD, List.getElem?_eq_getElem h]; rfl
  · rw [List.getElem?_set_ne (Ne.symm e)]; exact he j (by omega)
theorem toIntS_loop (a : List Int) (ha : a.length ≤ 1048576) : ∀ i, i ≤ a.length → ∀ b : List Int, b.length = a.length → (∀ j, j < i → b[j]? = a[j]?) → w_toIntS_l0 a (i : Int) b = some a := by
  refine advN ?_ fun i hi ih => ?_
  · intro b hb he
    rw [w_toIntS_l0_eq, cnd_f (by omega)]
    congr 1
    apply List.ext_getElem?
    intro j
    rcases Nat.lt_or_ge j a.length with h | h
    · exact he j h
    · rw [List.getElem?_eq_none (by omega), List.getElem?_eq_none (by omega)]
  · intro b hb he
    rw [w_toIntS_l0_eq, cnd_t (by omega), if_pos (inN hi), if_pos ⟨by omega, by omega⟩, w1 hi (by omega), gN, Int.toNat_natCast]
    exact ih _ (by simp [hb]) (set_copy a b i 0 hi hb he)
theorem toIntS_val (a : List Int) (ha : a.length ≤ 1048576) : w_toIntS_f a = some a := by
  rw [w_toIntS_f_eq, if_pos ⟨by omega, by omega, by omega⟩]
  exact toIntS_loop a ha 0 (by omega) _ (by simp) (fun j hj => by omega)
theorem eqIntS_loop (a b : List Int) (ha : a.length ≤ 4611686018427387904) (hb : a.length = b.length) : ∀ i, i ≤ a.length → Tells (w_eqIntS_l0 a b (i : Int)) (∀ j, i ≤ j → j < a.length → a.getD j 0 = b.getD j 0) := by
  refine advN ?_ fun i hi ih => ?_
  · rw [w_eqIntS_l0_eq, cnd_f (by omega)]
    exact Tells.yes fun j h1 h2 => by omega
  · rw [w_eqIntS_l0_eq, cnd_t (by omega), if_pos (inN hi), if_pos ⟨by omega, by omega⟩, gN, gN, w1 hi (by omega)]
    by_cases c : a.getD i 0 = b.getD i 0
    · rw [bne_f c]
      refine ih.iff ⟨fun h j h1 h2 => ?_, fun h j h1 h2 => h j (by omega) h2⟩
      by_cases e : j = i
      · rw [e]; exact c
      · exact h j (by omega) h2
    · rw [bne_t c]; exact Tells.no fun h => c (h i (Nat.le_refl i) hi)
theorem ext_getD (a b : List Int) (h : a.length = b.length) (he : ∀ j, j < a.length → a.getD j 0 = b.getD j 0) : a = b := by
  apply List.ext_getElem h
  intro i h1 h2
  have := he i h1
  simpa [List.getD_eq_getElem?_getD, List.getElem?_eq_getElem h1, List.getElem?_eq_getElem h2] using this
theorem eqIntS_val (a b : List Int) (ha : a.length ≤ 4611686018427387904) (_hb' : b.length ≤ 4611686018427387904) : w_eqIntS_f (a, b) = some (decide (a = b)) := by
  apply Tells.val
  rw [w_eqIntS_f_eq]
  by_cases h : a.length = b.length
  · rw [bne_f (by omega)]
    exact (eqIntS_loop a b ha h 0 (by omega)).iff ⟨fun k => ext_getD a b h fun j hj => k j (by omega) hj, fun k j _ _ => by rw [k]⟩
  · rw [bne_t (by omega)]; exact Tells.no fun k => h (by rw [k])
end FN
/-! Marks that are held. -/
namespace FN
open Go
theorem markL_len : ∀ (l : List Int) (k : Int), (markL k l).length = l.length
  | [], _ => rfl
  | _ :: l, k => by simp [markL, markL_len l]
theorem markL_get : ∀ (l : List Int) (k : Int) (i : Nat), i < l.length → (markL k l).getD i 0 = k + i
  | _ :: l, k, 0, _ => by simp [markL]
  | _ :: l, k, i + 1, h => by
    have := markL_get l (k + 1) i (by simpa using h)
    simp only [markL, List.getD_cons_succ, this]
    omega
theorem held_loop (l : List Int) (k : Int) (hk : 0 ≤ k) (hk' : k + l.length ≤ 4611686018427387904) : ∀ i, i ≤ l.length → w_heldIntS_l0 (markL k l) (k + i) (i : Int) = some (k + l.length) := by
  refine advN ?_ fun i hi ih => ?_
  · rw [w_heldIntS_l0_eq, markL_len, cnd_f (by omega)]
  · rw [w_heldIntS_l0_eq, markL_len, cnd_t (by omega), if_pos (inN hi), gN, markL_get l k i hi, bne_f rfl, w1 hi (by omega), i64w (by omega) (by omega), show k + (i : Int) + 1 = k + ((i + 1 : Nat) : Int) by omega]
    exact ih
theorem held_val (l : List Int) (k : Int) (hk : 0 ≤ k) (hk' : k + l.length ≤ 4611686018427387904) : w_heldIntS_f (markL k l, k) = some (k + l.length) := by
  rw [w_heldIntS_f_eq]
  have := held_loop l k hk hk' 0 (by omega)
  simpa using this
end FN
/-! The reader of a code. -/
namespace FN
open Go
theorem pick_ok {l : List Int} (hl : Bytes l) (hn : l.length ≤ 2000) {p n : Int} (hp : 0 ≤ p) (hp' : p ≤ 1000000000) (h1 : 1 ≤ n) (hn' : n ≤ 1000000000) : ∃ v : Int, r_pick_f (l, p, n) = some (v, p + 1) ∧ 0 ≤ v ∧ v < n := by
  rw [r_pick_f_eq]
  have e1 : IntKind.i64.wrap (p + 1) = p + 1 := i64w (by omega) (by omega)
  have e2 : IntKind.i64.wrap (p + 1 - 1) = p := by rw [i64w (n := p + 1 - 1) (by omega) (by omega)]; omega
  simp only [e1, e2, and_self, if_true]
  rw [cnd_f (by omega)]
  by_cases hz : l.length = 0
  · rw [beq_t (by omega)]
    exact ⟨0, rfl, by omega, by omega⟩
  rw [beq_f (by omega)]
  by_cases hlt : p < (l.length : Int)
  · rw [cnd_t hlt, if_pos ⟨hp, hlt⟩, if_neg (by omega)]
    have hb := hl.get p.toNat
    rw [i64w (n := l.getD p.toNat 0) (by omega) (by omega)]
    exact ⟨_, rfl, Int.tmod_nonneg _ hb.1, Int.tmod_lt_of_pos _ (by omega)⟩
  · rw [cnd_f hlt, if_neg (by omega)]
    have a0 : 0 ≤ Int.tmod p (l.length : Int) := Int.tmod_nonneg _ hp
    have a1 : Int.tmod p (l.length : Int) < (l.length : Int) := Int.tmod_lt_of_pos _ (by omega)
    rw [if_pos ⟨a0, a1⟩, if_neg (by omega)]
    have e3 : IntKind.i64.wrap (IntKind.i64.wrap (p * 7) + 3) = p * 7 + 3 := by rw [i64w (n := p * 7) (by omega) (by omega), i64w (n := p * 7 + 3) (by omega) (by omega)]
    rw [e3]
    have b0 : 0 ≤ Int.tmod (p * 7 + 3) (l.length : Int) := Int.tmod_nonneg _ (by omega)
    have b1 : Int.tmod (p * 7 + 3) (l.length : Int) < (l.length : Int) := Int.tmod_lt_of_pos _ (by omega)
    rw [if_pos ⟨b0, b1⟩, if_neg (by omega), if_neg (by omega)]
    have c1 := hl.get (Int.tmod p (l.length : Int)).toNat
    have c2 := hl.get (Int.tmod (p * 7 + 3) (l.length : Int)).toNat
    generalize l.getD (Int.tmod p (l.length : Int)).toNat 0 = u at c1 ⊢
    generalize l.getD (Int.tmod (p * 7 + 3) (l.length : Int)).toNat 0 = v at c2 ⊢
    have d0 : 0 ≤ Int.tdiv p (l.length : Int) := Int.tdiv_nonneg hp (by omega)
    have d1 : Int.tdiv p (l.length : Int) ≤ p := Int.tdiv_le_self _ hp
    generalize Int.tdiv p (l.length : Int) = d at d0 d1 ⊢
    rw [i64w (n := u) (by omega) (by omega), i64w (n := v) (by omega) (by omega), i64w (n := d) (by omega) (by omega), i64w (n := u * 131) (by omega) (by omega), i64w (n := v * 1117) (by omega) (by omega), i64w (n := p * 29) (by omega) (by omega), i64w (n := d * 53) (by omega) (by omega), i64w (n := u * 131 + v * 1117) (by omega) (by omega), i64w (n := u * 131 + v * 1117 + p * 29) (by omega) (by omega), i64w (n := u * 131 + v * 1117 + p * 29 + d * 53) (by omega) (by omega)]
    have f0 : 0 ≤ u * 131 + v * 1117 + p * 29 + d * 53 := by omega
    have f1 : u * 131 + v * 1117 + p * 29 + d * 53 < 1000000000000 := by omega
    generalize u * 131 + v * 1117 + p * 29 + d * 53 = x at f0 f1 ⊢
    have g0 : 0 ≤ Int.tdiv x 64 := Int.tdiv_nonneg f0 (by omega)
    have g1 : Int.tdiv x 64 ≤ x := Int.tdiv_le_self _ f0
    rw [i64w (n := Int.tdiv x 64) (by omega) (by omega)]
    exact ⟨_, rfl, Int.tmod_nonneg _ (xor_nn f0 (by omega) g0 (by omega)), Int.tmod_lt_of_pos _ (by omega)⟩
/-- A draw below 1 is 0. -/
theorem pick_low {l : List Int} {p n : Int} (hp : 0 ≤ p) (hp' : p ≤ 1000000000) (h1 : n < 1) : r_pick_f (l, p, n) = some (0, p + 1) := by
  rw [r_pick_f_eq]
  have e1 : IntKind.i64.wrap (p + 1) = p + 1 := i64w (by omega) (by omega)
  simp only [e1, and_self, if_true]
  rw [cnd_t h1]
theorem open_ok {l : List Int} (hl : Bytes l) : ∃ b : List Int, s_l20Open_f l = some (b, 0) ∧ Bytes b ∧ b.length ≤ 2000 := by
  rw [s_l20Open_f_eq]
  by_cases h : 2000 < (l.length : Int)
  · rw [cnd_t h, if_pos (by omega)]
    exact ⟨_, rfl, fun x hx => hl x (List.mem_of_mem_take (List.mem_of_mem_drop hx)), by simp; omega⟩
  · rw [cnd_f h]
    exact ⟨_, rfl, hl, by omega⟩
end FN
/-! What is drawn: nets, states, places. -/
namespace FN
open Go
theorem lenle {a b : Nat} (ha : a ≤ 100) (hb : b ≤ 100) : (a + b) * 8 ≤ 140737488355328 := by omega
theorem path_j {n : Int} (k : Nat) (hk : (k : Int) < n) (hn : n ≤ 6) (ih : ∀ y : List Int, y.length = k + 1 → ∃ l : List Int, s_PathNet_l0 n ((k + 1 : Nat) : Int) y = some l ∧ (l.length : Int) = n) (v : Int) (y : List Int) (hy : y.length = k) :
    ∃ l : List Int, s_PathNet_j1 n (k : Int) v y = some l ∧ (l.length : Int) = n := by
  rw [s_PathNet_j1_eq, w1 (n := k + 1) (by omega) (by omega)]
  by_cases h : ((k + 1 : Nat) : Int) < n
  · rw [cnd_t h, if_neg (by omega), if_pos (lenle (by omega) (by simp))]
    exact ih _ (by simp [hy])
  · rw [cnd_f h, if_pos (lenle (by omega) (by simp))]
    exact ih _ (by simp [hy])
theorem path_loop {n : Nat} (h1 : 1 ≤ n) (hn : n ≤ 6) : ∀ i, i ≤ n → ∀ y : List Int, y.length = i → ∃ l : List Int, s_PathNet_l0 (n : Int) (i : Int) y = some l ∧ (l.length : Int) = n := by
  refine advN ?_ fun i hi ih => ?_
  · intro y hy
    rw [s_PathNet_l0_eq, cnd_f (by omega)]
    exact ⟨y, rfl, by omega⟩
  · intro y hy
    rw [s_PathNet_l0_eq, cnd_t (by omega), l1In_val, Option.bind_some, cnd_t (show (1 : Int) ≤ n ∧ (n : Int) ≤ 6 by omega)]
    by_cases c : (0 : Int) < i
    · rw [cnd_t c, wsub (by omega) (by omega), if_neg (by omega)]
      exact path_j i (by omega) (by omega) ih _ y hy
    · rw [cnd_f c]
      exact path_j i (by omega) (by omega) ih _ y hy
theorem path_ok {n : Nat} (h1 : 1 ≤ n) (hn : n ≤ 6) : ∃ l : List Int, s_PathNet_f (n : Int) = some l ∧ l.length = n := by
  obtain ⟨l, h, hl⟩ := path_loop h1 hn 0 (by omega) [] rfl
  exact ⟨l, by rw [s_PathNet_f_eq]; exact h, by omega⟩
theorem ring_loop {n : Nat} (h1 : 3 ≤ n) (hn : n ≤ 6) : ∀ i, i ≤ n → ∀ y : List Int, y.length = i → ∃ l : List Int, s_RingNet_l0 (n : Int) (i : Int) y = some l ∧ (l.length : Int) = n := by
  refine advN ?_ fun i hi ih => ?_
  · intro y hy
    rw [s_RingNet_l0_eq, cnd_f (by omega)]
    exact ⟨y, rfl, by omega⟩
  · intro y hy
    rw [s_RingNet_l0_eq, cnd_t (by omega), l1In_val, Option.bind_some, cnd_t (show (3 : Int) ≤ n ∧ (n : Int) ≤ 6 by omega), if_neg (by omega), w1 (n := i + 1) (by omega) (by omega)]
    have e : IntKind.i64.wrap ((i : Int) + (n : Int)) = ((i + n : Nat) : Int) := by rw [i64w (by omega) (by omega)]; omega
    have e1 : IntKind.i64.wrap (IntKind.i64.wrap ((i : Int) + (n : Int)) - 1) = ((i + n - 1 : Nat) : Int) := by rw [e, i64w (by omega) (by omega)]; omega
    rw [e1]
    have t1 : ¬ (Int.tmod ((i + 1 : Nat) : Int) n < 0) := by have := Int.tmod_nonneg (n : Int) (show (0 : Int) ≤ ((i + 1 : Nat) : Int) by omega); omega
    have t2 : ¬ (Int.tmod ((i + n - 1 : Nat) : Int) n < 0) := by have := Int.tmod_nonneg (n : Int) (show (0 : Int) ≤ ((i + n - 1 : Nat) : Int) by omega); omega
    rw [if_neg t1, if_neg (by omega), if_neg t2, if_pos (lenle (by omega) (by simp))]
    exact ih _ (by simp [hy])
theorem ring_ok {n : Nat} (h1 : 3 ≤ n) (hn : n ≤ 6) : ∃ l : List Int, s_RingNet_f (n : Int) = some l ∧ l.length = n := by
  obtain ⟨l, h, hl⟩ := ring_loop h1 hn 0 (by omega) [] rfl
  exact ⟨l, by rw [s_RingNet_f_eq]; exact h, by omega⟩
theorem odd0 (l : List Int) (p : Int) : r_odd_f (l, p, 0) = some (false, p) := by
  rw [r_odd_f_eq, cnd_f (by omega)]
  simp
section
variable {l : List Int} (hl : Bytes l) (hn : l.length ≤ 2000)
include hl hn
theorem odd_ok {p n : Int} (hp : 0 ≤ p) (hp' : p ≤ 1000000000) (hn' : n ≤ 1000000000) : ∃ (b : Bool) (q : Int), r_odd_f (l, p, n) = some (b, q) ∧ p ≤ q ∧ q ≤ p + 1 := by
  rw [r_odd_f_eq]
  by_cases h : 0 < n
  · obtain ⟨v, h1, h2, h3⟩ := pick_ok hl hn hp hp' (show 1 ≤ n by omega) hn'
    rw [cnd_t h, h1, Option.bind_some, if_pos ⟨rfl, rfl⟩]
    exact ⟨_, p + 1, rfl, by omega, by omega⟩
  · rw [cnd_f h, if_pos ⟨rfl, rfl⟩]
    exact ⟨_, p, rfl, by omega, by omega⟩
theorem l20Net_loop {n : Nat} (h1 : 1 ≤ n) (h6 : n ≤ 6) : ∀ k : Nat, k ≤ 6 → ∀ (p : Int) (y : List Int), 0 ≤ p → p + 2 * (k : Int) ≤ 900000000 → y.length = n →
    ∃ (z : List Int) (q : Int), s_l20Net_l1 l 0 (n : Int) (k : Int) l p y = some (z, q) ∧ z.length = n ∧ p ≤ q ∧ q ≤ p + 2 * k := by
  intro k
  induction k with
  | zero =>
    intro _ p y hp hp' hy
    rw [s_l20Net_l1_eq, cnd_f (by omega), s_l20Net_j2_eq, odd0, Option.bind_some]
    exact ⟨y, p, by simp, hy, by omega, by omega⟩
  | succ k ih =>
    intro hk p y hp hp' hy
    rw [s_l20Net_l1_eq, cnd_t (by omega)]
    obtain ⟨a, e1, a0, a1⟩ := pick_ok hl hn hp (by omega) (show (1 : Int) ≤ n by omega) (by omega)
    obtain ⟨b, e2, b0, b1⟩ := pick_ok hl hn (show 0 ≤ p + 1 by omega) (by omega) (show (1 : Int) ≤ n by omega) (by omega)
    have hk1 : IntKind.i64.wrap (((k + 1 : Nat) : Int) - 1) = (k : Int) := by rw [wsub (by omega) (by omega)]; omega
    rw [e1, Option.bind_some, e2, Option.bind_some, hk1]
    simp only
    have ra : (0 : Int) ≤ a ∧ a < (y.length : Int) := ⟨a0, by omega⟩
    have rb : ∀ w : List Int, w.length = n → (0 : Int) ≤ b ∧ b < (w.length : Int) := fun w hw => ⟨b0, by omega⟩
    cases hc : (a != b) with
    | true =>
      rw [cond_true, if_pos ra, if_neg (show ¬ (b : Int) < 0 by omega), if_pos ra, if_pos (rb _ (by simp [hy])), if_neg (show ¬ (a : Int) < 0 by omega), if_pos (rb _ (by simp [hy]))]
      obtain ⟨z, q, g1, g2, g3, g4⟩ := ih (by omega) (p + 1 + 1) _ (by omega) (by omega) (show (List.set (List.set y (a : Int).toNat (Go.bits .or IntKind.i64 (List.getD y (a : Int).toNat 0) (IntKind.i64.wrap (1 * 2 ^ min (b : Int).toNat IntKind.i64.bits)))) (b : Int).toNat (Go.bits .or IntKind.i64 (List.getD (List.set y (a : Int).toNat (Go.bits .or IntKind.i64 (List.getD y (a : Int).toNat 0) (IntKind.i64.wrap (1 * 2 ^ min (b : Int).toNat IntKind.i64.bits)))) (b : Int).toNat 0) (IntKind.i64.wrap (1 * 2 ^ min (a : Int).toNat IntKind.i64.bits)))).length = n by simp [hy])
      exact ⟨z, q, g1, g2, by omega, by omega⟩
    | false =>
      rw [cond_false]
      obtain ⟨z, q, g1, g2, g3, g4⟩ := ih (by omega) (p + 1 + 1) y (by omega) (by omega) hy
      exact ⟨z, q, g1, g2, by omega, by omega⟩
theorem l20Net_j {n : Nat} (h1 : 1 ≤ n) (h6 : n ≤ 6) (p : Int) (y : List Int) (hp : 0 ≤ p) (hp' : p ≤ 800000000) (hy : y.length = n) :
    ∃ (z : List Int) (q : Int), s_l20Net_j0 l 0 (n : Int) l p y = some (z, q) ∧ z.length = n ∧ p ≤ q ∧ q ≤ p + 20 := by
  obtain ⟨v, e, v0, v1⟩ := pick_ok hl hn hp (by omega) (show (1 : Int) ≤ 6 by omega) (by omega)
  obtain ⟨m, rfl⟩ : ∃ m : Nat, v = m := ⟨v.toNat, by omega⟩
  rw [s_l20Net_j0_eq, e, Option.bind_some]
  obtain ⟨z, q, g1, g2, g3, g4⟩ := l20Net_loop hl hn h1 h6 m (by omega) (p + 1) y (by omega) (by omega) hy
  exact ⟨z, q, g1, g2, by omega, by omega⟩
theorem l20Net_ok {p : Int} (hp : 0 ≤ p) (hp' : p ≤ 700000000) : ∃ (z : List Int) (q : Int), s_l20Net_f (l, p, 0) = some (z, q) ∧ 1 ≤ z.length ∧ z.length ≤ 6 ∧ p ≤ q ∧ q ≤ p + 30 := by
  obtain ⟨v, e, v0, v1⟩ := pick_ok hl hn hp (by omega) (show (1 : Int) ≤ 6 by omega) (by omega)
  obtain ⟨m, rfl⟩ : ∃ m : Nat, v = m := ⟨v.toNat, by omega⟩
  have hm : IntKind.i64.wrap (1 + (m : Int)) = ((m + 1 : Nat) : Int) := by rw [i64w (by omega) (by omega)]; omega
  rw [s_l20Net_f_eq, e, Option.bind_some]
  simp only [hm]
  obtain ⟨pn, e1, e2⟩ := path_ok (n := m + 1) (by omega) (by omega)
  obtain ⟨u, e3, u0, u1⟩ := pick_ok hl hn (show 0 ≤ p + 1 by omega) (by omega) (show (1 : Int) ≤ 4 by omega) (by omega)
  rw [e1, Option.bind_some, e3, Option.bind_some]
  simp only
  have fin : ∀ y : List Int, y.length = m + 1 → ∃ (z : List Int) (q : Int), s_l20Net_j0 l 0 ((m + 1 : Nat) : Int) l (p + 1 + 1) y = some (z, q) ∧ 1 ≤ z.length ∧ z.length ≤ 6 ∧ p ≤ q ∧ q ≤ p + 30 := fun y hy => by
    obtain ⟨z, q, g1, g2, g3, g4⟩ := l20Net_j hl hn (n := m + 1) (by omega) (by omega) (p + 1 + 1) y (by omega) (by omega) hy
    exact ⟨z, q, g1, by omega, by omega, by omega, by omega⟩
  cases c0 : (u == 0) with
  | true =>
    rw [cond_true]
    by_cases h3 : (3 : Int) ≤ ((m + 1 : Nat) : Int)
    · obtain ⟨rn, e4, e5⟩ := ring_ok (n := m + 1) (by omega) (by omega)
      rw [cnd_t h3, e4, Option.bind_some]
      exact fin rn e5
    · rw [cnd_f h3]
      exact fin pn e2
  | false =>
    rw [cond_false]
    cases c1 : (u == 1) with
    | true =>
      rw [cond_true, if_pos (by omega)]
      exact fin _ (by simp)
    | false =>
      rw [cond_false]
      exact fin pn e2
theorem l20State_loop {n : Nat} (h6 : n ≤ 6) {k t : Int} (hk : 1 ≤ k) (hk' : k ≤ 100) : ∀ i, i ≤ n → ∀ (p : Int) (y : List Int), 0 ≤ p → p ≤ 700000000 + 2 * (i : Int) → y.length = i →
    ∃ (z : List Int) (q : Int), s_l20State_l0 l (n : Int) k 0 t (i : Int) l p y = some (z, q) ∧ z.length = n ∧ p ≤ q ∧ q ≤ p + 2 * ((n : Int) - i) := by
  refine advN ?_ fun i hi ih => ?_
  · intro p y hp hp' hy
    rw [s_l20State_l0_eq, cnd_f (by omega), s_l20State_j1_eq, odd0, Option.bind_some]
    exact ⟨y, p, by simp, hy, by omega, by omega⟩
  · intro p y hp hp' hy
    have hw : IntKind.i64.wrap ((i : Int) + 1) = ((i + 1 : Nat) : Int) := w1 hi (by omega)
    rw [s_l20State_l0_eq, cnd_t (by omega)]
    simp only [hw]
    by_cases c : 0 < t
    · obtain ⟨v, e, v0, v1⟩ := pick_ok hl hn hp (by omega) (show (1 : Int) ≤ 3 by omega) (by omega)
      rw [cnd_t c, e, Option.bind_some]
      simp only
      by_cases d : v < t
      · rw [cnd_t d, if_pos (lenle (by omega) (by simp))]
        obtain ⟨z, q, g1, g2, g3, g4⟩ := ih (p + 1) (y ++ [0]) (by omega) (by omega) (by simp [hy])
        exact ⟨z, q, g1, g2, by omega, by omega⟩
      · obtain ⟨u, e2, u0, u1⟩ := pick_ok hl hn (show 0 ≤ p + 1 by omega) (by omega) hk (by omega)
        rw [cnd_f d, e2, Option.bind_some, if_pos (lenle (by omega) (by simp))]
        obtain ⟨z, q, g1, g2, g3, g4⟩ := ih (p + 1 + 1) (y ++ [u]) (by omega) (by omega) (by simp [hy])
        exact ⟨z, q, g1, g2, by omega, by omega⟩
    · obtain ⟨u, e2, u0, u1⟩ := pick_ok hl hn hp (by omega) hk (by omega)
      rw [cnd_f c, e2, Option.bind_some, if_pos (lenle (by omega) (by simp))]
      obtain ⟨z, q, g1, g2, g3, g4⟩ := ih (p + 1) (y ++ [u]) (by omega) (by omega) (by simp [hy])
      exact ⟨z, q, g1, g2, by omega, by omega⟩
theorem l20State_ok {n : Nat} (h6 : n ≤ 6) {k : Int} (hk : 1 ≤ k) (hk' : k ≤ 100) {p : Int} (hp : 0 ≤ p) (hp' : p ≤ 600000000) : ∃ (z : List Int) (q : Int), s_l20State_f (l, p, (n : Int), k, 0) = some (z, q) ∧ z.length = n ∧ p ≤ q ∧ q ≤ p + 20 := by
  obtain ⟨v, e, v0, v1⟩ := pick_ok hl hn hp (by omega) (show (1 : Int) ≤ 3 by omega) (by omega)
  rw [s_l20State_f_eq, e, Option.bind_some]
  obtain ⟨z, q, g1, g2, g3, g4⟩ := l20State_loop hl hn h6 (t := v) hk hk' 0 (by omega) (p + 1) [] (by omega) (by omega) rfl
  exact ⟨z, q, g1, g2, by omega, by omega⟩
theorem l20Place_ok {n : Int} (hn' : n ≤ 1000000000) {p : Int} (hp : 0 ≤ p) (hp' : p ≤ 500000000) : ∃ (a : List Int) (k : Int) (b : List Int) (q : Int), s_l20Place_f (l, p, n) = some (a, k, b, q) ∧ a.length ≤ 6 ∧ b.length ≤ 7 ∧ p ≤ q ∧ q ≤ p + 100 := by
  obtain ⟨z, q, e1, z1, z6, q1, q2⟩ := l20Net_ok hl hn hp (by omega)
  obtain ⟨u, e2, u0, u1⟩ := pick_ok hl hn (show 0 ≤ q by omega) (by omega) (show (1 : Int) ≤ 3 by omega) (by omega)
  obtain ⟨v, e3, v0, v1⟩ := pick_ok hl hn (show 0 ≤ q + 1 by omega) (by omega) (show (1 : Int) ≤ 2 by omega) (by omega)
  have huv : 0 ≤ u * v ∧ u * v ≤ 2 := by
    rcases (show v = 0 ∨ v = 1 by omega) with rfl | rfl
    · simp
    · simp; omega
  have hw : IntKind.i64.wrap (3 + IntKind.i64.wrap (u * v)) = 3 + u * v := by rw [i64w (n := u * v) (by omega) (by omega), i64w (by omega) (by omega)]
  rw [s_l20Place_f_eq, e1, Option.bind_some, e2, Option.bind_some, e3, Option.bind_some]
  simp only [hw]
  obtain ⟨s, q', e4, s1, q3, q4⟩ := l20State_ok hl hn z6 (k := 3 + u * v) (by omega) (by omega) (show 0 ≤ q + 1 + 1 by omega) (by omega)
  obtain ⟨o, q5, e5, q6, q7⟩ := odd_ok hl hn (show 0 ≤ q' by omega) (by omega) hn'
  rw [e4, Option.bind_some, e5, Option.bind_some]
  simp only
  cases o with
  | false =>
    rw [cond_false, if_pos (by simp)]
    exact ⟨z, _, s, q5, rfl, z6, by omega, by omega, by omega⟩
  | true =>
    obtain ⟨w, e6, w0, w2⟩ := pick_ok hl hn (show 0 ≤ q5 by omega) (by omega) (show (1 : Int) ≤ 3 by omega) (by omega)
    rw [cond_true, e6, Option.bind_some]
    simp only
    cases c0 : (w == 0) with
    | true =>
      rw [cond_true, if_pos (lenle (by omega) (by simp)), if_pos (by simp)]
      exact ⟨z, _, s ++ [0], q5 + 1, rfl, z6, by simp; omega, by omega, by omega⟩
    | false =>
      rw [cond_false]
      cases c1 : (w == 1) with
      | true =>
        obtain ⟨x, e7, x0, x2⟩ := pick_ok hl hn (show 0 ≤ q5 + 1 by omega) (by omega) (show (1 : Int) ≤ 2 by omega) (by omega)
        rw [cond_true, e7, Option.bind_some]
        simp only
        rw [if_pos ⟨x0, by simpa using x2⟩, if_pos (by simp)]
        exact ⟨z, _, s, q5 + 1 + 1, rfl, z6, by omega, by omega, by omega⟩
      | false =>
        rw [cond_false, if_pos (by simp)]
        exact ⟨[], 0, [], q5 + 1, rfl, by simp, by simp, by omega, by omega⟩
end
end FN
/-! The laws FnExactSquareWindings and FnSquareWindings. -/
namespace FN
open Go
theorem FnExactSquareWindings_true (x : Ts w_FnExactSquareWindings_sig.pc) (hw : WfTs w_FnExactSquareWindings_sig.pc x) : w_FnExactSquareWindings_f x = some true := by
  obtain ⟨r, c, l⟩ := x
  rw [w_FnExactSquareWindings_f_eq]
  by_cases h0 : (1048576 : Int) < (l.length : Int)
  · rw [cnd_t h0]
  rw [cnd_f h0]
  have hl : l.length ≤ 1048576 := by omega
  obtain ⟨a, e1, e2, h10⟩ := sq_val r c l (by omega)
  rw [toIntS_val l hl]
  simp only [Option.bind_some]
  rw [e1, e2]
  simp only [Option.bind_some]
  rw [eqIntS_val a a (by omega) (by omega), eqIntS_val l l (by omega) (by omega), decide_eq_true rfl, decide_eq_true rfl, held_val a 1 (by omega) (by omega)]
  simp only [Option.bind_some, Bool.not_true, cond_false]
  rw [if_pos ⟨by omega, by omega⟩, cnd_f (show ¬ (1 + (l.length : Int) < 0) by omega), if_pos ⟨by omega, by omega⟩, cnd_f (show ¬ (1 + (a.length : Int) < 0) by omega)]
  simp only [bne_self_eq_false, cond_false]
  rw [cnd_f (show ¬ (1 + (a.length : Int) < 0) by omega)]
theorem l20State_in {l : List Int} (hl : Bytes l) (hn : l.length ≤ 2000) {n : Nat} (h6 : n ≤ 6) {t : Int} : ∀ i, i ≤ n → ∀ (p : Int) (y : List Int), 0 ≤ p → p ≤ 700000000 + 2 * (i : Int) → y.length = i → (∀ v ∈ y, 0 ≤ v ∧ v < 3) →
    ∃ (z : List Int) (q : Int), s_l20State_l0 l (n : Int) 3 0 t (i : Int) l p y = some (z, q) ∧ z.length = n ∧ ∀ v ∈ z, 0 ≤ v ∧ v < 3 := by
  refine advN ?_ fun i hi ih => ?_
  · intro p y hp hp' hy hv
    rw [s_l20State_l0_eq, cnd_f (by omega), s_l20State_j1_eq, odd0, Option.bind_some]
    exact ⟨y, p, by simp, hy, hv⟩
  · intro p y hp hp' hy hv
    have hw : IntKind.i64.wrap ((i : Int) + 1) = ((i + 1 : Nat) : Int) := w1 hi (by omega)
    have app : ∀ u : Int, 0 ≤ u → u < 3 → ∀ v ∈ y ++ [u], 0 ≤ v ∧ v < 3 := fun u h1 h2 v hvm => by
      rcases List.mem_append.1 hvm with h | h
      · exact hv v h
      · have : v = u := by simpa using h
        omega
    rw [s_l20State_l0_eq, cnd_t (by omega)]
    simp only [hw]
    by_cases c : 0 < t
    · obtain ⟨v, e, v0, v1⟩ := pick_ok hl hn hp (by omega) (show (1 : Int) ≤ 3 by omega) (by omega)
      rw [cnd_t c, e, Option.bind_some]
      simp only
      by_cases d : v < t
      · rw [cnd_t d, if_pos (lenle (by omega) (by simp))]
        exact ih (p + 1) (y ++ [0]) (by omega) (by omega) (by simp [hy]) (app 0 (by omega) (by omega))
      · obtain ⟨u, e2, u0, u1⟩ := pick_ok hl hn (show 0 ≤ p + 1 by omega) (by omega) (show (1 : Int) ≤ 3 by omega) (by omega)
        rw [cnd_f d, e2, Option.bind_some, if_pos (lenle (by omega) (by simp))]
        exact ih (p + 1 + 1) (y ++ [u]) (by omega) (by omega) (by simp [hy]) (app u u0 u1)
    · obtain ⟨u, e2, u0, u1⟩ := pick_ok hl hn hp (by omega) (show (1 : Int) ≤ 3 by omega) (by omega)
      rw [cnd_f c, e2, Option.bind_some, if_pos (lenle (by omega) (by simp))]
      exact ih (p + 1) (y ++ [u]) (by omega) (by omega) (by simp [hy]) (app u u0 u1)
theorem state_in {l : List Int} (hl : Bytes l) (hn : l.length ≤ 2000) {n : Nat} (h6 : n ≤ 6) {p : Int} (hp : 0 ≤ p) (hp' : p ≤ 600000000) : ∃ (z : List Int) (q : Int), s_l20State_f (l, p, (n : Int), 3, 0) = some (z, q) ∧ z.length = n ∧ ∀ v ∈ z, 0 ≤ v ∧ v < 3 := by
  obtain ⟨v, e, v0, v1⟩ := pick_ok hl hn hp (by omega) (show (1 : Int) ≤ 3 by omega) (by omega)
  rw [s_l20State_f_eq, e, Option.bind_some]
  exact l20State_in hl hn h6 (t := v) 0 (by omega) (p + 1) [] (by omega) (by omega) rfl (by simp)
theorem alive_y : w_alive_f () = some true := by
  rw [w_alive_f_eq, inet, Option.bind_some, inet, decide_eq_true (show NetP [2, 1] by decide), cond_true, decide_eq_false (show ¬ NetP [1] by decide)]
  rfl
theorem same_y (a : List Int) (ha : a.length ≤ 10) : w_sameInts_f (a, a) = some true := by
  have loop : ∀ i, i ≤ a.length → w_sameInts_l0 a a (i : Int) = some true := by
    refine advN ?_ fun i hi ih => ?_
    · rw [w_sameInts_l0_eq, cnd_f (by omega)]
    · rw [w_sameInts_l0_eq, cnd_t (by omega), if_pos (inN hi), if_pos (inN hi), bne_f rfl, w1 hi (by omega)]
      exact ih
  rw [w_sameInts_f_eq, bne_f rfl]
  exact loop 0 (by omega)
/-- What is drawn. -/
theorem draw_sq {x : List Int} (hb : Bytes x) : ∃ (r c : Int) (z : List Int), s_DrawSquareWindings_f x = some (r, c, z) ∧ z.length ≤ 6 ∧ (∀ v ∈ z, 0 ≤ v ∧ v < 3) ∧ (gridP r c → z.length = (r * c).toNat) := by
  obtain ⟨l, e1, e2, e3⟩ := open_ok hb
  obtain ⟨v, e4, v0, v1⟩ := pick_ok e2 e3 (show (0 : Int) ≤ 0 by omega) (by omega) (show (1 : Int) ≤ 10 by omega) (by omega)
  have key : ∀ (r c : Int) (n : Nat), n ≤ 6 → s_l20Grid_f (l, 0) = some (r, c, 0 + 1) → Int.tmod (if 1 > (IntKind.i64.wrap (r * c)) then 1 else (IntKind.i64.wrap (r * c))) 7 = (n : Int) → (gridP r c → n = (r * c).toNat) →
      ∃ (r c : Int) (z : List Int), s_DrawSquareWindings_f x = some (r, c, z) ∧ z.length ≤ 6 ∧ (∀ v ∈ z, 0 ≤ v ∧ v < 3) ∧ (gridP r c → z.length = (r * c).toNat) := by
    intro r c n h6 hg hm hgp
    obtain ⟨z, q, e5, z1, z2⟩ := state_in e2 e3 h6 (p := 0 + 1) (by omega) (by omega)
    refine ⟨r, c, z, ?_, by omega, z2, fun h => by rw [z1]; exact hgp h⟩
    rw [s_DrawSquareWindings_f_eq, e1, Option.bind_some, hg, Option.bind_some]
    simp only [hm]
    rw [e5]
    rfl
  have hv : v = 0 ∨ v = 1 ∨ v = 2 ∨ v = 3 ∨ v = 4 ∨ v = 5 ∨ v = 6 ∨ v = 7 ∨ v = 8 ∨ v = 9 := by omega
  rcases hv with rfl | rfl | rfl | rfl | rfl | rfl | rfl | rfl | rfl | rfl
  · exact key 2 2 4 (by omega) (by rw [s_l20Grid_f_eq, e4]; simp) (by decide) (fun _ => by decide)
  · exact key 2 3 6 (by omega) (by rw [s_l20Grid_f_eq, e4]; simp) (by decide) (fun _ => by decide)
  · exact key 3 2 6 (by omega) (by rw [s_l20Grid_f_eq, e4]; simp) (by decide) (fun _ => by decide)
  · exact key 1 4 4 (by omega) (by rw [s_l20Grid_f_eq, e4]; simp) (by decide) (fun _ => by decide)
  · exact key 5 1 5 (by omega) (by rw [s_l20Grid_f_eq, e4]; simp) (by decide) (fun _ => by decide)
  · exact key 1 1 1 (by omega) (by rw [s_l20Grid_f_eq, e4]; simp) (by decide) (fun _ => by decide)
  · exact key 2 2 4 (by omega) (by rw [s_l20Grid_f_eq, e4]; simp) (by decide) (fun _ => by decide)
  · exact key 2 3 6 (by omega) (by rw [s_l20Grid_f_eq, e4]; simp) (by decide) (fun _ => by decide)
  · exact key 3 3 2 (by omega) (by rw [s_l20Grid_f_eq, e4]; simp) (by decide) (fun h => absurd h (by decide))
  · exact key 0 2 1 (by omega) (by rw [s_l20Grid_f_eq, e4]; simp) (by decide) (fun h => absurd h (by decide))
theorem square_law {x : List Int} (hb : Bytes x) : w_FnSquareWindings_f x = some true := by
  rw [w_FnSquareWindings_f_eq]
  by_cases h0 : (1048576 : Int) < (x.length : Int)
  · rw [cnd_t h0]
  rw [cnd_f h0]
  obtain ⟨r, c, z, e1, h6, hz, hg⟩ := draw_sq hb
  rw [e1, Option.bind_some]
  simp only
  by_cases h : gridP r c
  · obtain ⟨net, t, e2, _, _, n1, n2, n3, hN, e7⟩ := nets_val h
    have hne : List.isEmpty net = false := by cases net with
      | nil => simp at n2
      | cons => rfl
    have hlz := hg h
    have hp : PlP net 3 z := ⟨hN, ⟨fun i hi => hz _ (by rw [List.getD_eq_getElem?_getD, List.getElem?_eq_getElem hi]; exact List.getElem_mem hi), by omega, by omega, by omega, by omega⟩, by omega⟩
    obtain ⟨a, g1, g2, g3, g4⟩ := e7 z hp
    rw [g1, g2]
    simp only [Option.bind_some]
    rw [same_y a g3, e2]
    simp only [Option.bind_some, Bool.not_true, cond_false]
    rw [hne, cond_false, show (((net.length : Nat) : Int) == 0) = false by rw [beq_eq_false_iff_ne]; omega, cond_false, bne_f (by omega)]
    exact g4
  · obtain ⟨e2, g1, g2⟩ := sq_no z h
    rw [g1, g2]
    simp only [Option.bind_some]
    rw [same_y [] (by simp), e2, alive_y]
    rfl
theorem FnSquareWindings_true (x : Ts w_FnSquareWindings_sig.pc) (hw : WfTs w_FnSquareWindings_sig.pc x) : w_FnSquareWindings_f x = some true := square_law fun y hy => hw.2 y hy
end FN
