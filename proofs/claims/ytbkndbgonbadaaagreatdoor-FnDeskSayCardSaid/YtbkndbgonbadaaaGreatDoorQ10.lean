/- Texts of the proof, joined: parts -/
import Derived.Test.YtbkndbgonbadaaaGreatDoorQ3
import Derived.Test.YtbkndbgonbadaaaGreatDoorQ9
import Derived.Test.YtbkndbgonbadaaaGreatDoorJ16
import Derived.Test.YtbkndbgonbadaaaGreatDoorQ8
import Derived.Test.YtbkndbgonbadaaaGreatDoorJ17
import Derived.Test.YtbkndbgonbadaaaGreatDoorJ18
import Derived.Test.YtbkndbgonbadaaaGreatDoorJ3
import Derived.Test.YtbkndbgonbadaaaGreatDoorJ19
set_option linter.unusedVariables false
set_option linter.unusedSimpArgs false
set_option linter.unusedSectionVars false
/-! The same desk is told so. -/
namespace FN
open Go
theorem sameDesk_loop (a : List Int) (k : Int) (b : List Int) (l : List Pl) (hl : l.length ≤ 4611686018427387904) (hs : ∀ p ∈ l, smP 4611686018427387904 p) : ∀ i, i ≤ l.length → w_sameDesk_l0 (i : Int) a k b l a k b l = some true := by
  refine advN ?_ fun i hi ih => ?_
  · rw [w_sameDesk_l0_eq, cnd_f (by omega)]
  · rw [w_sameDesk_l0_eq, cnd_t (by omega), if_pos (inN hi), if_pos (inN hi), gP, w1 hi (by omega)]
    have hm := hs _ (getD_mem (d := ([], 0, [])) hi)
    rw [samePlace_refl _ _ _ hm.1 hm.2, Option.bind_some]
    exact ih
theorem sameDesk_refl (a : List Int) (k : Int) (b : List Int) (l : List Pl) (ha : a.length ≤ 4611686018427387904) (hb : b.length ≤ 4611686018427387904) (hl : l.length ≤ 4611686018427387904) (hs : ∀ p ∈ l, smP 4611686018427387904 p) : w_sameDesk_f (a, k, b, l, a, k, b, l) = some true := by
  rw [w_sameDesk_f_eq, samePlace_refl a k b ha hb, Option.bind_some, bne_f rfl]
  exact sameDesk_loop a k b l hl hs 0 (by omega)
theorem noDesk_yes : w_noDesk_f ([], 0, [], []) = some true := by
  rw [w_noDesk_f_eq, sameDesk_refl [] 0 [] [] (by simp) (by simp) (by simp) (by simp)]
  rfl
theorem sameDesk_ok {a : List Int} {k : Int} {b : List Int} {l : List Pl} (h : DkP a k b l) : w_sameDesk_f (a, k, b, l, a, k, b, l) = some true := by
  have h1 := PlP.sm h.2.1
  have h2 := h.2.2
  exact sameDesk_refl a k b l (by omega) (by omega) (by omega) fun p hp => by have := PlP.sm (h.1 p hp); exact ⟨by omega, by omega⟩
end FN

/-! A line at a desk. -/
namespace FN
open Go
theorem ans_place {a : List Int} {k : Int} {b : List Int} (hb : b.length ≤ 4611686018427387904) : i_answer_f (a, k, b, str16) = some (ptx a k b) := by
  rw [i_answer_f_eq, beq_b, if_pos rfl, (ptx_val a k b hb).1, Option.bind_some]
/-- What a line says of a desk. -/
structure LineV (d : Dk) (s : ByteArray) (d' : Dk) (t : ByteArray) : Prop where
  i : i_DeskLine_f (d.1, d.2.1, d.2.2.1, d.2.2.2, s) = some (d'.1, d'.2.1, d'.2.2.1, d'.2.2.2, t)
  s : s_DeskLine_f (d.1, d.2.1, d.2.2.1, d.2.2.2, s) = some (d'.1, d'.2.1, d'.2.2.1, d'.2.2.2, t)
  ok : DkOk d'
  pos : 0 < t.size
  same : t = str47 ∨ d' = d
theorem desk_sm {d : Dk} (h : DkOk d) : d.1.length ≤ 6 ∧ d.2.2.1.length ≤ 6 ∧ d.2.2.2.length ≤ 8 ∧ ∀ p ∈ d.2.2.2, smP 4611686018427387904 p := by
  have hb := PlP.sm h.2.1
  exact ⟨hb.1, hb.2, h.2.2, fun p hp => by have := PlP.sm (h.1 p hp); exact ⟨by omega, by omega⟩⟩
theorem line_val {d : Dk} (h : DkOk d) (s : ByteArray) (hs : s.size ≤ 4000000) : ∃ d' t, LineV d s d' t := by
  obtain ⟨s1, s2, s3, s4⟩ := desk_sm h
  have hid := idesk d.1 d.2.1 d.2.2.1 d.2.2.2 (by omega) (by omega) s4
  have hsd := sdesk d.1 d.2.1 d.2.2.1 d.2.2.2 (by omega) (by omega) s4
  have hdk : DkP d.1 d.2.1 d.2.2.1 d.2.2.2 := h
  rw [decide_eq_true hdk] at hid hsd
  have hic := icopy_val hdk
  have hsc := l15Copy_val hdk
  obtain ⟨r, e1, e2, e3⟩ := deed_same s.data.toList (by rw [Array.length_toList]; exact Nat.le_trans hs (by omega))
  rw [of_data] at e1 e2
  rcases e3 with ⟨hr, _⟩ | ⟨K, A, B, hr, _, _⟩
  · subst hr
    obtain ⟨t, a1, a2, a3⟩ := ans_both (show PlP d.1 d.2.1 d.2.2.1 from h.2.1) s (by omega)
    refine ⟨d, t, ?_, ?_, h, a3, .inr rfl⟩
    · rw [i_DeskLine_f_eq, hid, Option.bind_some, Bool.not_true, cond_false, e1, Option.bind_some]
      simp only [cond_false]
      rw [hic, Option.bind_some, a1, Option.bind_some]
    · rw [s_DeskLine_f_eq, hsd, Option.bind_some, Bool.not_true, cond_false, hsc, Option.bind_some, e2, Option.bind_some]
      simp only [cond_false]
      rw [a2, Option.bind_some]
  · subst hr
    have hi := ido_val h (K, A, B)
    have hq := do_val h (K, A, B)
    simp only at hi hq
    cases hy : (doV d (K, A, B)).2 with
    | false =>
      rw [hy] at hi hq
      refine ⟨(doV d (K, A, B)).1, str46, ?_, ?_, doV_ok h _, by decide, .inr (doV_no hy)⟩
      · rw [i_DeskLine_f_eq, hid, Option.bind_some, Bool.not_true, cond_false, e1, Option.bind_some]
        simp only [cond_true]
        rw [hi, Option.bind_some]
        rfl
      · rw [s_DeskLine_f_eq, hsd, Option.bind_some, Bool.not_true, cond_false, hsc, Option.bind_some, e2, Option.bind_some]
        simp only [cond_true]
        rw [hq, Option.bind_some]
        rfl
    | true =>
      rw [hy] at hi hq
      refine ⟨(doV d (K, A, B)).1, str47, ?_, ?_, doV_ok h _, by decide, .inl rfl⟩
      · rw [i_DeskLine_f_eq, hid, Option.bind_some, Bool.not_true, cond_false, e1, Option.bind_some]
        simp only [cond_true]
        rw [hi, Option.bind_some]
        rfl
      · rw [s_DeskLine_f_eq, hsd, Option.bind_some, Bool.not_true, cond_false, hsc, Option.bind_some, e2, Option.bind_some]
        simp only [cond_true]
        rw [hq, Option.bind_some]
        rfl
theorem deed_no {s : ByteArray} (h : ∀ k a b, dtx k a b = s → s = ByteArray.empty) (hs : s.size ≤ 4000000) : i_ReadDeed_f s = some noD := by
  obtain ⟨r, e1, _, e3⟩ := deed_same s.data.toList (by rw [Array.length_toList]; exact Nat.le_trans hs (by omega))
  rw [of_data] at e1 e3
  rcases e3 with ⟨hr, _⟩ | ⟨K, A, B, hr, h1, h2⟩
  · rw [e1, hr]
  · exact absurd (h K A B h1) h2
/-! The drawn line. -/
section
variable {l : List Int} (hl : Bytes l) (hn : l.length ≤ 2000)
include hl hn
omit hl hn in
theorem str_getD {xs : List ByteArray} {n : Nat} (h : ∀ x ∈ xs, x.size ≤ n) (v : Nat) : (List.getD xs v ByteArray.empty).size ≤ n := by
  rw [List.getD_eq_getElem?_getD]
  cases hx : xs[v]? with
  | none => exact Nat.zero_le _
  | some x => exact h x (List.mem_of_getElem? hx)
theorem line_j0 {a b : List Int} {k : Int} (ha : a.length ≤ 100) {p : Int} (hp : 0 ≤ p) (hp' : p ≤ 840000000) : ∃ (t : ByteArray) (q : Int), s_l20Line_j0 l l p a k b = some (t, q) ∧ t.size ≤ 40 ∧ 0 ≤ q ∧ q ≤ p + 20 := by
  obtain ⟨K, A, B, q, e1, q1, q2⟩ := l20Deed_ok hl hn (a := a) (b := b) (k := k) ha hp (by omega)
  obtain ⟨e2, _, e3⟩ := deed_val K A B
  rw [s_l20Line_j0_eq, e1, Option.bind_some]
  simp only
  rw [e2, Option.bind_some, if_pos (by simp)]
  exact ⟨_, _, rfl, by omega, by omega, by omega⟩
abbrev LOut (p : Int) (g : Option (ByteArray × Int)) : Prop := ∃ (t : ByteArray) (q : Int), g = some (t, q) ∧ t.size ≤ 40 ∧ 0 ≤ q ∧ q ≤ p + 60
omit hl hn in
theorem abc_size (v : Int) : (List.getD ([str37, str38, str39] : List (ByteArray)) (v : Int).toNat ByteArray.empty).size ≤ 10 := str_getD (n := 10) (by decide) _
theorem line_num {p : Int} (hp : 0 ≤ p) (hp' : p ≤ 840000000) : LOut p (Option.bind (r_pick_f (l, p, 3)) fun r4 => (if (0 : Int) ≤ r4.1 ∧ r4.1 < (List.length ([str37, str38, str39] : List (ByteArray)) : Int) then (Option.bind (r_pick_f (l, r4.2, 8)) fun r5 => (Option.bind (s_l1Number_f r5.1) fun r6 => (if ByteArray.size (List.getD ([str37, str38, str39] : List (ByteArray)) (r4.1 : Int).toNat ByteArray.empty) + ByteArray.size r6 ≤ 9223372036854775807 then (if 83 = 83 ∧ l = l then (some (((List.getD ([str37, str38, str39] : List (ByteArray)) (r4.1 : Int).toNat ByteArray.empty) ++ r6), r5.2)) else none) else none))) else none)) := by
  obtain ⟨u, e1, u0, u1⟩ := pick_ok hl hn hp (by omega) (show (1 : Int) ≤ 3 by omega) (by omega)
  obtain ⟨v, e2, v0, v1⟩ := pick_ok hl hn (show 0 ≤ p + 1 by omega) (by omega) (show (1 : Int) ≤ 8 by omega) (by omega)
  have hz := abc_size u
  have hv := itoa_size (n := v) (by omega) (by omega)
  rw [e1, Option.bind_some]
  simp only
  rw [if_pos (show (0 : Int) ≤ u ∧ u < (List.length ([str37, str38, str39] : List (ByteArray)) : Int) from ⟨u0, u1⟩), e2, Option.bind_some]
  simp only
  rw [num_val v0 (by omega), Option.bind_some, if_pos (by omega), if_pos (by simp)]
  exact ⟨_, _, rfl, by rw [ByteArray.size_append]; omega, by omega, by omega⟩
theorem line_word {xs : List ByteArray} (n : Int) (hxn : (xs.length : Int) = n) (hx : ∀ x ∈ xs, x.size ≤ 10) (hx1 : 1 ≤ xs.length) (hx2 : xs.length ≤ 100) {p : Int} (hp : 0 ≤ p) (hp' : p ≤ 840000000) : LOut p (Option.bind (r_pick_f (l, p, n)) fun r2 => (if (0 : Int) ≤ r2.1 ∧ r2.1 < (List.length xs : Int) then (if 83 = 83 ∧ l = l then (some ((List.getD xs (r2.1 : Int).toNat ByteArray.empty), r2.2)) else none) else none)) := by
  obtain ⟨u, e1, u0, u1⟩ := pick_ok hl hn hp (by omega) (show (1 : Int) ≤ n by omega) (by omega)
  rw [e1, Option.bind_some]
  simp only
  rw [if_pos (show 0 ≤ u ∧ u < (xs.length : Int) by omega), if_pos (by simp)]
  have := str_getD hx (u : Int).toNat
  exact ⟨_, _, rfl, by omega, by omega, by omega⟩
theorem l20Line_ok {a b : List Int} {k : Int} (ha : a.length ≤ 100) {p : Int} (hp : 0 ≤ p) (hp' : p ≤ 830000000) : LOut (p + 1) (s_l20Line_f (l, p, a, k, b)) := by
  obtain ⟨u, e1, u0, u1⟩ := pick_ok hl hn hp (by omega) (show (1 : Int) ≤ 7 by omega) (by omega)
  have w7 := line_word hl hn (xs := [str16, str17, str18, str19, str20, str21, str22]) 7 rfl (by decide) (by decide) (by decide) (p := p + 1) (by omega) (by omega)
  have w17 := line_word hl hn (xs := [ByteArray.empty, str10, str23, str24, str11, str25, str26, str27, str28, str29, str30, str31, str32, str33, str34, str35, str36]) 17 rfl (by decide) (by decide) (by decide) (p := p + 1) (by omega) (by omega)
  have wn := line_num hl hn (p := p + 1) (by omega) (by omega)
  obtain ⟨t, q, j1, j2, j3, j4⟩ := line_j0 hl hn (a := a) (b := b) (k := k) ha (p := p + 1) (by omega) (by omega)
  have wj : LOut (p + 1) (s_l20Line_j0 l l (p + 1) a k b) := ⟨t, q, j1, j2, j3, by omega⟩
  suffices H : LOut (p + 1) (s_l20Line_f (l, p, a, k, b)) by
    exact H
  rw [s_l20Line_f_eq, e1, Option.bind_some]
  dsimp only
  obtain rfl | rfl | rfl | rfl | rfl | rfl | rfl : u = 0 ∨ u = 1 ∨ u = 2 ∨ u = 3 ∨ u = 4 ∨ u = 5 ∨ u = 6 := by omega
  · have h0 : ((0 : Int) == 0) = true := rfl
    have h1 : ((0 : Int) == 1) = false := rfl
    have h2 : ((0 : Int) == 2) = false := rfl
    have h3 : ((0 : Int) == 3) = false := rfl
    have h4 : ((0 : Int) == 4) = false := rfl
    have h5 : ((0 : Int) == 5) = false := rfl
    rw [h0]
    try rw [h1]
    try rw [h2]
    try rw [h3]
    try rw [h4]
    try rw [h5]
    repeat (first | rw [cond_true] | rw [cond_false])
    exact w7
  · have h0 : ((1 : Int) == 0) = false := rfl
    have h1 : ((1 : Int) == 1) = true := rfl
    have h2 : ((1 : Int) == 2) = false := rfl
    have h3 : ((1 : Int) == 3) = false := rfl
    have h4 : ((1 : Int) == 4) = false := rfl
    have h5 : ((1 : Int) == 5) = false := rfl
    rw [h0]
    try rw [h1]
    try rw [h2]
    try rw [h3]
    try rw [h4]
    try rw [h5]
    repeat (first | rw [cond_true] | rw [cond_false])
    exact w7
  · have h0 : ((2 : Int) == 0) = false := rfl
    have h1 : ((2 : Int) == 1) = false := rfl
    have h2 : ((2 : Int) == 2) = true := rfl
    have h3 : ((2 : Int) == 3) = false := rfl
    have h4 : ((2 : Int) == 4) = false := rfl
    have h5 : ((2 : Int) == 5) = false := rfl
    rw [h0]
    try rw [h1]
    try rw [h2]
    try rw [h3]
    try rw [h4]
    try rw [h5]
    repeat (first | rw [cond_true] | rw [cond_false])
    exact w7
  · have h0 : ((3 : Int) == 0) = false := rfl
    have h1 : ((3 : Int) == 1) = false := rfl
    have h2 : ((3 : Int) == 2) = false := rfl
    have h3 : ((3 : Int) == 3) = true := rfl
    have h4 : ((3 : Int) == 4) = false := rfl
    have h5 : ((3 : Int) == 5) = false := rfl
    rw [h0]
    try rw [h1]
    try rw [h2]
    try rw [h3]
    try rw [h4]
    try rw [h5]
    repeat (first | rw [cond_true] | rw [cond_false])
    exact w17
  · have h0 : ((4 : Int) == 0) = false := rfl
    have h1 : ((4 : Int) == 1) = false := rfl
    have h2 : ((4 : Int) == 2) = false := rfl
    have h3 : ((4 : Int) == 3) = false := rfl
    have h4 : ((4 : Int) == 4) = true := rfl
    have h5 : ((4 : Int) == 5) = false := rfl
    rw [h0]
    try rw [h1]
    try rw [h2]
    try rw [h3]
    try rw [h4]
    try rw [h5]
    repeat (first | rw [cond_true] | rw [cond_false])
    exact wn
  · have h0 : ((5 : Int) == 0) = false := rfl
    have h1 : ((5 : Int) == 1) = false := rfl
    have h2 : ((5 : Int) == 2) = false := rfl
    have h3 : ((5 : Int) == 3) = false := rfl
    have h4 : ((5 : Int) == 4) = false := rfl
    have h5 : ((5 : Int) == 5) = true := rfl
    rw [h0]
    try rw [h1]
    try rw [h2]
    try rw [h3]
    try rw [h4]
    try rw [h5]
    repeat (first | rw [cond_true] | rw [cond_false])
    exact wn
  · have h0 : ((6 : Int) == 0) = false := rfl
    have h1 : ((6 : Int) == 1) = false := rfl
    have h2 : ((6 : Int) == 2) = false := rfl
    have h3 : ((6 : Int) == 3) = false := rfl
    have h4 : ((6 : Int) == 4) = false := rfl
    have h5 : ((6 : Int) == 5) = false := rfl
    rw [h0]
    try rw [h1]
    try rw [h2]
    try rw [h3]
    try rw [h4]
    try rw [h5]
    repeat (first | rw [cond_true] | rw [cond_false])
    exact wj
end
end FN

/-! Lines at a desk, one after the other. -/
namespace FN
open Go
/-- What lines lead to: the desk, and the answers. -/
inductive SayV : Dk → List ByteArray → Dk → List ByteArray → Prop
  | nil (d : Dk) : SayV d [] d []
  | cons {d d' d'' : Dk} {s t : ByteArray} {ss ts : List ByteArray} : LineV d s d' t → SayV d' ss d'' ts → SayV d (s :: ss) d'' (t :: ts)
theorem say_ex : ∀ (ss : List ByteArray) {d : Dk}, DkOk d → (∀ s ∈ ss, s.size ≤ 4000000) → ∃ d' ts, SayV d ss d' ts
  | [], d, _, _ => ⟨d, [], .nil d⟩
  | s :: ss, d, h, hs => by
    obtain ⟨d', t, L⟩ := line_val h s (hs s (by simp))
    obtain ⟨d'', ts, S⟩ := say_ex ss L.ok fun x hx => hs x (by simp [hx])
    exact ⟨d'', t :: ts, .cons L S⟩
theorem SayV.ok {d d' : Dk} {ss ts : List ByteArray} (h : SayV d ss d' ts) (hd : DkOk d) : DkOk d' ∧ ts.length = ss.length ∧ ∀ t ∈ ts, 0 < t.size := by
  induction h with
  | nil => exact ⟨hd, rfl, fun t ht => by cases ht⟩
  | cons L _ ih =>
    obtain ⟨h1, h2, h3⟩ := ih L.ok
    refine ⟨h1, by simp [h2], fun t ht => ?_⟩
    rcases List.mem_cons.1 ht with e | ht
    · rw [e]; exact L.pos
    · exact h3 t ht
theorem SayV.app {d d' d'' : Dk} {ss ts ss' ts' : List ByteArray} (h : SayV d ss d' ts) (k : SayV d' ss' d'' ts') : SayV d (ss ++ ss') d'' (ts ++ ts') := by
  induction h with
  | nil => exact k
  | cons L _ ih => exact .cons L (ih k)
theorem lineV_uniq {d d1 d2 : Dk} {s t1 t2 : ByteArray} (h : LineV d s d1 t1) (k : LineV d s d2 t2) : d1 = d2 ∧ t1 = t2 := by
  have := h.i.symm.trans k.i
  injection this with e
  injection e with e1 e
  injection e with e2 e
  injection e with e3 e
  injection e with e4 e5
  exact ⟨Prod.ext e1 (Prod.ext e2 (Prod.ext e3 e4)), e5⟩
theorem SayV.uniq {d d1 : Dk} {ss ts1 : List ByteArray} (h : SayV d ss d1 ts1) : ∀ {d2 : Dk} {ts2 : List ByteArray}, SayV d ss d2 ts2 → d1 = d2 ∧ ts1 = ts2 := by
  induction h with
  | nil => intro d2 ts2 k; cases k; exact ⟨rfl, rfl⟩
  | cons L _ ih =>
    intro d2 ts2 k
    cases k with
    | cons L' k' =>
      obtain ⟨e1, e2⟩ := lineV_uniq L L'
      subst e1; subst e2
      obtain ⟨e3, e4⟩ := ih k'
      exact ⟨e3, by rw [e4]⟩
theorem getS {ss : List ByteArray} {i : Nat} (hi : i < ss.length) : List.getD ss ((i : Int)).toNat ByteArray.empty = ss[i] := by
  rw [Int.toNat_natCast, List.getD_eq_getElem?_getD, List.getElem?_eq_getElem hi]; rfl
theorem say_run (ss : List ByteArray) (hl : ss.length ≤ 1000) (y : Int) : ∀ i, i ≤ ss.length → ∀ (d d' : Dk) (us ts : List ByteArray), us.length = i → SayV d (ss.drop i) d' ts →
    i_DeskSay_l0 ss (ss.length : Int) (i : Int) d.1 d.2.1 d.2.2.1 d.2.2.2 y us = some (d'.1, d'.2.1, d'.2.2.1, d'.2.2.2, us ++ ts) ∧ i_DeskSay_l1 ss (ss.length : Int) (i : Int) d.1 d.2.1 d.2.2.1 d.2.2.2 y us = some (d'.1, d'.2.1, d'.2.2.1, d'.2.2.2, us ++ ts) ∧
    s_DeskSay_l0 ss (i : Int) y us d.1 d.2.1 d.2.2.1 d.2.2.2 = some (d'.1, d'.2.1, d'.2.2.1, d'.2.2.2, us ++ ts) ∧ s_DeskSay_l1 ss (i : Int) y us d.1 d.2.1 d.2.2.1 d.2.2.2 = some (d'.1, d'.2.1, d'.2.2.1, d'.2.2.2, us ++ ts) := by
  refine advN ?_ fun i hi ih => ?_
  · intro d d' us ts hu S
    rw [List.drop_length] at S
    cases S
    rw [i_DeskSay_l0_eq, i_DeskSay_l1_eq, s_DeskSay_l0_eq, s_DeskSay_l1_eq, cnd_f (by omega), cnd_f (by omega), List.append_nil]
    exact ⟨rfl, rfl, rfl, rfl⟩
  · intro d d' us ts hu S
    rw [List.drop_eq_getElem_cons hi] at S
    cases S with
    | @cons _ dm _ _ t _ ts L S' =>
      have hlen : (us.length + ([t] : List ByteArray).length) * 16 ≤ 140737488355328 := by simp; omega
      obtain ⟨a1, a2, a3, a4⟩ := ih dm d' (us ++ [t]) ts (by simp [hu]) S'
      rw [List.append_assoc, List.singleton_append] at a1 a2 a3 a4
      have e1 := L.i
      have e2 := L.s
      rw [i_DeskSay_l0_eq, i_DeskSay_l1_eq, s_DeskSay_l0_eq, s_DeskSay_l1_eq, cnd_t (by omega), cnd_t (by omega), if_pos (inN hi), if_pos (inN hi), getS hi, e1, e2, Option.bind_some, Option.bind_some, w1 hi (by omega)]
      dsimp only
      rw [if_pos hlen, if_pos hlen]
      exact ⟨a2, a2, a4, a4⟩
/-- All of it. -/
theorem say_val {d : Dk} (h : DkOk d) {ss : List ByteArray} (hl : ss.length ≤ 40) {d' : Dk} {ts : List ByteArray} (S : SayV d ss d' ts) : i_DeskSay_f (d.1, d.2.1, d.2.2.1, d.2.2.2, ss) = some (d'.1, d'.2.1, d'.2.2.1, d'.2.2.2, ts) ∧ s_DeskSay_f (d.1, d.2.1, d.2.2.1, d.2.2.2, ss) = some (d'.1, d'.2.1, d'.2.2.1, d'.2.2.2, ts) := by
  obtain ⟨s1, s2, s3, s4⟩ := desk_sm h
  have hid := idesk d.1 d.2.1 d.2.2.1 d.2.2.2 (by omega) (by omega) s4
  have hsd := sdesk d.1 d.2.1 d.2.2.1 d.2.2.2 (by omega) (by omega) s4
  have hdk : DkP d.1 d.2.1 d.2.2.1 d.2.2.2 := h
  rw [decide_eq_true hdk] at hid hsd
  obtain ⟨a1, _, a3, _⟩ := say_run ss (by omega) 0 0 (by omega) d d' [] ts rfl (by rw [List.drop_zero]; exact S)
  rw [i_DeskSay_f_eq, s_DeskSay_f_eq, hid, hsd, Option.bind_some, Option.bind_some, Bool.not_true, cond_false, cond_false, cnd_f (by omega), cnd_f (by omega), icopy_val hdk, l15Copy_val hdk, Option.bind_some, Option.bind_some]
  exact ⟨a1, a3⟩
theorem say_no {d : Dk} (s2 : d.2.2.1.length ≤ 4611686018427387904) (s3 : d.2.2.2.length ≤ 4611686018427387904) (s4 : ∀ p ∈ d.2.2.2, smP 4611686018427387904 p) {ss : List ByteArray} (h : ¬ (DkOk d ∧ (ss.length : Int) ≤ 40)) : i_DeskSay_f (d.1, d.2.1, d.2.2.1, d.2.2.2, ss) = some ([], 0, [], [], []) ∧ s_DeskSay_f (d.1, d.2.1, d.2.2.1, d.2.2.2, ss) = some ([], 0, [], [], []) := by
  rw [i_DeskSay_f_eq, s_DeskSay_f_eq, idesk _ _ _ _ s2 s3 s4, sdesk _ _ _ _ s2 s3 s4, Option.bind_some, Option.bind_some]
  by_cases hd : DkOk d
  · have hdk : DkP d.1 d.2.1 d.2.2.1 d.2.2.2 := hd
    have h40 : (40 : Int) < (ss.length : Int) := by
      apply Classical.byContradiction
      intro hh
      exact h ⟨hd, by omega⟩
    rw [decide_eq_true hdk, Bool.not_true, cond_false, cond_false, cnd_t h40, cnd_t h40]
    exact ⟨rfl, rfl⟩
  · have hn : ¬ DkP d.1 d.2.1 d.2.2.1 d.2.2.2 := hd
    rw [decide_eq_false hn]
    exact ⟨rfl, rfl⟩
end FN

/-! The law FnDeskLine. -/
namespace FN
open Go
theorem beq_self {a : ByteArray} : (ByteArray.toList a == ByteArray.toList a) = true := by simp
end FN

/-! The law FnDeskSay. -/
namespace FN
open Go
theorem sameTexts_val {a : List ByteArray} (h : a.length ≤ 1000) : w_sameTexts_f (a, a) = some true := by
  rw [w_sameTexts_f_eq, bne_f rfl]
  have main : ∀ i, i ≤ a.length → w_sameTexts_l0 a a (i : Int) = some true := by
    refine advN ?_ fun i hi ih => ?_
    · rw [w_sameTexts_l0_eq, cnd_f (by omega)]
    · rw [w_sameTexts_l0_eq, cnd_t (by omega), if_pos (inN hi), if_pos (inN hi), beq_self, Bool.not_true, cond_false, w1 hi (by omega)]
      exact ih
  exact main 0 (by omega)
theorem drawLines {l : List Int} (hl : Bytes l) (hn : l.length ≤ 2000) (y1 : Int) {a b : List Int} {k : Int} (z : List Pl) (ha : a.length ≤ 100) : ∀ m : Nat, m ≤ 10 → ∀ (p : Int) (out : List ByteArray), 0 ≤ p → p + 100 * (m : Int) ≤ 820000000 → out.length + m ≤ 20 → (∀ s ∈ out, s.size ≤ 40) →
    ∃ ss : List ByteArray, s_DrawDeskSay_l0 (m : Int) y1 l p a k b out z = some (a, k, b, z, ss) ∧ ss.length ≤ 41 ∧ ∀ s ∈ ss, s.size ≤ 40
  | 0, _, p, out, hp, hp', ho, hs => by
    obtain ⟨v, e1, v0, v1⟩ := pick_ok hl hn hp (by omega) (show (1 : Int) ≤ 30 by omega) (by omega)
    have ho30 : ∃ (r : Bool) (q : Int), r_odd_f (l, p, 30) = some (r, q) := by
      rw [r_odd_f_eq, cnd_t (by omega), e1, Option.bind_some, if_pos (by simp)]
      exact ⟨_, _, rfl⟩
    obtain ⟨r, q, e⟩ := ho30
    rw [s_DrawDeskSay_l0_eq, cnd_f (by omega), s_DrawDeskSay_j1_eq, e, Option.bind_some]
    cases r with
    | true =>
      dsimp only
      rw [cond_true, if_pos ⟨by omega, by omega, by omega⟩]
      exact ⟨_, rfl, by simp, fun s hs' => by rw [List.eq_of_mem_replicate hs']; exact Nat.zero_le _⟩
    | false => exact ⟨out, rfl, by omega, hs⟩
  | m + 1, hm, p, out, hp, hp', ho, hs => by
    obtain ⟨t, q, e1, e2, e3, e4⟩ := l20Line_ok hl hn (a := a) (b := b) (k := k) ha hp (by omega)
    rw [s_DrawDeskSay_l0_eq, cnd_t (by omega), e1, Option.bind_some]
    dsimp only
    rw [if_pos (by simp; omega), show IntKind.i64.wrap (((m + 1 : Nat) : Int) - 1) = (m : Int) by rw [i64w (by omega) (by omega)]; omega]
    exact drawLines hl hn y1 z ha m (by omega) q (out ++ [t]) e3 (by omega) (by simp; omega) fun s hs' => by
      rcases List.mem_append.1 hs' with hs' | hs'
      · exact hs s hs'
      · rw [List.mem_singleton] at hs'; rw [hs']; exact e2
theorem drawSay_ok {x : List Int} (hb : Bytes x) : ∃ (d : Dk) (ss : List ByteArray), s_DrawDeskSay_f x = some (d.1, d.2.1, d.2.2.1, d.2.2.2, ss) ∧ d.1.length ≤ 6 ∧ d.2.2.1.length ≤ 6 ∧ d.2.2.2.length ≤ 9 ∧ (∀ p ∈ d.2.2.2, p.1.length ≤ 6 ∧ p.2.2.length ≤ 6) ∧ ss.length ≤ 41 ∧ ∀ s ∈ ss, s.size ≤ 40 := by
  obtain ⟨l, e1, e2, e3⟩ := open_ok hb
  obtain ⟨d, q, e4, s1, s2, s3, s4, q1, q2⟩ := l20Desk_ok e2 e3 12 (by omega) (p := 0) (by omega) (by omega)
  obtain ⟨v, e5, v0, v1⟩ := pick_ok e2 e3 (show 0 ≤ q by omega) (by omega) (show (1 : Int) ≤ 6 by omega) (by omega)
  obtain ⟨m, rfl⟩ : ∃ m : Nat, v = m := ⟨v.toNat, by omega⟩
  obtain ⟨ss, e6, t1, t2⟩ := drawLines e2 e3 0 (a := d.1) (b := d.2.2.1) (k := d.2.1) d.2.2.2 (by omega) m (by omega) (q + 1) [] (by omega) (by omega) (by simp; omega) (fun s hs => by cases hs)
  rw [s_DrawDeskSay_f_eq, e1, Option.bind_some, e4, Option.bind_some]
  dsimp only
  rw [e5, Option.bind_some]
  exact ⟨d, ss, e6, s1, s2, s3, s4, t1, t2⟩
theorem place_back {a b : List Int} {k : Int} (h : PlP a k b) : i_ReadPlace_f (ptx a k b) = some (a, k, b, true) ∧ (ptx a k b).size ≤ 2000 := by
  obtain ⟨Y, hY, _, _, hl⟩ := ptx_told h
  have hm := PlP.sm h
  have hsz : (ptx a k b).data.toList.length ≤ 2000 := by
    rw [hY]
    simp
    omega
  refine ⟨?_, by rw [szD]; exact hsz⟩
  have := i_read (ptx a k b).data.toList (by omega)
  rw [of_data, read_back h] at this
  exact this
theorem dtx_head (k a b : Int) : (dtx k a b).data.toList.head? ≠ some 112 := by
  unfold dtx
  repeat' split
  all_goals simp [str0, str2, str3, str4, str5]
theorem line_place {d : Dk} (h : DkOk d) : i_DeskLine_f (d.1, d.2.1, d.2.2.1, d.2.2.2, str16) = some (d.1, d.2.1, d.2.2.1, d.2.2.2, ptx d.1 d.2.1 d.2.2.1) := by
  obtain ⟨s1, s2, s3, s4⟩ := desk_sm h
  have hid := idesk d.1 d.2.1 d.2.2.1 d.2.2.2 (by omega) (by omega) s4
  have hdk : DkP d.1 d.2.1 d.2.2.1 d.2.2.2 := h
  rw [decide_eq_true hdk] at hid
  have hno : i_ReadDeed_f str16 = some noD := by
    refine deed_no (fun K A B hd => ?_) (by decide)
    have := dtx_head K A B
    rw [hd] at this
    exact absurd rfl this
  rw [i_DeskLine_f_eq, hid, Option.bind_some, Bool.not_true, cond_false, hno, Option.bind_some]
  simp only [cond_false]
  rw [icopy_val hdk, Option.bind_some, ans_place (by omega), Option.bind_some]
/-- Its end. -/
theorem say_end {ss ts f c : List ByteArray} {x : Dk} (hx : DkOk x) (hts : ts.length = ss.length) (h40 : ts.length ≤ 40) (hp : ∀ t ∈ ts, 0 < t.size) (hfc : f ++ c = ts) : w_FnDeskSay_l2 ss ts f c 0 x.1 x.2.1 x.2.2.1 x.2.2.2 x.1 x.2.1 x.2.2.1 x.2.2.2 = some true := by
  have hlen : f.length + c.length = ts.length := by rw [← hfc]; simp
  have hdk : DkP x.1 x.2.1 x.2.2.1 x.2.2.2 := hx
  have hpl : PlP x.1 x.2.1 x.2.2.1 := hx.2.1
  have hm := PlP.sm hpl
  have hj : w_FnDeskSay_j3 ss ts f c x.1 x.2.1 x.2.2.1 x.2.2.2 x.1 x.2.1 x.2.2.1 x.2.2.2 = some true := by
    rw [w_FnDeskSay_j3_eq, line_place hx, Option.bind_some]
    dsimp only
    rw [(place_back hpl).1, Option.bind_some, sameDesk_ok hdk, Option.bind_some, cond_true, if_pos (by simp; omega), if_pos (by simp; omega), List.nil_append, hfc, sameTexts_val (by omega), Option.bind_some, cond_true, beq_t (by omega)]
    dsimp only
    rw [cond_true, samePlace_refl _ _ _ (by omega) (by omega)]
    rfl
  have main : ∀ i, i ≤ ts.length → w_FnDeskSay_l2 ss ts f c (i : Int) x.1 x.2.1 x.2.2.1 x.2.2.2 x.1 x.2.1 x.2.2.1 x.2.2.2 = some true := by
    refine advN ?_ fun i hi ih => ?_
    · rw [w_FnDeskSay_l2_eq, cnd_f (by omega)]
      exact hj
    · have hne : ts[i] ≠ ByteArray.empty := fun e => by
        have := hp ts[i] (List.getElem_mem hi)
        rw [e] at this
        exact absurd this (by decide)
      rw [w_FnDeskSay_l2_eq, cnd_t (by omega), if_pos (inN hi), getS hi, beq_b, if_neg hne, w1 hi (by omega)]
      exact ih
  exact main 0 (by omega)
theorem deskSay_law {x : List Int} (hb : Bytes x) : w_FnDeskSay_f x = some true := by
  rw [w_FnDeskSay_f_eq]
  by_cases h0 : (1048576 : Int) < (x.length : Int)
  · rw [cnd_t h0]
  rw [cnd_f h0]
  obtain ⟨d, ss, e1, s1, s2, s3, s4, s5, s6⟩ := drawSay_ok hb
  have hs' : ∀ p ∈ d.2.2.2, smP 4611686018427387904 p := fun p hp => ⟨by have := (s4 p hp).1; omega, by have := (s4 p hp).2; omega⟩
  have hsd := sdesk d.1 d.2.1 d.2.2.1 d.2.2.2 (by omega) (by omega) hs'
  rw [e1, Option.bind_some]
  dsimp only
  by_cases h : DkOk d ∧ (ss.length : Int) ≤ 40
  · obtain ⟨hd, h40⟩ := h
    have hdk : DkP d.1 d.2.1 d.2.2.1 d.2.2.2 := hd
    have hW : IntKind.i64.wrap (Int.tdiv (ss.length : Int) 2) = ((ss.length / 2 : Nat) : Int) := by
      have e : Int.tdiv (ss.length : Int) 2 = ((ss.length / 2 : Nat) : Int) := by
        rw [Int.tdiv_eq_ediv_of_nonneg (by omega)]; omega
      rw [e]
      exact i64w (by omega) (by omega)
    obtain ⟨d1, t1, S1⟩ := say_ex (ss.take (ss.length / 2)) hd fun s hs => by have := s6 s (List.mem_of_mem_take hs); omega
    obtain ⟨k1, l1, p1⟩ := S1.ok hd
    obtain ⟨d2, t2, S2⟩ := say_ex (ss.drop (ss.length / 2)) k1 fun s hs => by have := s6 s (List.mem_of_mem_drop hs); omega
    obtain ⟨k2, l2, p2⟩ := S2.ok k1
    have S := S1.app S2
    rw [List.take_append_drop] at S
    obtain ⟨v1, v2⟩ := say_val hd (by omega) S
    have u1 := (say_val hd (by rw [List.length_take]; omega) S1).1
    have u2 := (say_val k1 (by rw [List.length_drop]; omega) S2).1
    have hl : (t1 ++ t2).length = ss.length := by
      rw [List.length_append, l1, l2, List.length_take, List.length_drop]; omega
    have hdk2 : DkP d2.1 d2.2.1 d2.2.2.1 d2.2.2.2 := k2
    have hin : (0 : Int) ≤ ((ss.length / 2 : Nat) : Int) ∧ ((ss.length / 2 : Nat) : Int) ≤ (ss.length : Int) := by omega
    rw [v1, v2, Option.bind_some, Option.bind_some]
    dsimp only
    rw [sameDesk_ok hdk2, Option.bind_some, Bool.not_true, cond_false, sameTexts_val (by omega), Option.bind_some, Bool.not_true, cond_false, hsd, Option.bind_some, decide_eq_true hdk, Bool.not_true, cond_false, cnd_f (by omega), w_FnDeskSay_j0_eq, hW, if_pos hin, Int.toNat_natCast, List.drop_zero, u1, Option.bind_some]
    dsimp only
    rw [w_FnDeskSay_j1_eq, if_pos hin, Int.toNat_natCast, List.take_length, u2, Option.bind_some]
    dsimp only
    exact say_end k2 hl (by omega) (fun t ht => by
      rcases List.mem_append.1 ht with ht | ht
      · exact p1 t ht
      · exact p2 t ht) rfl
  · obtain ⟨v1, v2⟩ := say_no (by omega) (by omega) hs' h
    have hz : w_sameDesk_f ([], 0, [], [], [], 0, [], []) = some true := sameDesk_refl [] 0 [] [] (by simp) (by simp) (by simp) (by simp)
    rw [v1, v2, Option.bind_some, Option.bind_some]
    dsimp only
    rw [hz, Option.bind_some, Bool.not_true, cond_false, sameTexts_val (by simp), Option.bind_some, Bool.not_true, cond_false, hsd, Option.bind_some]
    by_cases hd : DkOk d
    · have hdk : DkP d.1 d.2.1 d.2.2.1 d.2.2.2 := hd
      rw [decide_eq_true hdk, Bool.not_true, cond_false, cnd_t (show (40 : Int) < (ss.length : Int) by
        apply Classical.byContradiction
        intro hh
        exact h ⟨hd, by omega⟩), beq_t (show ((([] : List ByteArray).length : Nat) : Int) = 0 from rfl), noDesk_yes, Option.bind_some, cond_true, alive_yes]
      rfl
    · have hn : ¬ DkP d.1 d.2.1 d.2.2.1 d.2.2.2 := hd
      rw [decide_eq_false hn, Bool.not_false, cond_true, beq_t (show ((([] : List ByteArray).length : Nat) : Int) = 0 from rfl), noDesk_yes, Option.bind_some, cond_true, alive_yes]
      rfl
theorem FnDeskSay_true (x : Ts w_FnDeskSay_sig.pc) (hw : WfTs w_FnDeskSay_sig.pc x) : w_FnDeskSay_f x = some true := deskSay_law fun y hy => hw.2 y hy
end FN

