/- Texts of the proof, joined: Plain laws of numbers and lists. -/
import Derived.Test.YthdapnmdllbejaaGreatDoorP0
set_option linter.unusedVariables false
set_option linter.unusedSimpArgs false
set_option linter.unusedSectionVars false
/-! Desks that are drawn. -/
namespace FN
open Go
theorem doO_same {a : List Int} {k : Int} {b : List Int} {l : List Pl} (h : DkP a k b l) (h7 : l.length ≤ 7) (K A B : Int) : s_DeskDoO_f (a, k, b, l, K, A, B) = s_DeskDo_f (a, k, b, l, K, A, B) := by
  have hm := PlP.sm h.2.1
  have hl := h.2.2
  have hsm : ∀ p ∈ l, smP 4611686018427387904 p := fun p hp => by have := PlP.sm (h.1 p hp); exact ⟨by omega, by omega⟩
  obtain ⟨z, κ, st, hz, hst⟩ := made_tot h.2.1 K A B
  obtain ⟨t1, t1', _⟩ := placeText_same z κ st (by omega)
  obtain ⟨t2, t2', _⟩ := placeText_same a k b (by omega)
  have c8 : ¬ (8 : Int) < ((l ++ [(a, k, b)] : List Pl).length : Int) := by
    rw [List.length_append, List.length_singleton]; omega
  rw [s_DeskDoO_f_eq, s_DeskDo_f_eq]
  simp only [sdesk a k b l (by omega) (by omega) hsm, decide_eq_true h, Option.bind_some, Bool.not_true, cond_false, l15Copy_val h, hz, spl z κ st (by omega), t1', t2', decide_eq_false c8, s_DeskDo_j1_eq, s_DeskDoO_j1_eq, List.drop_zero]
/-- What a drawn desk is on its way. -/
def OnWay (m : Nat) (d : Dk) : Prop := (DkOk d ∧ d.2.2.2.length ≤ m) ∨ d = ([], 0, [], [])
theorem noDk : ¬ DkP [] 0 [] [] := fun h => no_zero h.2.1
theorem OnWay.sm {m : Nat} {d : Dk} (h : OnWay m d) : d.1.length ≤ 6 ∧ d.2.2.1.length ≤ 6 ∧ d.2.2.2.length ≤ 8 ∧ ∀ p ∈ d.2.2.2, p.1.length ≤ 6 ∧ p.2.2.length ≤ 6 := by
  rcases h with ⟨h, _⟩ | rfl
  · have := PlP.sm h.2.1
    exact ⟨this.1, this.2, h.2.2, fun p hp => PlP.sm (h.1 p hp)⟩
  · simp
theorem doV_len {d : Dk} (x : Dd3) : (doV d x).1.2.2.2.length ≤ d.2.2.2.length + 1 := by
  unfold doV
  split
  · show (d.2.2.2.take _).length ≤ _
    rw [List.length_take]; omega
  · split
    · show (pastV d).length ≤ _
      unfold pastV
      split
      · rw [List.length_drop, List.length_append, List.length_singleton]; omega
      · rw [List.length_append, List.length_singleton]
        omega
    · show d.2.2.2.length ≤ _
      omega
theorem doO_way {m : Nat} (hm : m ≤ 7) {d : Dk} (h : OnWay m d) (x : Dd3) : ∃ d' t, s_DeskDoO_f (d.1, d.2.1, d.2.2.1, d.2.2.2, x.1, x.2.1, x.2.2) = some (d'.1, d'.2.1, d'.2.2.1, d'.2.2.2, t) ∧ OnWay (m + 1) d' := by
  rcases h with ⟨h, hl⟩ | rfl
  · refine ⟨(doV d x).1, (doV d x).2, ?_, .inl ⟨doV_ok h x, by have := doV_len (d := d) x; omega⟩⟩
    rw [doO_same h (by omega)]
    exact do_val h x
  · refine ⟨([], 0, [], []), false, ?_, .inr rfl⟩
    rw [s_DeskDoO_f_eq, sdesk [] 0 [] [] (by simp) (by simp) (by simp), decide_eq_false noDk, Option.bind_some]
    rfl
theorem OnWay.up {m n : Nat} (hmn : m ≤ n) {d : Dk} (h : OnWay m d) : OnWay n d := by
  rcases h with ⟨h, hl⟩ | h
  · exact .inl ⟨h, by omega⟩
  · exact .inr h
section
variable {l : List Int} (hl : Bytes l) (hn : l.length ≤ 2000)
include hl hn
/-- A drawn desk: its sizes. -/
def DOut (o : Option (List Int × Int × List Int × List Pl × Int)) : Prop := ∃ (d : Dk) (q : Int), o = some (d.1, d.2.1, d.2.2.1, d.2.2.2, q) ∧ d.1.length ≤ 6 ∧ d.2.2.1.length ≤ 6 ∧ d.2.2.2.length ≤ 9 ∧ (∀ p ∈ d.2.2.2, p.1.length ≤ 6 ∧ p.2.2.length ≤ 6) ∧ 0 ≤ q ∧ q ≤ 800000000
theorem desk_j1 (y0 y4 : Int) (hy0 : y0 ≤ 1000) {p : Int} (hp : 0 ≤ p) (hp' : p ≤ 700000000) {m : Nat} {d : Dk} (h : OnWay m d) : DOut (s_l20Desk_j1 l y0 l p y4 d.1 d.2.1 d.2.2.1 d.2.2.2) := by
  obtain ⟨s1, s2, s3, s4⟩ := h.sm
  obtain ⟨bb, q, e1, q1, q2⟩ := odd_ok hl hn hp (by omega) (n := y0) (by omega)
  rw [s_l20Desk_j1_eq, e1, Option.bind_some]
  cases bb with
  | false => simp only [cond_false]; exact ⟨d, q, by simp, s1, s2, by omega, s4, by omega, by omega⟩
  | true =>
    simp only [cond_true]
    obtain ⟨u, e2, u0, u1⟩ := pick_ok hl hn (show 0 ≤ q by omega) (by omega) (show (1 : Int) ≤ 3 by omega) (by omega)
    rw [e2, Option.bind_some]
    simp only
    by_cases c0 : u = 0
    · rw [beq_t c0]
      exact ⟨(d.1, 2, d.2.2.1, d.2.2.2), q + 1, by simp, s1, s2, by show d.2.2.2.length ≤ 9; omega, s4, by omega, by omega⟩
    · rw [beq_f c0]
      by_cases c1 : u = 1
      · rw [beq_t c1, if_pos (by rw [List.length_singleton]; omega)]
        refine ⟨(d.1, d.2.1, d.2.2.1, d.2.2.2 ++ [([], 0, [])]), q + 1, by simp, s1, s2, ?_, ?_, by omega, by omega⟩
        · show (d.2.2.2 ++ [([], 0, [])]).length ≤ 9
          rw [List.length_append, List.length_singleton]; omega
        · intro p hp
          rcases List.mem_append.1 hp with hp | hp
          · exact s4 p hp
          · have : p = ([], 0, []) := by simpa using hp
            rw [this]; simp
      · rw [beq_f c1]
        exact ⟨([], 0, [], []), q + 1, by simp, by simp, by simp, by simp, by simp, by omega, by omega⟩
theorem desk_loop (y0 y4 : Int) (hy0 : y0 ≤ 1000) : ∀ m : Nat, m ≤ 4 → ∀ (p : Int) (d : Dk), 0 ≤ p → p + 100 * (m : Int) ≤ 600000000 → OnWay (4 - m) d → DOut (s_l20Desk_l0 l y0 (m : Int) l p y4 d.1 d.2.1 d.2.2.1 d.2.2.2) := by
  intro m
  induction m with
  | zero =>
    intro _ p d hp hp' h
    rw [s_l20Desk_l0_eq, cnd_f (by omega)]
    exact desk_j1 hl hn y0 y4 hy0 hp (by omega) h
  | succ m ih =>
    intro hm p d hp hp' h
    obtain ⟨s1, s2, s3, s4⟩ := h.sm
    obtain ⟨K, A, B, q, e2, q1, q2⟩ := l20Deed_ok hl hn (a := d.1) (b := d.2.2.1) (k := d.2.1) (by omega) hp (by omega)
    obtain ⟨d', t, e3, h3⟩ := doO_way (by omega) h (K, A, B)
    simp only at e3
    have hm1 : IntKind.i64.wrap (((m + 1 : Nat) : Int) - 1) = (m : Int) := by rw [wsub (by omega) (by omega)]; omega
    rw [s_l20Desk_l0_eq, cnd_t (by omega), e2, Option.bind_some]
    simp only
    rw [e3, Option.bind_some, hm1]
    cases t with
    | true => exact ih (by omega) q d' (by omega) (by omega) (h3.up (by omega))
    | false => exact ih (by omega) q d (by omega) (by omega) (h.up (by omega))
theorem l20Desk_ok (y0 : Int) (hy0 : y0 ≤ 1000) {p : Int} (hp : 0 ≤ p) (hp' : p ≤ 400000000) : DOut (s_l20Desk_f (l, p, y0)) := by
  obtain ⟨a, k, b, q, e1, h1, h2, q1, q2⟩ := l20Place_ok hl hn (n := 0) (by omega) hp (by omega)
  obtain ⟨u, e3, u0, u1⟩ := pick_ok hl hn (show 0 ≤ q by omega) (by omega) (show (1 : Int) ≤ 5 by omega) (by omega)
  have hnew : ∃ d : Dk, ∃ t, s_DeskNew_f (a, k, b) = some (d.1, d.2.1, d.2.2.1, d.2.2.2, t) ∧ OnWay 0 d := by
    rw [s_DeskNew_f_eq, spl a k b (by omega), Option.bind_some]
    by_cases h : PlP a k b
    · rw [decide_eq_true h, Bool.not_true, cond_false, l15Place_val a k b (by omega) (by omega), Option.bind_some]
      exact ⟨(a, k, b, []), true, rfl, .inl ⟨⟨by simp, h, by simp⟩, by simp⟩⟩
    · rw [decide_eq_false h]
      exact ⟨([], 0, [], []), false, rfl, .inr rfl⟩
  obtain ⟨d, t, e2, hd⟩ := hnew
  obtain ⟨m, rfl⟩ : ∃ m : Nat, u = m := ⟨u.toNat, by omega⟩
  rw [s_l20Desk_f_eq, e1, Option.bind_some]
  simp only
  rw [e2, Option.bind_some]
  simp only
  rw [e3, Option.bind_some]
  exact desk_loop hl hn y0 0 hy0 m (by omega) (q + 1) d (by omega) (by omega) (hd.up (by omega))
theorem deeds_loop {a b : List Int} {k : Int} (ha : a.length ≤ 100) : ∀ m : Nat, m ≤ 10 → ∀ (p : Int) (out : List Dd3), 0 ≤ p → p + 100 * (m : Int) ≤ 840000000 → out.length + m ≤ 20 → ∃ (ds : List Dd3) (q : Int), s_l20Deeds_l0 l (m : Int) l p a k b out = some (ds, q) ∧ ds.length ≤ 20 := by
  intro m
  induction m with
  | zero =>
    intro _ p out hp hp' ho
    rw [s_l20Deeds_l0_eq, cnd_f (by omega), if_pos ⟨rfl, rfl⟩]
    exact ⟨_, _, rfl, by omega⟩
  | succ m ih =>
    intro hm p out hp hp' ho
    obtain ⟨K, A, B, q, e2, q1, q2⟩ := l20Deed_ok hl hn (a := a) (b := b) (k := k) ha hp (by omega)
    have hm1 : IntKind.i64.wrap (((m + 1 : Nat) : Int) - 1) = (m : Int) := by rw [wsub (by omega) (by omega)]; omega
    rw [s_l20Deeds_l0_eq, cnd_t (by omega), e2, Option.bind_some, if_pos (by rw [List.length_singleton]; omega), hm1]
    exact ih (by omega) q _ (by omega) (by omega) (by rw [List.length_append, List.length_singleton]; omega)
theorem l20Deeds_ok {a b : List Int} {k : Int} (ha : a.length ≤ 100) {p : Int} (hp : 0 ≤ p) (hp' : p ≤ 830000000) : ∃ (ds : List Dd3) (q : Int), s_l20Deeds_f (l, p, a, k, b) = some (ds, q) ∧ ds.length ≤ 20 := by
  obtain ⟨u, e3, u0, u1⟩ := pick_ok hl hn hp (by omega) (show (1 : Int) ≤ 6 by omega) (by omega)
  obtain ⟨m, rfl⟩ : ∃ m : Nat, u = m := ⟨u.toNat, by omega⟩
  rw [s_l20Deeds_f_eq, e3, Option.bind_some]
  exact deeds_loop hl hn ha m (by omega) (p + 1) [] (by omega) (by omega) (by simp; omega)
end
/-- A drawn desk with deeds. -/
theorem drawRun_ok {x : List Int} (hb : Bytes x) : ∃ (d : Dk) (ds : List Dd3), s_DrawDeskRun_f x = some (d.1, d.2.1, d.2.2.1, d.2.2.2, ds) ∧ d.1.length ≤ 6 ∧ d.2.2.1.length ≤ 6 ∧ d.2.2.2.length ≤ 9 ∧ (∀ p ∈ d.2.2.2, p.1.length ≤ 6 ∧ p.2.2.length ≤ 6) ∧ ds.length ≤ 41 := by
  obtain ⟨l, e1, e2, e3⟩ := open_ok hb
  obtain ⟨d, q, e4, s1, s2, s3, s4, q1, q2⟩ := l20Desk_ok e2 e3 12 (by omega) (p := 0) (by omega) (by omega)
  obtain ⟨bb, q', e5, q3, q4⟩ := odd_ok e2 e3 q1 (by omega) (n := 30) (by omega)
  rw [s_DrawDeskRun_f_eq, e1, Option.bind_some, e4, Option.bind_some]
  simp only
  rw [e5, Option.bind_some]
  cases bb with
  | true =>
    simp only [cond_true]
    rw [if_pos ⟨by omega, by omega, by omega⟩]
    exact ⟨d, List.replicate 41 (0, 0, 0), rfl, s1, s2, s3, s4, by simp⟩
  | false =>
    simp only [cond_false]
    obtain ⟨ds, q'', e6, h6⟩ := l20Deeds_ok e2 e3 (a := d.1) (b := d.2.2.1) (k := d.2.1) (by omega) (p := q') (by omega) (by omega)
    rw [e6, Option.bind_some]
    exact ⟨d, ds, rfl, s1, s2, s3, s4, by omega⟩
end FN
namespace FN
open Go
theorem deed_sameB (s : ByteArray) (h : s.size ≤ 4294967280) : ∃ r, i_ReadDeed_f s = some r ∧ s_ReadDeed_f s = some r ∧ (r = noD ∧ (∀ k a b, dtx k a b = s → s = ByteArray.empty) ∨ ∃ k a b, r = (k, a, b, true) ∧ dtx k a b = s ∧ s ≠ ByteArray.empty) := by
  have := deed_same s.data.toList (by rw [← szD]; exact h)
  rwa [of_data] at this
end FN
/-! Journals read: both alike. -/
namespace FN
open Go
noncomputable def rdr (L : List UInt8) : Int × Int × Int × Bool := (i_ReadDeed_f (ofL L)).getD noD
theorem rdr_val (L : List UInt8) (hL : L.length ≤ 4294967280) : i_ReadDeed_f (ofL L) = some (rdr L) ∧ s_ReadDeed_f (ofL L) = some (rdr L) := by
  obtain ⟨r, h1, h2, _⟩ := deed_same L hL
  have : rdr L = r := by unfold rdr; rw [h1]; rfl
  rw [this]; exact ⟨h1, h2⟩
abbrev dOf (r : Int × Int × Int × Bool) : Dd3 := (r.1, r.2.1, r.2.2.1)
/-- The deeds of the lines, and how many bytes these have; p: what the line has so far. -/
noncomputable def js : List UInt8 → List UInt8 → List Dd3 × Nat
  | _, [] => ([], 0)
  | p, x :: R => if x = 10 then (if (rdr p).2.2.2 = true then (dOf (rdr p) :: (js [] R).1, p.length + 1 + (js [] R).2) else ([], 0)) else js (p ++ [x]) R
theorem js_pre : ∀ (a p R : List UInt8), (10 : UInt8) ∉ a → js p (a ++ R) = js (p ++ a) R
  | [], p, R, _ => by simp
  | x :: a, p, R, h => by
    have h1 : x ≠ 10 := fun e => h (by simp [e])
    have h2 : (10 : UInt8) ∉ a := fun e => h (by simp [e])
    rw [List.cons_append, js, if_neg h1, js_pre a (p ++ [x]) R h2]
    simp
theorem js_none {a : List UInt8} (h : (10 : UInt8) ∉ a) : js [] a = ([], 0) := by
  have := js_pre a [] [] h
  rw [List.append_nil] at this
  rw [this, js]
theorem js_line {a R : List UInt8} (h : (10 : UInt8) ∉ a) : js [] (a ++ 10 :: R) = if (rdr a).2.2.2 = true then (dOf (rdr a) :: (js [] R).1, a.length + 1 + (js [] R).2) else ([], 0) := by
  rw [js_pre a [] _ h, List.nil_append, js, if_pos rfl]
theorem js_le : ∀ (R p : List UInt8), (js p R).2 ≤ p.length + R.length ∧ (js p R).1.length ≤ R.length
  | [], p => by simp [js]
  | x :: R, p => by
    have h1 := js_le R []
    have h2 := js_le R (p ++ [x])
    rw [js]
    split
    · split
      · simp at h1 ⊢; omega
      · simp
    · simp at h2 ⊢; omega
theorem cut_one : ∀ R : List UInt8, ((10 : UInt8) ∉ R ∧ Lib.index R [10] = -1) ∨ ∃ a S, R = a ++ 10 :: S ∧ (10 : UInt8) ∉ a ∧ Lib.index R [10] = (a.length : Int)
  | [] => .inl ⟨by simp, by simp [Lib.index]⟩
  | x :: R => by
    by_cases h : x = 10
    · subst h
      have hix : Lib.index (10 :: R) [10] = 0 := by rw [Lib.index]; simp [List.isPrefixOf]
      exact .inr ⟨[], R, rfl, by simp, hix⟩
    · have hp : ([10] : List UInt8).isPrefixOf (x :: R) = false := by simp [List.isPrefixOf, Ne.symm h]
      have hix : Lib.index (x :: R) [10] = if Lib.index R [10] == -1 then -1 else Lib.index R [10] + 1 := by rw [Lib.index, hp]; simp
      rcases cut_one R with ⟨h1, h2⟩ | ⟨a, S, h1, h2, h3⟩
      · have hr : Lib.index (x :: R) [10] = -1 := by rw [hix, h2]; rfl
        exact .inl ⟨by simp [Ne.symm h, h1], hr⟩
      · have hr : Lib.index (x :: R) [10] = ((x :: a).length : Int) := by
          rw [hix, h3, if_neg (by rw [beq_iff_eq]; omega)]
          simp
        exact .inr ⟨x :: a, S, by rw [h1]; rfl, by simp [Ne.symm h, h2], hr⟩
theorem s_journal (L : List UInt8) (hL : L.length ≤ 1048577) : ∀ k, k ≤ L.length → ∀ (f : Nat) (out : List Dd3), f ≤ k → out.length ≤ k →
    s_ReadJournal_l0 (ofL L) (f : Int) (k : Int) out = some (out ++ (js ((L.take k).drop f) (L.drop k)).1, ((f + (js ((L.take k).drop f) (L.drop k)).2 : Nat) : Int)) := by
  refine advN ?_ fun k hk ih => ?_
  · intro f out hf ho
    rw [s_ReadJournal_l0_eq, ofL_size, cnd_f (by omega), List.drop_length, js]
    simp
  · intro f out hf ho
    have hx : L.drop k = L[k] :: L.drop (k + 1) := List.drop_eq_getElem_cons hk
    have hl : ((L.take k).drop f).length = k - f := by rw [List.length_drop, List.length_take]; omega
    rw [s_ReadJournal_l0_eq, ofL_size, cnd_t (by omega), if_pos (inN hk), dgt hk, hx, w1 hk (by omega), js]
    by_cases hc : L[k] = 10
    · rw [beq_t (by rw [hc]; rfl), if_pos ⟨by omega, by omega⟩, if_pos ⟨by omega, by omega⟩, ext_of, Int.toNat_natCast, Int.toNat_natCast, (rdr_val _ (by rw [hl]; omega)).2, Option.bind_some, if_pos hc]
      cases hr : (rdr ((L.take k).drop f)).2.2.2 with
      | false =>
        rw [Bool.not_false, cond_true, if_neg (by simp)]
        simp
      | true =>
        have e : (L.take (k + 1)).drop (k + 1) = [] := List.drop_eq_nil_of_le (by rw [List.length_take]; omega)
        rw [Bool.not_true, cond_false, if_pos (by simp; omega), if_pos rfl, ih (k + 1) _ (by omega) (by simp; omega), e]
        simp only [List.append_assoc, List.singleton_append, hl]
        rw [show k + 1 + (js [] (List.drop (k + 1) L)).2 = f + (k - f + 1 + (js [] (List.drop (k + 1) L)).2) by omega]
    · have hne : (L[k].toNat : Int) ≠ 10 := fun h => hc (UInt8.toNat_inj.1 (by show L[k].toNat = 10; omega))
      have e : (L.take (k + 1)).drop f = (L.take k).drop f ++ [L[k]] := by
        rw [List.take_succ_eq_append_getElem hk, List.drop_append_of_le_length (by rw [List.length_take]; omega)]
      rw [beq_f hne, ih f out (by omega) (by omega), if_neg hc, e]
theorem i_journal (L : List UInt8) (hL : L.length ≤ 1048577) : ∀ n (k : Nat) (out : List Dd3), L.length - k ≤ n → k ≤ L.length → out.length ≤ k →
    i_ReadJournal_l0 (ofL L) (k : Int) out = some (out ++ (js [] (L.drop k)).1, ((k + (js [] (L.drop k)).2 : Nat) : Int)) := by
  intro n
  induction n with
  | zero =>
    intro k out hn hk ho
    have hd : L.drop k = [] := List.drop_eq_nil_of_le (by omega)
    rw [i_ReadJournal_l0_eq, ofL_size, if_pos ⟨by omega, by omega⟩, ext_of, Int.toNat_natCast, List.take_length, hd]
    have hcut : x_strings_Cut_f (ofL [], str13) = some (ofL [], ofL [], false) := by
      unfold x_strings_Cut_f
      rw [if_pos (by rw [ofL_size]; simp)]
      rfl
    rw [hcut, Option.bind_some]
    simp only
    rw [(rdr_val [] (by simp)).1, Option.bind_some, Bool.not_false, cond_true, js]
    simp
  | succ n ih =>
    intro k out hn hk ho
    rw [i_ReadJournal_l0_eq, ofL_size, if_pos ⟨by omega, by omega⟩, ext_of, Int.toNat_natCast, List.take_length]
    have hRl : (L.drop k).length = L.length - k := List.length_drop
    have hcut : x_strings_Cut_f (ofL (L.drop k), str13) = some (cut3 (ofL (L.drop k)) str13) := by
      unfold x_strings_Cut_f
      rw [if_pos (by rw [ofL_size, hRl]; omega)]
    rw [hcut, Option.bind_some]
    rcases cut_one (L.drop k) with ⟨h1, h2⟩ | ⟨a, S, h1, h2, h3⟩
    · have hc : cut3 (ofL (L.drop k)) str13 = (ofL (L.drop k), ofL [], false) := by
        unfold cut3
        have : Lib.cut (ofL (L.drop k)).data.toList str13.data.toList = (L.drop k, [], false) := by
          rw [ofL_data, show str13.data.toList = [10] from rfl]
          unfold Lib.cut
          rw [h2]; rfl
        rw [this]; rfl
      rw [hc]
      simp only
      rw [(rdr_val _ (by rw [hRl]; omega)).1, Option.bind_some, Bool.not_false, cond_true, js_none h1]
      simp
    · have hc : cut3 (ofL (L.drop k)) str13 = (ofL a, ofL S, true) := by
        unfold cut3
        have : Lib.cut (ofL (L.drop k)).data.toList str13.data.toList = (a, S, true) := by
          rw [ofL_data, show str13.data.toList = [10] from rfl]
          unfold Lib.cut
          rw [h3, h1]
          simp
        rw [this]; rfl
      have hlen : (L.drop k).length = a.length + (S.length + 1) := by rw [h1]; simp
      have hS : S = L.drop (k + (a.length + 1)) := by
        rw [← List.drop_drop, h1]
        simp
      rw [hc]
      simp only
      rw [(rdr_val a (by omega)).1, Option.bind_some, Bool.not_true, cond_false, h1, js_line h2]
      cases hr : (rdr a).2.2.2 with
      | false =>
        rw [Bool.not_false, cond_true, if_neg (by simp)]
        simp
      | true =>
        have e1 : IntKind.i64.wrap ((a.length : Int) + 1) = (a.length : Int) + 1 := i64w (by omega) (by omega)
        have e2 : IntKind.i64.wrap ((k : Int) + ((a.length : Int) + 1)) = ((k + (a.length + 1) : Nat) : Int) := by rw [i64w (by omega) (by omega)]; omega
        rw [Bool.not_true, cond_false, if_pos (by simp; omega), if_pos rfl, ofL_size, e1, e2, ih (k + (a.length + 1)) _ (by omega) (by omega) (by simp; omega), ← hS]
        simp only [List.append_assoc, List.singleton_append]
        rw [show k + (a.length + 1) + (js [] S).2 = k + (a.length + 1 + (js [] S).2) by omega]
theorem journal_both (L : List UInt8) (hL : L.length ≤ 1048577) : i_ReadJournal_f (ofL L) = some ((js [] L).1, ((js [] L).2 : Int)) ∧ s_ReadJournal_f (ofL L) = some ((js [] L).1, ((js [] L).2 : Int)) := by
  have h1 := i_journal L hL L.length 0 [] (by omega) (by omega) (by simp)
  have h2 := s_journal L hL 0 (by omega) 0 [] (by omega) (by simp)
  rw [i_ReadJournal_f_eq, s_ReadJournal_f_eq]
  refine ⟨?_, ?_⟩
  · simpa using h1
  · simpa using h2
end FN
/-! What is read of a journal: its parts. -/
namespace FN
open Go
def okD (d : Dd3) : Prop := dtx d.1 d.2.1 d.2.2 ≠ ByteArray.empty
instance (d : Dd3) : Decidable (okD d) := inferInstanceAs (Decidable (¬ _))
/-- The text of a journal. -/
def jt : List Dd3 → List UInt8
  | [] => []
  | d :: l => (dtx d.1 d.2.1 d.2.2).data.toList ++ 10 :: jt l
theorem no10 {k a b : Int} (h : dtx k a b ≠ ByteArray.empty) : (10 : UInt8) ∉ (dtx k a b).data.toList := by
  have nA : ∀ {a : Int}, 0 ≤ a → a ≤ 99 → (10 : UInt8) ∉ (itoaS a).data.toList := fun h0 h1 => (it_l h0 h1).2.1
  have n1 : (10 : UInt8) ∉ str1.data.toList := by decide
  have n0 : (10 : UInt8) ∉ str0.data.toList := by decide
  have n2 : (10 : UInt8) ∉ str2.data.toList := by decide
  have n3 : (10 : UInt8) ∉ str3.data.toList := by decide
  unfold dtx at h ⊢
  by_cases hr : 0 ≤ a ∧ a ≤ 99 ∧ 0 ≤ b ∧ b ≤ 99
  · rw [if_pos hr]
    have hA := nA (a := a) (by omega) (by omega)
    have hB := nA (a := b) (by omega) (by omega)
    repeat' split
    · simp only [ba_app, List.mem_append, not_or]; exact ⟨⟨⟨n0, hA⟩, n1⟩, hB⟩
    · decide
    · simp only [ba_app, List.mem_append, not_or]; exact ⟨n2, hA⟩
    · simp only [ba_app, List.mem_append, not_or]; exact ⟨n3, hA⟩
    all_goals decide
  · rw [if_neg hr]; decide
theorem jt_back : ∀ l : List Dd3, (∀ d ∈ l, okD d) → js [] (jt l) = (l, (jt l).length)
  | [], _ => by simp [jt, js]
  | d :: l, h => by
    have hd : dtx d.1 d.2.1 d.2.2 ≠ ByteArray.empty := h d (by simp)
    have hr : rdr (dtx d.1 d.2.1 d.2.2).data.toList = (d.1, d.2.1, d.2.2, true) := by
      unfold rdr
      rw [of_data, i_back hd]
      rfl
    rw [jt, js_line (no10 hd), hr, jt_back l fun d hm => h d (by simp [hm])]
    simp
    omega
/-- What a line tells is its deed. -/
theorem rdr_of {d : Dd3} (h : okD d) : rdr (dtx d.1 d.2.1 d.2.2).data.toList = (d.1, d.2.1, d.2.2, true) := by
  unfold rdr
  rw [of_data, i_back h]
  rfl
theorem rdr_ok {a : List UInt8} (ha : a.length ≤ 4294967280) (h : (rdr a).2.2.2 = true) : okD (dOf (rdr a)) ∧ (dtx (dOf (rdr a)).1 (dOf (rdr a)).2.1 (dOf (rdr a)).2.2).data.toList = a := by
  obtain ⟨r, h1, _, h3⟩ := deed_same a ha
  have hr : rdr a = r := by unfold rdr; rw [h1]; rfl
  rw [hr] at h ⊢
  rcases h3 with ⟨rfl, _⟩ | ⟨k, x, b, rfl, e1, e2⟩
  · cases h
  · have e : dtx k x b = ofL a := e1
    refine ⟨fun hh => e2 ?_, ?_⟩
    · rw [← e1]; exact hh
    · show (dtx k x b).data.toList = a
      rw [e, ofL_data]
/-- All of it is read: what comes behind is read, too. -/
theorem js_app : ∀ n (L : List UInt8), L.length ≤ n → ∀ M : List UInt8, (js [] L).2 = L.length → js [] (L ++ M) = ((js [] L).1 ++ (js [] M).1, L.length + (js [] M).2)
  | 0, L, hl, M, _ => by
    have : L = [] := List.eq_nil_of_length_eq_zero (by omega)
    subst this
    simp [js]
  | n + 1, L, hl, M, h => by
    rcases cut_one L with ⟨h1, _⟩ | ⟨a, S, h1, h2, _⟩
    · rw [js_none h1] at h
      have : L = [] := List.eq_nil_of_length_eq_zero h.symm
      subst this
      simp [js]
    · subst h1
      have hSl : S.length ≤ n := by simp at hl; omega
      rw [List.append_assoc, List.cons_append, js_line h2, js_line h2] at *
      cases hr : (rdr a).2.2.2 with
      | false => rw [hr] at h; simp at h
      | true =>
        rw [hr] at h
        simp only [if_true] at h ⊢
        have hS : (js [] S).2 = S.length := by simp at h; omega
        rw [js_app n S hSl M hS]
        simp only [List.cons_append, List.length_append, List.length_cons]
        rw [show a.length + 1 + (S.length + (js [] M).2) = a.length + (S.length + 1) + (js [] M).2 by omega]
/-- What is read is read again. -/
theorem js_self : ∀ n (L : List UInt8), L.length ≤ n → js [] (L.take (js [] L).2) = js [] L
  | 0, L, hl => by
    have : L = [] := List.eq_nil_of_length_eq_zero (by omega)
    subst this
    simp [js]
  | n + 1, L, hl => by
    rcases cut_one L with ⟨h1, _⟩ | ⟨a, S, h1, h2, _⟩
    · rw [js_none h1]; simp [js]
    · subst h1
      have hSl : S.length ≤ n := by simp at hl; omega
      rw [js_line h2]
      cases hr : (rdr a).2.2.2 with
      | false => simp [js]
      | true =>
        simp only [if_true]
        rw [show a.length + 1 + (js [] S).2 = (a ++ [10]).length + (js [] S).2 by simp, show a ++ 10 :: S = (a ++ [10]) ++ S by simp, List.take_length_add_append, List.append_assoc, List.singleton_append, js_line h2, hr, js_self n S hSl]
        simp
/-- Of a beginning the first ones are read. -/
theorem js_pre_take : ∀ n (L : List UInt8), L.length ≤ n → ∀ k, (js [] (L.take k)).1 <+: (js [] L).1
  | 0, L, hl, k => by
    have : L = [] := List.eq_nil_of_length_eq_zero (by omega)
    subst this
    simp
  | n + 1, L, hl, k => by
    rcases cut_one L with ⟨h1, _⟩ | ⟨a, S, h1, h2, _⟩
    · rw [js_none (fun h => h1 (List.mem_of_mem_take h))]
      exact List.nil_prefix
    · subst h1
      have hSl : S.length ≤ n := by simp at hl; omega
      by_cases hk : k ≤ a.length
      · rw [List.take_append_of_le_length hk, js_none (fun h => h2 (List.mem_of_mem_take h))]
        exact List.nil_prefix
      · obtain ⟨m, rfl⟩ : ∃ m, k = (a ++ [10]).length + m := ⟨k - (a.length + 1), by simp; omega⟩
        rw [show a ++ 10 :: S = (a ++ [10]) ++ S by simp, List.take_length_add_append, List.append_assoc, List.append_assoc, List.singleton_append, List.singleton_append, js_line h2, js_line h2]
        cases (rdr a).2.2.2 with
        | false => simp
        | true =>
          simp only [if_true]
          exact List.cons_prefix_cons.2 ⟨rfl, js_pre_take n S hSl m⟩
theorem js_mono (L : List UInt8) {k m : Nat} (h : k ≤ m) : (js [] (L.take k)).1 <+: (js [] (L.take m)).1 := by
  have := js_pre_take (L.take m).length (L.take m) (Nat.le_refl _) k
  rwa [List.take_take, Nat.min_eq_left h] at this
/-- The deeds that are read have texts; and these are what was read. -/
theorem js_text : ∀ n (L : List UInt8), L.length ≤ n → L.length ≤ 4294967280 → (∀ d ∈ (js [] L).1, okD d) ∧ jt (js [] L).1 = L.take (js [] L).2
  | 0, L, hl, _ => by
    have : L = [] := List.eq_nil_of_length_eq_zero (by omega)
    subst this
    simp [js, jt]
  | n + 1, L, hl, hb => by
    rcases cut_one L with ⟨h1, _⟩ | ⟨a, S, h1, h2, _⟩
    · rw [js_none h1]; simp [jt]
    · subst h1
      have hSl : S.length ≤ n := by simp at hl; omega
      have hal : a.length + (S.length + 1) ≤ 4294967280 := by simpa using hb
      rw [js_line h2]
      cases hr : (rdr a).2.2.2 with
      | false => simp [jt]
      | true =>
        obtain ⟨i1, i2⟩ := js_text n S hSl (by omega)
        obtain ⟨r1, r2⟩ := rdr_ok (by omega) hr
        simp only [if_true]
        refine ⟨fun d hd => ?_, ?_⟩
        · rcases List.mem_cons.1 hd with rfl | hd
          · exact r1
          · exact i1 d hd
        · rw [jt, r2, i2, show a.length + 1 + (js [] S).2 = (a ++ [10]).length + (js [] S).2 by simp, show a ++ 10 :: S = (a ++ [10]) ++ S by simp, List.take_length_add_append]
          simp
theorem jt_app : ∀ (l m : List Dd3), jt (l ++ m) = jt l ++ jt m
  | [], m => rfl
  | d :: l, m => by rw [List.cons_append, jt, jt, jt_app l m]; simp
end FN
/-! Journals written, and read back. -/
namespace FN
open Go
theorem jt_len : ∀ l : List Dd3, (jt l).length ≤ 21 * l.length
  | [] => by simp [jt]
  | d :: l => by
    have h1 := jt_len l
    have h2 := (deed_val d.1 d.2.1 d.2.2).2.2
    rw [szD] at h2
    rw [jt, List.length_append, List.length_cons, List.length_cons]
    omega
theorem jtext (a : List Dd3) (ha : a.length ≤ 1048576) : ∀ i, i ≤ a.length → ∀ acc : ByteArray, acc.size ≤ 30 * i → ∃ t : ByteArray, s_JournalText_l0 a acc (i : Int) = some t ∧ i_JournalText_l0 acc a (a.length : Int) (i : Int) = some t ∧ ((∀ d ∈ a.drop i, okD d) → t = acc ++ ofL (jt (a.drop i))) ∧ (¬ (∀ d ∈ a.drop i, okD d) → t = ByteArray.empty) := by
  refine advN ?_ fun i hi ih => ?_
  · intro acc hs
    rw [s_JournalText_l0_eq, i_JournalText_l0_eq, cnd_f (by omega), cnd_f (by omega), List.drop_length]
    exact ⟨acc, rfl, rfl, fun _ => by rw [jt, show ofL [] = ByteArray.empty from rfl, ByteArray.append_empty], fun h => absurd (by simp) h⟩
  · intro acc hs
    have hd : a.drop i = a.getD i (0, 0, 0) :: a.drop (i + 1) := by
      rw [List.drop_eq_getElem_cons hi, List.getD_eq_getElem?_getD, List.getElem?_eq_getElem hi]; rfl
    obtain ⟨e1, e2, hz⟩ := deed_val (a.getD i (0, 0, 0)).1 (a.getD i (0, 0, 0)).2.1 (a.getD i (0, 0, 0)).2.2
    have z13 : ByteArray.size str13 = 1 := rfl
    rw [s_JournalText_l0_eq, i_JournalText_l0_eq, cnd_t (by omega), cnd_t (by omega), if_pos (inN hi), if_pos (inN hi), if_pos (inN hi), gD3, e1, Option.bind_some, Option.bind_some, e2, Option.bind_some, beq_b, beq_b, hd]
    by_cases hc : dtx (a.getD i (0, 0, 0)).1 (a.getD i (0, 0, 0)).2.1 (a.getD i (0, 0, 0)).2.2 = ByteArray.empty
    · rw [if_pos hc, if_pos hc]
      exact ⟨ByteArray.empty, rfl, rfl, fun h => absurd hc (h _ (by simp)), fun _ => rfl⟩
    · rw [if_neg hc, if_neg hc, if_pos (by omega), if_pos (by rw [ByteArray.size_append, z13]; omega), if_pos (by rw [z13]; omega), if_pos (by rw [ByteArray.size_append, z13]; omega), w1 hi (by omega), ← ByteArray.append_assoc]
      obtain ⟨t, t1, t2, t3, t4⟩ := ih ((acc ++ dtx (a.getD i (0, 0, 0)).1 (a.getD i (0, 0, 0)).2.1 (a.getD i (0, 0, 0)).2.2) ++ str13) (by rw [ByteArray.size_append, ByteArray.size_append, z13]; omega)
      refine ⟨t, t1, t2, fun h => ?_, fun h => t4 fun h2 => h fun d hm => ?_⟩
      · rw [t3 fun d hm => h d (by simp [hm]), jt]
        apply ba_ext
        rw [ba_app, ba_app, ba_app, ba_app, ofL_data, ofL_data, show str13.data.toList = [10] from rfl]
        simp
      · rcases List.mem_cons.1 hm with hm | hm
        · rw [hm]; exact hc
        · exact h2 d hm
theorem journal_text (l : List Dd3) (hl : l.length ≤ 1048576) : ∃ t : ByteArray, s_JournalText_f l = some t ∧ i_JournalText_f l = some t ∧ ((∀ d ∈ l, okD d) → t = ofL (jt l)) ∧ (¬ (∀ d ∈ l, okD d) → t = ByteArray.empty) := by
  obtain ⟨t, h1, h2, h3, h4⟩ := jtext l hl 0 (by omega) ByteArray.empty (by decide)
  rw [List.drop_zero] at h3 h4
  refine ⟨t, by rw [s_JournalText_f_eq]; exact h1, by rw [i_JournalText_f_eq]; exact h2, fun h => ?_, h4⟩
  rw [h3 h, ByteArray.empty_append]
end FN
/-! The same desk is told so. -/
namespace FN
open Go
theorem sameDesk_loop (a : List Int) (k : Int) (b : List Int) (l : List Pl) (hl : l.length ≤ 4611686018427387904) (hs : ∀ p ∈ l, smP 4611686018427387904 p) : ∀ i, i ≤ l.length → w_sameDesk_l0 (i : Int) a k b l a k b l = some true := by
  refine advN ?_ fun i hi ih => ?_
  · rw [w_sameDesk_l0_eq, cnd_f (by omega)]
  · rw [w_sameDesk_l0_eq, cnd_t (by omega), if_pos (inN hi), if_pos (inN hi), gP, w1 hi (by omega)]
    have hm := hs _ (getD_mem (d := ([], 0, [])) hi)
    rw [samePlace_refl _ _ _ hm.1 hm.2, Option.bind_some]
    exact ih
theorem sameDesk_refl (a : List Int) (k : Int) (b : List Int) (l : List Pl) (ha : a.length ≤ 4611686018427387904) (hb : b.length ≤ 4611686018427387904) (hl : l.length ≤ 4611686018427387904) (hs : ∀ p ∈ l, smP 4611686018427387904 p) : w_sameDesk_f (a, k, b, l, a, k, b, l) = some true := by
  rw [w_sameDesk_f_eq, samePlace_refl a k b ha hb, Option.bind_some, bne_f rfl]
  exact sameDesk_loop a k b l hl hs 0 (by omega)
theorem noDesk_yes : w_noDesk_f ([], 0, [], []) = some true := by
  rw [w_noDesk_f_eq, sameDesk_refl [] 0 [] [] (by simp) (by simp) (by simp) (by simp)]
  rfl
theorem sameDesk_ok {a : List Int} {k : Int} {b : List Int} {l : List Pl} (h : DkP a k b l) : w_sameDesk_f (a, k, b, l, a, k, b, l) = some true := by
  have h1 := PlP.sm h.2.1
  have h2 := h.2.2
  exact sameDesk_refl a k b l (by omega) (by omega) (by omega) fun p hp => by have := PlP.sm (h.1 p hp); exact ⟨by omega, by omega⟩
end FN
namespace FN
open Go
theorem run_same (a : List Int) (k : Int) (b : List Int) (l : List Pl) (ds : List Dd3) (hb : b.length ≤ 4611686018427387904) (hl : l.length ≤ 4611686018427387904) (hs : ∀ p ∈ l, smP 4611686018427387904 p) : i_DeskRun_f (a, k, b, l, ds) = s_DeskRun_f (a, k, b, l, ds) := by
  rw [i_DeskRun_f_eq, s_DeskRun_f_eq, idesk a k b l hb hl hs, sdesk a k b l hb hl hs, Option.bind_some, Option.bind_some]
  by_cases h : DkP a k b l
  · rw [decide_eq_true h, Bool.not_true, cond_false, cond_false]
    by_cases c : (40 : Int) < (ds.length : Int)
    · rw [cnd_t c, cnd_t c]
    · rw [cnd_f c, cnd_f c, doAll_same h ds (by omega)]
  · rw [decide_eq_false h, Bool.not_false, cond_true, cond_true]
end FN
/-! The law FnReadJournal. -/
namespace FN
open Go
section
variable {l : List Int} (hl : Bytes l) (hn : l.length ≤ 2000)
include hl hn
theorem wdeeds_loop {a b : List Int} {k : Int} (ha : a.length ≤ 100) : ∀ n : Nat, n ≤ 10 → ∀ (p : Int) (y : List Dd3), 0 ≤ p → p + 20 * (n : Int) ≤ 800000000 → y.length + n ≤ 10 →
    ∃ (z : List Dd3) (q : Int), s_l20Deeds_l0 l (n : Int) l p a k b y = some (z, q) ∧ z.length ≤ 10 ∧ p ≤ q ∧ q ≤ p + 20 * n := by
  intro n
  induction n with
  | zero =>
    intro _ p y hp hp' hy
    rw [s_l20Deeds_l0_eq, cnd_f (by omega)]
    exact ⟨y, p, by simp, by omega, by omega, by omega⟩
  | succ n ih =>
    intro hn' p y hp hp' hy
    obtain ⟨K, A, B, q, e, q1, q2⟩ := l20Deed_ok hl hn (a := a) (b := b) (k := k) ha hp (by omega)
    have hk1 : IntKind.i64.wrap (((n + 1 : Nat) : Int) - 1) = (n : Int) := by rw [wsub (by omega) (by omega)]; omega
    rw [s_l20Deeds_l0_eq, cnd_t (by omega), e, Option.bind_some]
    simp only
    rw [if_pos (by simp; omega), hk1]
    obtain ⟨z, q', g1, g2, g3, g4⟩ := ih (by omega) q (y ++ [(K, A, B)]) (by omega) (by omega) (by simp; omega)
    exact ⟨z, q', g1, g2, by omega, by omega⟩
theorem wDeeds_ok {a b : List Int} {k : Int} (ha : a.length ≤ 100) {p : Int} (hp : 0 ≤ p) (hp' : p ≤ 700000000) : ∃ (z : List Dd3) (q : Int), s_l20Deeds_f (l, p, a, k, b) = some (z, q) ∧ z.length ≤ 10 ∧ p ≤ q ∧ q ≤ p + 201 := by
  obtain ⟨v, e, v0, v1⟩ := pick_ok hl hn hp (by omega) (show (1 : Int) ≤ 6 by omega) (by omega)
  obtain ⟨m, rfl⟩ : ∃ m : Nat, v = m := ⟨v.toNat, by omega⟩
  rw [s_l20Deeds_f_eq, e, Option.bind_some]
  simp only
  obtain ⟨z, q, g1, g2, g3, g4⟩ := wdeeds_loop hl hn (a := a) (b := b) (k := k) ha m (by omega) (p + 1) [] (by omega) (by omega) (by simp; omega)
  exact ⟨z, q, g1, g2, by omega, by omega⟩
omit hl hn in
theorem written_loop (ds : List Dd3) (hd : ds.length ≤ 100) (p : Int) : ∀ i, i ≤ ds.length → ∀ y : List Dd3, y.length ≤ i → ∃ z : List Dd3, s_l20Written_l0 l ds (i : Int) l p y = some (z, p) ∧ z.length ≤ ds.length := by
  refine advN ?_ fun i hi ih => ?_
  · intro y hy
    rw [s_l20Written_l0_eq, cnd_f (by omega)]
    exact ⟨y, by simp, hy⟩
  · intro y hy
    rw [s_l20Written_l0_eq, cnd_t (by omega), if_pos (inN hi), (deed_val _ _ _).1, Option.bind_some, nbeq_b, w1 hi (by omega)]
    split
    · exact ih y (by omega)
    · rw [if_pos (inN hi), if_pos (by simp; omega)]
      exact ih _ (by simp; omega)
theorem l20Written_ok {p : Int} (hp : 0 ≤ p) (hp' : p ≤ 400000000) : ∃ (z : List Dd3) (q : Int), s_l20Written_f (l, p) = some (z, q) ∧ z.length ≤ 10 ∧ p ≤ q ∧ q ≤ p + 400 := by
  obtain ⟨a, k, b, q, e1, h1, h2, q1, q2⟩ := l20Place_ok hl hn (n := 0) (by omega) hp (by omega)
  obtain ⟨ds, q', e2, h3, q3, q4⟩ := wDeeds_ok hl hn (a := a) (b := b) (k := k) (by omega) (p := q) (by omega) (by omega)
  obtain ⟨z, e3, h4⟩ := written_loop (l := l) ds (by omega) q' 0 (by omega) [] (by simp)
  rw [s_l20Written_f_eq, e1, Option.bind_some]
  simp only
  rw [e2, Option.bind_some]
  exact ⟨z, q', e3, by omega, by omega, by omega⟩
end
theorem sameDs_loop (a : List Dd3) (ha : a.length ≤ 1048576) : ∀ i, i ≤ a.length → w_sameDeeds_l0 a a (i : Int) = some true := by
  refine advN ?_ fun i hi ih => ?_
  · rw [w_sameDeeds_l0_eq, cnd_f (by omega)]
  · rw [w_sameDeeds_l0_eq, cnd_t (by omega), if_pos (inN hi), if_pos (inN hi), w1 hi (by omega)]
    simp only [beq_self_eq_true, Bool.and_self, Bool.not_true, cond_false]
    exact ih
theorem sameDs_refl (a : List Dd3) (ha : a.length ≤ 1048576) : w_sameDeeds_f (a, a) = some true := by
  rw [w_sameDeeds_f_eq, bne_f rfl]
  exact sameDs_loop a ha 0 (by omega)

theorem journal_bothB' (s : ByteArray) (h : s.size ≤ 1048577) : i_ReadJournal_f s = some ((js [] s.data.toList).1, ((js [] s.data.toList).2 : Int)) ∧ s_ReadJournal_f s = some ((js [] s.data.toList).1, ((js [] s.data.toList).2 : Int)) := by
  have := journal_both s.data.toList (by rw [← szD]; exact h)
  rwa [of_data] at this
/-- What is drawn. -/
theorem draw_rj {x : List Int} (hb : Bytes x) : ∃ s : ByteArray, s_DrawReadJournal_f x = some s ∧ s.size ≤ 1000 := by
  obtain ⟨l, e1, e2, e3⟩ := open_ok hb
  obtain ⟨z, q, e4, h1, q1, q2⟩ := l20Written_ok e2 e3 (p := 0) (by omega) (by omega)
  obtain ⟨t, t1, t2, t3, t4⟩ := journal_text z (by omega)
  have ht : t.size ≤ 210 := by
    by_cases hk : ∀ d ∈ z, okD d
    · have hj := jt_len z
      rw [t3 hk]
      have : (ofL (jt z)).size = (jt z).length := by rw [szD, ofL_data]
      omega
    · rw [t4 hk]; simp
  obtain ⟨u, e5, u0, u1⟩ := pick_ok e2 e3 (show 0 ≤ q by omega) (by omega) (show (1 : Int) ≤ 3 by omega) (by omega)
  rw [s_DrawReadJournal_f_eq, e1, Option.bind_some, e4, Option.bind_some]
  simp only
  rw [t1, Option.bind_some, e5, Option.bind_some]
  simp only
  cases c0 : (u == 0) with
  | true =>
    obtain ⟨t', q', e6, s1, _, _⟩ := spoil_ok e2 e3 t (by omega) (p := q + 1) (by omega) (by omega)
    rw [cond_true, e6, Option.bind_some]
    exact ⟨t', rfl, by omega⟩
  | false =>
    rw [cond_false]
    cases c1 : (u == 1) with
    | true =>
      have hW : IntKind.i64.wrap ((t.size : Int) + 1) = (t.size : Int) + 1 := i64w (by omega) (by omega)
      obtain ⟨v, e6, v0, v1⟩ := pick_ok e2 e3 (show 0 ≤ q + 1 by omega) (by omega) (show (1 : Int) ≤ (t.size : Int) + 1 by omega) (by omega)
      rw [cond_true, hW, e6, Option.bind_some]
      simp only
      rw [if_pos ⟨v0, show v ≤ (t.size : Int) from Int.lt_add_one_iff.1 v1⟩]
      exact ⟨_, rfl, Nat.le_trans (by rw [ByteArray.size_extract]; exact Nat.le_trans (Nat.sub_le _ _) (Nat.min_le_right _ _)) (show t.size ≤ 1000 by omega)⟩
    | false =>
      rw [cond_false]
      exact ⟨t, rfl, by omega⟩
theorem runDk' {d : Dk} (h : DkOk d) (ds : List Dd3) (hd : ds.length ≤ 1000000) : i_DeskRun_f (d.1, d.2.1, d.2.2.1, d.2.2.2, ds) = some (if (40 : Int) < (ds.length : Int) then ([], 0, [], [], 0) else ((runV d ds).1, (runV d ds).2.1, (runV d ds).2.2.1, (runV d ds).2.2.2, cntV d ds)) := by
  have hb := PlP.sm h.2.1
  rw [i_DeskRun_f_eq, idesk _ _ _ _ (by omega) (by have := h.2.2; omega) (fun p hp => by have := PlP.sm (h.1 p hp); exact ⟨by omega, by omega⟩), Option.bind_some, decide_eq_true (show DkP _ _ _ _ from h), Bool.not_true, cond_false]
  by_cases c : (40 : Int) < (ds.length : Int)
  · rw [cnd_t c, if_pos c]
  · rw [cnd_f c, if_neg c, irun_val h ds (by omega), Option.bind_some]
/-- A line that is a deed. -/
theorem line_val {d : Dk} (h : DkOk d) {x : Dd3} (hx : okD x) : i_DeskLine_f (d.1, d.2.1, d.2.2.1, d.2.2.2, dtx x.1 x.2.1 x.2.2) = some ((doV d x).1.1, (doV d x).1.2.1, (doV d x).1.2.2.1, (doV d x).1.2.2.2, if (doV d x).2 = true then str20 else str19) := by
  have hb := PlP.sm h.2.1
  have hz := (deed_val x.1 x.2.1 x.2.2).2.2
  have hr : i_ReadDeed_f (dtx x.1 x.2.1 x.2.2) = some (x.1, x.2.1, x.2.2, true) := by
    have := (rdr_val (dtx x.1 x.2.1 x.2.2).data.toList (by rw [← szD]; omega)).1
    rw [of_data, rdr_of hx] at this
    exact this
  rw [i_DeskLine_f_eq, idesk _ _ _ _ (by omega) (by have := h.2.2; omega) (fun p hp => by have := PlP.sm (h.1 p hp); exact ⟨by omega, by omega⟩), Option.bind_some, decide_eq_true (show DkP _ _ _ _ from h), Bool.not_true, cond_false, hr, Option.bind_some]
  simp only [cond_true]
  rw [ido_val h x, Option.bind_some]
  simp only
  cases (doV d x).2 <;> rfl
section
variable {s : ByteArray} (hs : s.size ≤ 1000)
include hs
theorem js_facts : (js [] s.data.toList).1.length ≤ 1000 ∧ (js [] s.data.toList).2 ≤ s.size ∧ (∀ d ∈ (js [] s.data.toList).1, okD d) ∧ ofL (jt (js [] s.data.toList).1) = ByteArray.extract s 0 (js [] s.data.toList).2 := by
  have h1 := js_le s.data.toList []
  have h2 := js_text s.data.toList.length s.data.toList (Nat.le_refl _) (by rw [← szD]; omega)
  have hl : s.data.toList.length = s.size := (szD s).symm
  refine ⟨by omega, by simp at h1; omega, h2.1, ?_⟩
  rw [h2.2]
  apply ba_ext
  rw [ofL_data]
  simp [ByteArray.data_extract]
/-- The end, for a desk or none. -/
theorem rj_end {d now : Dk} (hk : DkOk d → (¬ (40 : Int) < ((js [] s.data.toList).1.length : Int)) → now = runV d (js [] s.data.toList).1) (s2 : d.2.2.1.length ≤ 6) (s3 : d.2.2.2.length ≤ 9) (s4 : ∀ p ∈ d.2.2.2, p.1.length ≤ 6 ∧ p.2.2.length ≤ 6) :
    w_FnReadJournal_j4 s (js [] s.data.toList).1 ((js [] s.data.toList).2 : Int) d.1 d.2.1 d.2.2.1 d.2.2.2 now.1 now.2.1 now.2.2.1 now.2.2.2 = some true ∧ w_FnReadJournal_j5 s (js [] s.data.toList).1 ((js [] s.data.toList).2 : Int) d.1 d.2.1 d.2.2.1 d.2.2.2 now.1 now.2.1 now.2.2.1 now.2.2.2 = some true := by
  obtain ⟨f1, f2, f3, f4⟩ := js_facts hs
  obtain ⟨t, t1, t2, t3, _⟩ := journal_text (js [] s.data.toList).1 (by omega)
  have ht : t = ByteArray.extract s 0 (js [] s.data.toList).2 := (t3 f3).trans f4
  have hs' : ∀ p ∈ d.2.2.2, smP 4611686018427387904 p := fun p hp => ⟨by have := (s4 p hp).1; omega, by have := (s4 p hp).2; omega⟩
  have hsd := sdesk d.1 d.2.1 d.2.2.1 d.2.2.2 (by omega) (by omega) hs'
  have hn : ((js [] s.data.toList).2 : Int) ≤ (s.size : Int) := by omega
  have hx : (((js [] s.data.toList).2 : Nat) : Int).toNat = (js [] s.data.toList).2 := by omega
  rw [w_FnReadJournal_j4_eq, w_FnReadJournal_j5_eq]
  by_cases h : DkP d.1 d.2.1 d.2.2.1 d.2.2.2
  · have hd : DkOk d := h
    rw [runDk' hd _ (by omega)]
    simp only [Option.bind_some]
    rw [cnd_t hn, if_pos ⟨by omega, by omega⟩, t2, Option.bind_some, hx, ← ht, beq_b, if_pos rfl, hsd, Option.bind_some, decide_eq_true h, Bool.not_true, cond_false, alive_yes]
    by_cases c : (40 : Int) < ((js [] s.data.toList).1.length : Int)
    · rw [cnd_t c]; exact ⟨rfl, rfl⟩
    · have hnow := hk hd c
      subst hnow
      rw [cnd_f c, if_neg c, sameDesk_ok (runV_ok hd _)]
      exact ⟨rfl, rfl⟩
  · have hr : i_DeskRun_f (d.1, d.2.1, d.2.2.1, d.2.2.2, (js [] s.data.toList).1) = some ([], 0, [], [], 0) := by
      rw [i_DeskRun_f_eq, idesk _ _ _ _ (by omega) (by omega) hs', Option.bind_some, decide_eq_false h]; rfl
    rw [hr, Option.bind_some, cnd_t hn, if_pos ⟨by omega, by omega⟩, t2, Option.bind_some, hx, ← ht, beq_b, if_pos rfl, hsd, Option.bind_some, decide_eq_false h, Bool.not_false, cond_true, alive_yes]
    exact ⟨rfl, rfl⟩
theorem rj_l3 {d : Dk} (hd : DkOk d) (s2 : d.2.2.1.length ≤ 6) (s3 : d.2.2.2.length ≤ 9) (s4 : ∀ p ∈ d.2.2.2, p.1.length ≤ 6 ∧ p.2.2.length ≤ 6) : ∀ i, i ≤ (js [] s.data.toList).1.length → ∀ now : Dk, now = runV d ((js [] s.data.toList).1.take i) →
    w_FnReadJournal_l3 s (js [] s.data.toList).1 ((js [] s.data.toList).2 : Int) (i : Int) d.1 d.2.1 d.2.2.1 d.2.2.2 now.1 now.2.1 now.2.2.1 now.2.2.2 = some true := by
  obtain ⟨f1, f2, f3, f4⟩ := js_facts hs
  have hs' : ∀ p ∈ d.2.2.2, smP 4611686018427387904 p := fun p hp => ⟨by have := (s4 p hp).1; omega, by have := (s4 p hp).2; omega⟩
  have hsd := sdesk d.1 d.2.1 d.2.2.1 d.2.2.2 (by omega) (by omega) hs'
  refine advN ?_ fun i hi ih => ?_
  · intro now hnow
    rw [w_FnReadJournal_l3_eq, cnd_f (by omega)]
    exact (rj_end hs (fun _ _ => by rw [hnow, List.take_length]) s2 s3 s4).2
  · intro now hnow
    have hN : DkOk now := by rw [hnow]; exact runV_ok hd _
    have hm : (js [] s.data.toList).1.getD i (0, 0, 0) ∈ (js [] s.data.toList).1 := by
      rw [List.getD_eq_getElem?_getD, List.getElem?_eq_getElem hi]; exact List.getElem_mem hi
    have hln := line_val hN (f3 _ hm)
    have step : (doV now ((js [] s.data.toList).1.getD i (0, 0, 0))).1 = runV d ((js [] s.data.toList).1.take (i + 1)) := by
      have e : (js [] s.data.toList).1.take (i + 1) = (js [] s.data.toList).1.take i ++ [(js [] s.data.toList).1.getD i (0, 0, 0)] := by
        rw [List.take_succ_eq_append_getElem hi, List.getD_eq_getElem?_getD, List.getElem?_eq_getElem hi]; rfl
      rw [e, runV_app, ← hnow]; rfl
    have next := ih _ step
    rw [w_FnReadJournal_l3_eq, cnd_t (by omega), hsd, Option.bind_some, decide_eq_true (show DkP _ _ _ _ from hd), cond_true, if_pos (inN hi), gD3, (deed_val _ _ _).2.1, Option.bind_some, hln, Option.bind_some, w1 hi (by omega)]
    simp only
    rw [nbeq_b, nbeq_b]
    cases (doV now ((js [] s.data.toList).1.getD i (0, 0, 0))).2 with
    | true => rw [if_pos rfl, if_pos rfl]; exact next
    | false =>
      have e0 : (if (false : Bool) = true then str20 else str19) = str19 := rfl
      rw [e0]
      by_cases hq : (str19 : ByteArray) = str20
      · rw [if_pos hq]; exact next
      · rw [if_neg hq, if_pos rfl]; exact next
theorem rj_l2 {d : Dk} (s2 : d.2.2.1.length ≤ 6) (s3 : d.2.2.2.length ≤ 9) (s4 : ∀ p ∈ d.2.2.2, p.1.length ≤ 6 ∧ p.2.2.length ≤ 6) :
    w_FnReadJournal_l2 s (js [] s.data.toList).1 ((js [] s.data.toList).2 : Int) 0 d.1 d.2.1 d.2.2.1 d.2.2.2 d.1 d.2.1 d.2.2.1 d.2.2.2 = some true := by
  obtain ⟨f1, f2, f3, f4⟩ := js_facts hs
  have hs' : ∀ p ∈ d.2.2.2, smP 4611686018427387904 p := fun p hp => ⟨by have := (s4 p hp).1; omega, by have := (s4 p hp).2; omega⟩
  have hsd := sdesk d.1 d.2.1 d.2.2.1 d.2.2.2 (by omega) (by omega) hs'
  by_cases hd : DkP d.1 d.2.1 d.2.2.1 d.2.2.2
  · have h3 := rj_l3 hs (show DkOk d from hd) s2 s3 s4 0 (by omega) d rfl
    rw [show ((0 : Nat) : Int) = 0 from rfl] at h3
    rw [w_FnReadJournal_l2_eq]
    rw [w_FnReadJournal_l3_eq] at h3
    by_cases c : (0 : Int) < ((js [] s.data.toList).1.length : Int)
    · rw [cnd_t c, hsd, Option.bind_some, decide_eq_true hd, cond_true] at h3 ⊢
      exact h3
    · have hnil : (js [] s.data.toList).1 = [] := List.eq_nil_of_length_eq_zero (by omega)
      rw [cnd_f c]
      exact (rj_end hs (fun _ _ => by rw [hnil]; rfl) s2 s3 s4).1
  · rw [w_FnReadJournal_l2_eq]
    have he := (rj_end hs (d := d) (now := d) (fun h _ => absurd h hd) s2 s3 s4).1
    by_cases c : (0 : Int) < ((js [] s.data.toList).1.length : Int)
    · rw [cnd_t c, hsd, Option.bind_some, decide_eq_false hd, cond_false]; exact he
    · rw [cnd_f c]; exact he
theorem rj_l0 {y0 : List Int} (hy : Bytes y0) : ∀ i, i ≤ s.size + 1 → w_FnReadJournal_l0 y0 s (js [] s.data.toList).1 ((js [] s.data.toList).2 : Int) (i : Int) = some true := by
  obtain ⟨f1, f2, f3, f4⟩ := js_facts hs
  refine advN ?_ fun i hi ih => ?_
  · rw [w_FnReadJournal_l0_eq, cnd_f (by omega), w_FnReadJournal_j1_eq]
    obtain ⟨d, ds, e1, s1, s2, s3, s4, s5⟩ := drawRun_ok hy
    rw [e1, Option.bind_some]
    exact rj_l2 hs s2 s3 s4
  · have hd : (ByteArray.extract s 0 i).data.toList = s.data.toList.take i := by simp [ByteArray.data_extract]
    have hj := (journal_bothB' (ByteArray.extract s 0 i) (by rw [ByteArray.size_extract]; omega)).1
    rw [hd] at hj
    have hp := js_pre_take s.data.toList.length s.data.toList (Nat.le_refl _) i
    have hle := (js_le (s.data.toList.take i) []).1
    have hl2 : (js [] (s.data.toList.take i)).2 ≤ i := by rw [List.length_take] at hle; simp at hle; omega
    have hplen := hp.length_le
    have htk : (js [] s.data.toList).1.take (js [] (s.data.toList.take i)).1.length = (js [] (s.data.toList.take i)).1 := (List.prefix_iff_eq_take.1 hp).symm
    have hmin : (if ((js [] s.data.toList).1.length : Int) < ((js [] (s.data.toList.take i)).1.length : Int) then ((js [] s.data.toList).1.length : Int) else ((js [] (s.data.toList.take i)).1.length : Int)) = ((js [] (s.data.toList.take i)).1.length : Int) := if_neg (by omega)
    rw [w_FnReadJournal_l0_eq, cnd_t (by omega), if_pos ⟨by omega, by omega⟩, show ((i : Nat) : Int).toNat = i by omega, hj, Option.bind_some]
    simp only [hmin]
    rw [cnd_f (by omega), if_pos ⟨by omega, by omega⟩, List.drop_zero, show (((js [] (s.data.toList.take i)).1.length : Nat) : Int).toNat = (js [] (s.data.toList.take i)).1.length by omega, htk, sameDs_refl _ (by omega), Option.bind_some, Bool.not_true, cond_false, cnd_f (by omega), w1 hi (by omega)]
    exact ih
end
theorem FnReadJournal_true (x : Ts w_FnReadJournal_sig.pc) (hw : WfTs w_FnReadJournal_sig.pc x) : w_FnReadJournal_f x = some true := by
  obtain ⟨x0, x1⟩ := x
  have hb0 : Bytes x0 := fun y hy => hw.1.2 y hy
  have hb1 : Bytes x1 := fun y hy => hw.2.2 y hy
  rw [w_FnReadJournal_f_eq]
  by_cases h0 : (1048576 : Int) < (List.length x0 : Int)
  · rw [cnd_t h0]
  rw [cnd_f h0]
  by_cases h1 : (1048576 : Int) < (List.length x1 : Int)
  · rw [cnd_t h1]
  rw [cnd_f h1]
  obtain ⟨s, e1, hs⟩ := draw_rj hb0
  obtain ⟨f1, f2, f3, f4⟩ := js_facts hs
  obtain ⟨j1, j2⟩ := journal_bothB' s (by omega)
  rw [e1, Option.bind_some, j1, Option.bind_some, j2, Option.bind_some]
  simp only
  rw [sameDs_refl _ (by omega), Option.bind_some, Bool.not_true, cond_false, bne_f rfl]
  exact rj_l0 hs hb1 0 (by omega)
end FN
