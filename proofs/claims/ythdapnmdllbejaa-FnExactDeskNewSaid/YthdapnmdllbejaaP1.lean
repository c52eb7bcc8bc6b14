/- Texts of the proof, joined: Plain laws of numbers and lists. -/
import Derived.Test.YthdapnmdllbejaaP0
set_option linter.unusedVariables false
set_option linter.unusedSimpArgs false
set_option linter.unusedSectionVars false
/-! Desks that are drawn. -/
namespace FN
open Go
theorem doO_same {a : List Int} {k : Int} {b : List Int} {l : List Pl} (h : DkP a k b l) (h7 : l.length ≤ 7) (K A B : Int) : s_DeskDoO_f (a, k, b, l, K, A, B) = s_DeskDo_f (a, k, b, l, K, A, B) := by
  have hm := PlP.sm h.2.1
  have hl := h.2.2
  have hsm : ∀ p ∈ l, smP 4611686018427387904 p := fun p hp => by have := PlP.sm (h.1 p hp); exact ⟨by omega, by omega⟩
  obtain ⟨z, κ, st, hz, hst⟩ := made_tot h.2.1 K A B
  obtain ⟨t1, t1', _⟩ := placeText_same z κ st (by omega)
  obtain ⟨t2, t2', _⟩ := placeText_same a k b (by omega)
  have c8 : ¬ (8 : Int) < ((l ++ [(a, k, b)] : List Pl).length : Int) := by
    rw [List.length_append, List.length_singleton]; omega
  rw [s_DeskDoO_f_eq, s_DeskDo_f_eq]
  simp only [sdesk a k b l (by omega) (by omega) hsm, decide_eq_true h, Option.bind_some, Bool.not_true, cond_false, l15Copy_val h, hz, spl z κ st (by omega), t1', t2', decide_eq_false c8, s_DeskDo_j1_eq, s_DeskDoO_j1_eq, List.drop_zero]
/-- What a drawn desk is on its way. -/
def OnWay (m : Nat) (d : Dk) : Prop := (DkOk d ∧ d.2.2.2.length ≤ m) ∨ d = ([], 0, [], [])
theorem noDk : ¬ DkP [] 0 [] [] := fun h => no_zero h.2.1
theorem OnWay.sm {m : Nat} {d : Dk} (h : OnWay m d) : d.1.length ≤ 6 ∧ d.2.2.1.length ≤ 6 ∧ d.2.2.2.length ≤ 8 ∧ ∀ p ∈ d.2.2.2, p.1.length ≤ 6 ∧ p.2.2.length ≤ 6 := by
  rcases h with ⟨h, _⟩ | rfl
  · have := PlP.sm h.2.1
    exact ⟨this.1, this.2, h.2.2, fun p hp => PlP.sm (h.1 p hp)⟩
  · simp
theorem doV_len {d : Dk} (x : Dd3) : (doV d x).1.2.2.2.length ≤ d.2.2.2.length + 1 := by
  unfold doV
  split
  · show (d.2.2.2.take _).length ≤ _
    rw [List.length_take]; omega
  · split
    · show (pastV d).length ≤ _
      unfold pastV
      split
      · rw [List.length_drop, List.length_append, List.length_singleton]; omega
      · rw [List.length_append, List.length_singleton]
        omega
    · show d.2.2.2.length ≤ _
      omega
theorem doO_way {m : Nat} (hm : m ≤ 7) {d : Dk} (h : OnWay m d) (x : Dd3) : ∃ d' t, s_DeskDoO_f (d.1, d.2.1, d.2.2.1, d.2.2.2, x.1, x.2.1, x.2.2) = some (d'.1, d'.2.1, d'.2.2.1, d'.2.2.2, t) ∧ OnWay (m + 1) d' := by
  rcases h with ⟨h, hl⟩ | rfl
  · refine ⟨(doV d x).1, (doV d x).2, ?_, .inl ⟨doV_ok h x, by have := doV_len (d := d) x; omega⟩⟩
    rw [doO_same h (by omega)]
    exact do_val h x
  · refine ⟨([], 0, [], []), false, ?_, .inr rfl⟩
    rw [s_DeskDoO_f_eq, sdesk [] 0 [] [] (by simp) (by simp) (by simp), decide_eq_false noDk, Option.bind_some]
    rfl
theorem OnWay.up {m n : Nat} (hmn : m ≤ n) {d : Dk} (h : OnWay m d) : OnWay n d := by
  rcases h with ⟨h, hl⟩ | h
  · exact .inl ⟨h, by omega⟩
  · exact .inr h
section
variable {l : List Int} (hl : Bytes l) (hn : l.length ≤ 2000)
include hl hn
/-- A drawn desk: its sizes. -/
def DOut (o : Option (List Int × Int × List Int × List Pl × Int)) : Prop := ∃ (d : Dk) (q : Int), o = some (d.1, d.2.1, d.2.2.1, d.2.2.2, q) ∧ d.1.length ≤ 6 ∧ d.2.2.1.length ≤ 6 ∧ d.2.2.2.length ≤ 9 ∧ (∀ p ∈ d.2.2.2, p.1.length ≤ 6 ∧ p.2.2.length ≤ 6) ∧ 0 ≤ q ∧ q ≤ 800000000
theorem desk_j1 (y0 y4 : Int) (hy0 : y0 ≤ 1000) {p : Int} (hp : 0 ≤ p) (hp' : p ≤ 700000000) {m : Nat} {d : Dk} (h : OnWay m d) : DOut (s_l20Desk_j1 l y0 l p y4 d.1 d.2.1 d.2.2.1 d.2.2.2) := by
  obtain ⟨s1, s2, s3, s4⟩ := h.sm
  obtain ⟨bb, q, e1, q1, q2⟩ := odd_ok hl hn hp (by omega) (n := y0) (by omega)
  rw [s_l20Desk_j1_eq, e1, Option.bind_some]
  cases bb with
  | false => simp only [cond_false]; exact ⟨d, q, by simp, s1, s2, by omega, s4, by omega, by omega⟩
  | true =>
    simp only [cond_true]
    obtain ⟨u, e2, u0, u1⟩ := pick_ok hl hn (show 0 ≤ q by omega) (by omega) (show (1 : Int) ≤ 3 by omega) (by omega)
    rw [e2, Option.bind_some]
    simp only
    by_cases c0 : u = 0
    · rw [beq_t c0]
      exact ⟨(d.1, 2, d.2.2.1, d.2.2.2), q + 1, by simp, s1, s2, by show d.2.2.2.length ≤ 9; omega, s4, by omega, by omega⟩
    · rw [beq_f c0]
      by_cases c1 : u = 1
      · rw [beq_t c1, if_pos (by rw [List.length_singleton]; omega)]
        refine ⟨(d.1, d.2.1, d.2.2.1, d.2.2.2 ++ [([], 0, [])]), q + 1, by simp, s1, s2, ?_, ?_, by omega, by omega⟩
        · show (d.2.2.2 ++ [([], 0, [])]).length ≤ 9
          rw [List.length_append, List.length_singleton]; omega
        · intro p hp
          rcases List.mem_append.1 hp with hp | hp
          · exact s4 p hp
          · have : p = ([], 0, []) := by simpa using hp
            rw [this]; simp
      · rw [beq_f c1]
        exact ⟨([], 0, [], []), q + 1, by simp, by simp, by simp, by simp, by simp, by omega, by omega⟩
theorem desk_loop (y0 y4 : Int) (hy0 : y0 ≤ 1000) : ∀ m : Nat, m ≤ 4 → ∀ (p : Int) (d : Dk), 0 ≤ p → p + 100 * (m : Int) ≤ 600000000 → OnWay (4 - m) d → DOut (s_l20Desk_l0 l y0 (m : Int) l p y4 d.1 d.2.1 d.2.2.1 d.2.2.2) := by
  intro m
  induction m with
  | zero =>
    intro _ p d hp hp' h
    rw [s_l20Desk_l0_eq, cnd_f (by omega)]
    exact desk_j1 hl hn y0 y4 hy0 hp (by omega) h
  | succ m ih =>
    intro hm p d hp hp' h
    obtain ⟨s1, s2, s3, s4⟩ := h.sm
    obtain ⟨K, A, B, q, e2, q1, q2⟩ := l20Deed_ok hl hn (a := d.1) (b := d.2.2.1) (k := d.2.1) (by omega) hp (by omega)
    obtain ⟨d', t, e3, h3⟩ := doO_way (by omega) h (K, A, B)
    simp only at e3
    have hm1 : IntKind.i64.wrap (((m + 1 : Nat) : Int) - 1) = (m : Int) := by rw [wsub (by omega) (by omega)]; omega
    rw [s_l20Desk_l0_eq, cnd_t (by omega), e2, Option.bind_some]
    simp only
    rw [e3, Option.bind_some, hm1]
    cases t with
    | true => exact ih (by omega) q d' (by omega) (by omega) (h3.up (by omega))
    | false => exact ih (by omega) q d (by omega) (by omega) (h.up (by omega))
theorem l20Desk_ok (y0 : Int) (hy0 : y0 ≤ 1000) {p : Int} (hp : 0 ≤ p) (hp' : p ≤ 400000000) : DOut (s_l20Desk_f (l, p, y0)) := by
  obtain ⟨a, k, b, q, e1, h1, h2, q1, q2⟩ := l20Place_ok hl hn (n := 0) (by omega) hp (by omega)
  obtain ⟨u, e3, u0, u1⟩ := pick_ok hl hn (show 0 ≤ q by omega) (by omega) (show (1 : Int) ≤ 5 by omega) (by omega)
  have hnew : ∃ d : Dk, ∃ t, s_DeskNew_f (a, k, b) = some (d.1, d.2.1, d.2.2.1, d.2.2.2, t) ∧ OnWay 0 d := by
    rw [s_DeskNew_f_eq, spl a k b (by omega), Option.bind_some]
    by_cases h : PlP a k b
    · rw [decide_eq_true h, Bool.not_true, cond_false, l15Place_val a k b (by omega) (by omega), Option.bind_some]
      exact ⟨(a, k, b, []), true, rfl, .inl ⟨⟨by simp, h, by simp⟩, by simp⟩⟩
    · rw [decide_eq_false h]
      exact ⟨([], 0, [], []), false, rfl, .inr rfl⟩
  obtain ⟨d, t, e2, hd⟩ := hnew
  obtain ⟨m, rfl⟩ : ∃ m : Nat, u = m := ⟨u.toNat, by omega⟩
  rw [s_l20Desk_f_eq, e1, Option.bind_some]
  simp only
  rw [e2, Option.bind_some]
  simp only
  rw [e3, Option.bind_some]
  exact desk_loop hl hn y0 0 hy0 m (by omega) (q + 1) d (by omega) (by omega) (hd.up (by omega))
theorem deeds_loop {a b : List Int} {k : Int} (ha : a.length ≤ 100) : ∀ m : Nat, m ≤ 10 → ∀ (p : Int) (out : List Dd3), 0 ≤ p → p + 100 * (m : Int) ≤ 840000000 → out.length + m ≤ 20 → ∃ (ds : List Dd3) (q : Int), s_l20Deeds_l0 l (m : Int) l p a k b out = some (ds, q) ∧ ds.length ≤ 20 := by
  intro m
  induction m with
  | zero =>
    intro _ p out hp hp' ho
    rw [s_l20Deeds_l0_eq, cnd_f (by omega), if_pos ⟨rfl, rfl⟩]
    exact ⟨_, _, rfl, by omega⟩
  | succ m ih =>
    intro hm p out hp hp' ho
    obtain ⟨K, A, B, q, e2, q1, q2⟩ := l20Deed_ok hl hn (a := a) (b := b) (k := k) ha hp (by omega)
    have hm1 : IntKind.i64.wrap (((m + 1 : Nat) : Int) - 1) = (m : Int) := by rw [wsub (by omega) (by omega)]; omega
    rw [s_l20Deeds_l0_eq, cnd_t (by omega), e2, Option.bind_some, if_pos (by rw [List.length_singleton]; omega), hm1]
    exact ih (by omega) q _ (by omega) (by omega) (by rw [List.length_append, List.length_singleton]; omega)
theorem l20Deeds_ok {a b : List Int} {k : Int} (ha : a.length ≤ 100) {p : Int} (hp : 0 ≤ p) (hp' : p ≤ 830000000) : ∃ (ds : List Dd3) (q : Int), s_l20Deeds_f (l, p, a, k, b) = some (ds, q) ∧ ds.length ≤ 20 := by
  obtain ⟨u, e3, u0, u1⟩ := pick_ok hl hn hp (by omega) (show (1 : Int) ≤ 6 by omega) (by omega)
  obtain ⟨m, rfl⟩ : ∃ m : Nat, u = m := ⟨u.toNat, by omega⟩
  rw [s_l20Deeds_f_eq, e3, Option.bind_some]
  exact deeds_loop hl hn ha m (by omega) (p + 1) [] (by omega) (by omega) (by simp; omega)
end
/-- A drawn desk with deeds. -/
theorem drawRun_ok {x : List Int} (hb : Bytes x) : ∃ (d : Dk) (ds : List Dd3), s_DrawDeskRun_f x = some (d.1, d.2.1, d.2.2.1, d.2.2.2, ds) ∧ d.1.length ≤ 6 ∧ d.2.2.1.length ≤ 6 ∧ d.2.2.2.length ≤ 9 ∧ (∀ p ∈ d.2.2.2, p.1.length ≤ 6 ∧ p.2.2.length ≤ 6) ∧ ds.length ≤ 41 := by
  obtain ⟨l, e1, e2, e3⟩ := open_ok hb
  obtain ⟨d, q, e4, s1, s2, s3, s4, q1, q2⟩ := l20Desk_ok e2 e3 12 (by omega) (p := 0) (by omega) (by omega)
  obtain ⟨bb, q', e5, q3, q4⟩ := odd_ok e2 e3 q1 (by omega) (n := 30) (by omega)
  rw [s_DrawDeskRun_f_eq, e1, Option.bind_some, e4, Option.bind_some]
  simp only
  rw [e5, Option.bind_some]
  cases bb with
  | true =>
    simp only [cond_true]
    rw [if_pos ⟨by omega, by omega, by omega⟩]
    exact ⟨d, List.replicate 41 (0, 0, 0), rfl, s1, s2, s3, s4, by simp⟩
  | false =>
    simp only [cond_false]
    obtain ⟨ds, q'', e6, h6⟩ := l20Deeds_ok e2 e3 (a := d.1) (b := d.2.2.1) (k := d.2.1) (by omega) (p := q') (by omega) (by omega)
    rw [e6, Option.bind_some]
    exact ⟨d, ds, rfl, s1, s2, s3, s4, by omega⟩
end FN
/-! The law FnDeskOk. -/
namespace FN
open Go
theorem deskOk_small {a : List Int} {k : Int} {b : List Int} {l : List Pl} (hb : b.length ≤ 6) (hl : l.length ≤ 9) (hs : ∀ p ∈ l, p.1.length ≤ 6 ∧ p.2.2.length ≤ 6) :
    i_DeskOk_f (a, k, b, l) = some (decide (DkP a k b l)) ∧ s_DeskOk_f (a, k, b, l) = some (decide (DkP a k b l)) := by
  have hs' : ∀ p ∈ l, smP 4611686018427387904 p := fun p hp => ⟨by have := (hs p hp).1; omega, by have := (hs p hp).2; omega⟩
  exact ⟨idesk a k b l (by omega) (by omega) hs', sdesk a k b l (by omega) (by omega) hs'⟩
theorem deskOk_law {x : List Int} (hb : Bytes x) : w_FnDeskOk_f x = some true := by
  rw [w_FnDeskOk_f_eq]
  by_cases h0 : (1048576 : Int) < (x.length : Int)
  · rw [cnd_t h0]
  rw [cnd_f h0]
  obtain ⟨l, e1, e2, e3⟩ := open_ok hb
  obtain ⟨d, q, e4, s1, s2, s3, s4, q1, q2⟩ := l20Desk_ok e2 e3 2 (by omega) (p := 0) (by omega) (by omega)
  have hd : s_DrawDeskOk_f x = some (d.1, d.2.1, d.2.2.1, d.2.2.2) := by
    rw [s_DrawDeskOk_f_eq, e1, Option.bind_some, e4, Option.bind_some]
  rw [hd, Option.bind_some]
  simp only
  have hz : i_DeskOk_f ([], 0, [], []) = some false := by
    rw [(deskOk_small (a := []) (k := 0) (b := []) (l := []) (by simp) (by simp) (by simp)).1, decide_eq_false noDk]
  rw [(deskOk_small s2 s3 s4).1, (deskOk_small s2 s3 s4).2, hz, alive_yes]
  simp only [Option.bind_some]
  by_cases h : DkP d.1 d.2.1 d.2.2.1 d.2.2.2
  · rw [decide_eq_true h, (deskOk_small (a := d.1) (k := d.2.1) (b := d.2.2.1) (l := []) s2 (by simp) (by simp)).1, decide_eq_true (show DkP d.1 d.2.1 d.2.2.1 [] from ⟨by simp, h.2.1, by simp⟩)]
    rfl
  · rw [decide_eq_false h]; rfl
theorem FnDeskOk_true (x : Ts w_FnDeskOk_sig.pc) (hw : WfTs w_FnDeskOk_sig.pc x) : w_FnDeskOk_f x = some true := deskOk_law fun y hy => hw.2 y hy
end FN
