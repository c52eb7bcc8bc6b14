/- Texts of the proof, joined: Plain laws of numbers and lists. -/
import Derived.Test.YtimebafdjgcnnaaGreatDoorP0
set_option linter.unusedVariables false
set_option linter.unusedSimpArgs false
set_option linter.unusedSectionVars false
/-! Stores that are drawn. -/
namespace FN
open Go
theorem stOk_place {a b : ByteArray} {n : Int} (ha : a.size ≤ 1048577) (h : stOk a b n = true) : ∃ z k st, readP a.data.toList = (z, k, st, true) ∧ PlP z k st := by
  have h1 : (readP a.data.toList).2.2.2 = true := by
    unfold stOk at h
    simp only [Bool.and_eq_true] at h
    exact h.1
  rcases readP_spec a.data.toList (by rw [← szD]; exact ha) with h2 | ⟨z, k, st, h2, hp, _⟩
  · rw [h2] at h1; cases h1
  · exact ⟨z, k, st, h2, hp⟩
theorem open_tot (a b : ByteArray) (n : Int) (ha : a.size ≤ 1048577) (hb : b.size ≤ 1048577) : ∃ a' k' b' l' t, s_StoreOpen_f (a, b, n) = some (a', k', b', l', t) ∧ a'.length ≤ 6 ∧ (stOk a b n = true → DkP a' k' b' l') := by
  rw [s_StoreOpen_f_eq, s_stOk a b n ha, Option.bind_some]
  cases hc : stOk a b n with
  | false => exact ⟨_, _, _, _, _, rfl, by simp, fun h => by cases h⟩
  | true =>
    obtain ⟨z, k, st, h1, hp⟩ := stOk_place ha hc
    have hle := (js_le b.data.toList []).2
    rw [← szD] at hle
    rw [Bool.not_true, cond_false, s_readB a ha, Option.bind_some, (journal_bothB b hb).2, Option.bind_some, h1]
    obtain ⟨a', k', b', l', m, e, hd⟩ := run_tot (a := z) (k := k) (b := st) (l := []) ⟨by simp, hp, by simp⟩ (js [] b.data.toList).1 (by omega)
    simp only
    rw [e, Option.bind_some]
    exact ⟨_, _, _, _, _, rfl, (PlP.sm hd.2.1).1, fun _ => hd⟩
/-- A drawn store's bounds. -/
def SB (a b : ByteArray) (n : Int) : Prop := a.size ≤ 1000 ∧ b.size ≤ 1000 ∧ 0 ≤ n ∧ n ≤ (b.size : Int)
theorem SB0 : SB ByteArray.empty ByteArray.empty 0 := ⟨by decide, by decide, by omega, by decide⟩
theorem act_tot {a b : ByteArray} {n : Int} (h : SB a b n) (K A B : Int) : ∃ a' b' n' t, s_StoreAct_f (a, b, n, K, A, B) = some (a', b', n', t) ∧ SB a' b' n' := by
  obtain ⟨ha, hb, h0, h1⟩ := h
  rw [s_StoreAct_f_eq, s_stOk a b n (by omega), Option.bind_some]
  cases hc : stOk a b n with
  | false => exact ⟨_, _, _, _, rfl, SB0⟩
  | true =>
    obtain ⟨x, k, y, l, t, e, _, hd⟩ := open_tot a b n (by omega) (by omega)
    obtain ⟨x', k', y', l', t', e', _⟩ := do_tot (hd hc) K A B
    obtain ⟨d1, _, d3⟩ := deed_val K A B
    have z13 : ByteArray.size str13 = 1 := rfl
    have same : SB a b n := ⟨ha, hb, h0, h1⟩
    rw [Bool.not_true, cond_false, (journal_bothB b (by omega)).2, Option.bind_some, e, Option.bind_some]
    simp only
    rw [e', Option.bind_some, d1, Option.bind_some]
    simp only
    have W1 : IntKind.i64.wrap ((b.size : Int) + ((dtx K A B).size : Int)) = (b.size : Int) + ((dtx K A B).size : Int) := i64w (by omega) (by omega)
    have W2 : IntKind.i64.wrap ((b.size : Int) + ((dtx K A B).size : Int) + 1) = (b.size : Int) + ((dtx K A B).size : Int) + 1 := i64w (by omega) (by omega)
    rw [W1, W2]
    cases (((js [] b.data.toList).2 : Int) != (b.size : Int)) with
    | true => exact ⟨_, _, _, _, rfl, same⟩
    | false =>
      rw [cond_false]
      cases t' with
      | false => exact ⟨_, _, _, _, rfl, same⟩
      | true =>
        rw [Bool.not_true, cond_false]
        cases (ByteArray.toList (dtx K A B) == ByteArray.toList ByteArray.empty) with
        | true => exact ⟨_, _, _, _, rfl, same⟩
        | false =>
          rw [cond_false]
          by_cases c : (1000 : Int) < (b.size : Int) + ((dtx K A B).size : Int) + 1
          · rw [cnd_t c]; exact ⟨_, _, _, _, rfl, same⟩
          · have q1 : b.size + (dtx K A B).size ≤ 9223372036854775807 := by omega
            have q2 : (b ++ dtx K A B).size + ByteArray.size str13 ≤ 9223372036854775807 := by rw [ByteArray.size_append, z13]; omega
            rw [cnd_f c, if_pos q1, if_pos q2]
            have q3 : ((b ++ dtx K A B) ++ str13).size = b.size + (dtx K A B).size + 1 := by rw [ByteArray.size_append, ByteArray.size_append, z13]
            exact ⟨_, _, _, _, rfl, ha, by rw [q3]; omega, h0, by rw [q3]; omega⟩
theorem sync_tot {a b : ByteArray} {n : Int} (h : SB a b n) : ∃ a' b' n' t, s_StoreSync_f (a, b, n) = some (a', b', n', t) ∧ SB a' b' n' := by
  obtain ⟨ha, hb, h0, h1⟩ := h
  rw [s_StoreSync_f_eq, s_stOk a b n (by omega), Option.bind_some]
  cases stOk a b n with
  | false => exact ⟨_, _, _, _, rfl, SB0⟩
  | true => exact ⟨_, _, _, _, rfl, ha, hb, by omega, by omega⟩
theorem crash_tot {a b : ByteArray} {n : Int} (h : SB a b n) {k : Int} (h2 : n ≤ k) (h3 : k ≤ (b.size : Int)) : ∃ a' b' n' t, s_StoreCrash_f (a, b, n, k) = some (a', b', n', t) ∧ SB a' b' n' := by
  obtain ⟨ha, hb, h0, h1⟩ := h
  rw [s_StoreCrash_f_eq, s_stOk a b n (by omega), Option.bind_some]
  cases stOk a b n with
  | false => exact ⟨_, _, _, _, rfl, SB0⟩
  | true =>
    have hsz : (ByteArray.extract b 0 (k : Int).toNat).size = k.toNat := by rw [ByteArray.size_extract]; omega
    have hk : (0 : Int) ≤ k ∧ k ≤ (b.size : Int) := ⟨by omega, h3⟩
    rw [Bool.not_true, cond_false, l1In_val, Option.bind_some, decide_eq_true (show n ≤ k ∧ k ≤ (b.size : Int) from ⟨h2, h3⟩), Bool.not_true, cond_false, if_pos hk]
    exact ⟨_, _, _, _, rfl, ha, by rw [hsz]; omega, h0, by rw [hsz]; omega⟩
theorem new_tot {z st : List Int} {k : Int} (hs : st.length ≤ 100) : ∃ a b n t, s_StoreNew_f (z, k, st) = some (a, b, n, t) ∧ SB a b n := by
  rw [s_StoreNew_f_eq, spl z k st (by omega), Option.bind_some]
  by_cases h : PlP z k st
  · obtain ⟨_, _, _, hz⟩ := ptx_cut h
    rw [decide_eq_true h, Bool.not_true, cond_false, (ptx_val z k st (by omega)).2, Option.bind_some]
    exact ⟨_, _, _, _, rfl, hz, by decide, by omega, by decide⟩
  · rw [decide_eq_false h]
    exact ⟨_, _, _, _, rfl, SB0⟩
section
variable {l : List Int} (hl : Bytes l) (hn : l.length ≤ 2000)
include hl hn
def SOut (o : Option (ByteArray × ByteArray × Int × Int)) : Prop := ∃ (a b : ByteArray) (n q : Int), o = some (a, b, n, q) ∧ a.size ≤ 2000 ∧ b.size ≤ 2000 ∧ -10000 ≤ n ∧ n ≤ 10000 ∧ 0 ≤ q ∧ q ≤ 850000000
theorem store_j3 (y0 : Int) (hy0 : y0 ≤ 1000) {p : Int} (hp : 0 ≤ p) (hp' : p ≤ 800000000) (y3 y4 : ByteArray) (y5 : Int) {a b : ByteArray} {n : Int} (h : SB a b n) : SOut (s_l20Store_j3 l y0 l p y3 y4 y5 a b n) := by
  obtain ⟨ha, hb, h0, h1⟩ := h
  obtain ⟨bb, q, e1, q1, q2⟩ := odd_ok hl hn hp (by omega) (n := y0) (by omega)
  rw [s_l20Store_j3_eq, e1, Option.bind_some]
  cases bb with
  | false => simp only [cond_false]; exact ⟨a, b, n, q, by simp, by omega, by omega, by omega, by omega, by omega, by omega⟩
  | true =>
    simp only [cond_true]
    obtain ⟨u, e2, u0, u1⟩ := pick_ok hl hn (show 0 ≤ q by omega) (by omega) (show (1 : Int) ≤ 3 by omega) (by omega)
    rw [e2, Option.bind_some]
    simp only
    by_cases c0 : u = 0
    · obtain ⟨t, q', e3, t1, q3, q4⟩ := spoil_ok hl hn a (by omega) (p := q + 1) (by omega) (by omega)
      rw [beq_t c0, e3, Option.bind_some]
      exact ⟨t, b, n, q', by simp, by omega, by omega, by omega, by omega, by omega, by omega⟩
    · rw [beq_f c0]
      by_cases c1 : u = 1
      · have W : IntKind.i64.wrap ((b.size : Int) + 1) = (b.size : Int) + 1 := i64w (by omega) (by omega)
        rw [beq_t c1, W]
        exact ⟨a, b, (b.size : Int) + 1, q + 1, by simp, by omega, by omega, by omega, by omega, by omega, by omega⟩
      · obtain ⟨t, q', e3, t1, q3, q4⟩ := spoil_ok hl hn b (by omega) (p := q + 1) (by omega) (by omega)
        rw [beq_f c1, e3, Option.bind_some]
        exact ⟨a, t, n, q', by simp, by omega, by omega, by omega, by omega, by omega, by omega⟩
theorem store_j2 (y0 : Int) (hy0 : y0 ≤ 1000) {p : Int} (hp : 0 ≤ p) (hp' : p ≤ 700000000) (y3 y4 : ByteArray) (y5 : Int) {a b : ByteArray} {n : Int} (h : SB a b n) : SOut (s_l20Store_j2 l y0 l p y3 y4 y5 a b n) := by
  have h' := h
  obtain ⟨ha, hb, h0, h1⟩ := h
  obtain ⟨u, e2, u0, u1⟩ := pick_ok hl hn hp (by omega) (show (1 : Int) ≤ 4 by omega) (by omega)
  rw [s_l20Store_j2_eq, e2, Option.bind_some]
  simp only
  by_cases c0 : u = 0
  · have W1 : IntKind.i64.wrap ((b.size : Int) - n) = (b.size : Int) - n := i64w (by omega) (by omega)
    have W2 : IntKind.i64.wrap ((b.size : Int) - n + 1) = (b.size : Int) - n + 1 := i64w (by omega) (by omega)
    obtain ⟨v, e3, v0, v1⟩ := pick_ok hl hn (show 0 ≤ p + 1 by omega) (by omega) (show (1 : Int) ≤ (b.size : Int) - n + 1 by omega) (by omega)
    have W3 : IntKind.i64.wrap (n + v) = n + v := i64w (by omega) (by omega)
    rw [beq_t c0, W1, W2, e3, Option.bind_some]
    simp only
    obtain ⟨a', b', n', t, e4, h4⟩ := crash_tot h' (k := n + v) (by omega) (by omega)
    rw [W3, e4, Option.bind_some]
    exact store_j3 hl hn y0 hy0 (by omega) (by omega) y3 y4 y5 h4
  · rw [beq_f c0]
    exact store_j3 hl hn y0 hy0 (by omega) (by omega) y3 y4 y5 h'
omit hl hn in
theorem ite_in {c : Prop} [Decidable c] {u v z : Int} (h1 : c → 0 ≤ u ∧ u ≤ z) (h2 : ¬ c → 0 ≤ v ∧ v ≤ z) : 0 ≤ (if c then u else v) ∧ (if c then u else v) ≤ z := by
  by_cases hc : c
  · rw [if_pos hc]; exact h1 hc
  · rw [if_neg hc]; exact h2 hc
theorem store_loop (y0 : Int) (hy0 : y0 ≤ 1000) (y4 y5 : ByteArray) (y6 : Int) : ∀ m : Nat, m ≤ 10 → ∀ (p : Int) (a b : ByteArray) (n : Int), 0 ≤ p → p + 100 * (m : Int) ≤ 600000000 → SB a b n → SOut (s_l20Store_l0 l y0 (m : Int) l p y4 y5 y6 a b n) := by
  intro m
  induction m with
  | zero =>
    intro _ p a b n hp hp' h
    rw [s_l20Store_l0_eq, cnd_f (by omega)]
    exact store_j2 hl hn y0 hy0 hp (by omega) y4 y5 y6 h
  | succ m ih =>
    intro hm p a b n hp hp' h
    have h' := h
    obtain ⟨ha, hb, h0, h1⟩ := h
    obtain ⟨x, k, y, ll, t, e, hx, _⟩ := open_tot a b n (by omega) (by omega)
    obtain ⟨K, A, B, q, e2, q1, q2⟩ := l20Deed_ok hl hn (a := x) (b := y) (k := k) (by omega) hp (by omega)
    obtain ⟨a', b', n', t', e3, h3⟩ := act_tot h' K A B
    have hm1 : IntKind.i64.wrap (((m + 1 : Nat) : Int) - 1) = (m : Int) := by rw [wsub (by omega) (by omega)]; omega
    have next : ∀ {a b : ByteArray} {n : Int}, SB a b n → SOut (s_l20Store_j1 l y0 ((m + 1 : Nat) : Int) l q y4 y5 y6 a b n) := by
      intro a b n h
      have h' := h
      obtain ⟨ha, hb, h0, h1⟩ := h
      obtain ⟨u, e4, u0, u1⟩ := pick_ok hl hn (show 0 ≤ q by omega) (by omega) (show (1 : Int) ≤ 6 by omega) (by omega)
      rw [s_l20Store_j1_eq, e4, Option.bind_some]
      simp only [hm1]
      by_cases c0 : u = 0
      · obtain ⟨a2, b2, n2, t2, e5, h5⟩ := sync_tot h'
        rw [beq_t c0, e5, Option.bind_some]
        exact ih (by omega) (q + 1) a2 b2 n2 (by omega) (by omega) h5
      · rw [beq_f c0]
        by_cases c1 : u = 1
        · obtain ⟨v, e6, v0, v1⟩ := pick_ok hl hn (show 0 ≤ q + 1 by omega) (by omega) (show (1 : Int) ≤ 20 by omega) (by omega)
          have W : IntKind.i64.wrap (n + v) = n + v := i64w (by omega) (by omega)
          rw [beq_t c1, e6, Option.bind_some]
          simp only [W]
          have hb2 : 0 ≤ (if n + v < (b.size : Int) then n + v else (b.size : Int)) ∧ (if n + v < (b.size : Int) then n + v else (b.size : Int)) ≤ (b.size : Int) := ite_in (by omega) (by omega)
          exact ih (by omega) (q + 1 + 1) a b _ (by omega) (by omega) ⟨ha, hb, hb2.1, hb2.2⟩
        · rw [beq_f c1]
          exact ih (by omega) (q + 1) a b n (by omega) (by omega) h'
    rw [s_l20Store_l0_eq, cnd_t (by omega), e, Option.bind_some]
    simp only
    rw [e2, Option.bind_some]
    simp only
    rw [e3, Option.bind_some]
    cases t' with
    | true => simp only [cond_true]; exact next h3
    | false => simp only [cond_false]; exact next h'
theorem l20Store_ok (y0 : Int) (hy0 : y0 ≤ 1000) {p : Int} (hp : 0 ≤ p) (hp' : p ≤ 400000000) : SOut (s_l20Store_f (l, p, y0)) := by
  obtain ⟨a, k, b, q, e1, h1, h2, q1, q2⟩ := l20Place_ok hl hn (n := 0) (by omega) hp (by omega)
  obtain ⟨x, y, n, t, e2, h3⟩ := new_tot (z := a) (k := k) (st := b) (by omega)
  obtain ⟨u, e3, u0, u1⟩ := pick_ok hl hn (show 0 ≤ q by omega) (by omega) (show (1 : Int) ≤ 7 by omega) (by omega)
  obtain ⟨m, rfl⟩ : ∃ m : Nat, u = m := ⟨u.toNat, by omega⟩
  rw [s_l20Store_f_eq, e1, Option.bind_some]
  simp only
  rw [e2, Option.bind_some, e3, Option.bind_some]
  exact store_loop hl hn y0 hy0 _ _ _ m (by omega) (q + 1) x y n (by omega) (by omega) h3
end
end FN
/-! The stores' crash and sync, as values. -/
namespace FN
open Go
noncomputable def crV (a b : ByteArray) (n k : Int) : ByteArray × ByteArray × Int × Bool :=
  if stOk a b n = true ∧ n ≤ k ∧ k ≤ (b.size : Int) then (a, ByteArray.extract b 0 k.toNat, n, true) else (ByteArray.empty, ByteArray.empty, 0, false)
noncomputable def syV (a b : ByteArray) (n : Int) : ByteArray × ByteArray × Int × Bool :=
  if stOk a b n = true then (a, b, (b.size : Int), true) else (ByteArray.empty, ByteArray.empty, 0, false)
theorem crash_val (a b : ByteArray) (n k : Int) (h : a.size ≤ 1048577) : i_StoreCrash_f (a, b, n, k) = some (crV a b n k) ∧ s_StoreCrash_f (a, b, n, k) = some (crV a b n k) := by
  rw [i_StoreCrash_f_eq, s_StoreCrash_f_eq, i_stOk a b n h, s_stOk a b n h, Option.bind_some, Option.bind_some, l1In_val, Option.bind_some]
  unfold crV
  cases hc : stOk a b n with
  | false => rw [if_neg (show ¬ (false = true ∧ n ≤ k ∧ k ≤ (b.size : Int)) from fun h => by cases h.1)]; exact ⟨rfl, rfl⟩
  | true =>
    obtain ⟨h1, h2, _⟩ := stOk_spec hc
    rw [Bool.not_true, cond_false, cond_false]
    by_cases c1 : k < n
    · rw [cnd_t c1, decide_eq_false (by omega), if_neg (show ¬ (true = true ∧ n ≤ k ∧ k ≤ (b.size : Int)) by omega)]; exact ⟨rfl, rfl⟩
    · rw [cnd_f c1]
      by_cases c2 : (b.size : Int) < k
      · rw [cnd_t c2, decide_eq_false (by omega), if_neg (show ¬ (true = true ∧ n ≤ k ∧ k ≤ (b.size : Int)) by omega)]; exact ⟨rfl, rfl⟩
      · rw [cnd_f c2, decide_eq_true (show n ≤ k ∧ k ≤ (b.size : Int) by omega), if_pos (show (0 : Int) ≤ k ∧ k ≤ (b.size : Int) by omega), if_pos (show true = true ∧ n ≤ k ∧ k ≤ (b.size : Int) from ⟨rfl, by omega, by omega⟩)]
        exact ⟨rfl, rfl⟩
theorem sync_val (a b : ByteArray) (n : Int) (h : a.size ≤ 1048577) : i_StoreSync_f (a, b, n) = some (syV a b n) ∧ s_StoreSync_f (a, b, n) = some (syV a b n) := by
  rw [i_StoreSync_f_eq, s_StoreSync_f_eq, i_stOk a b n h, s_stOk a b n h, Option.bind_some]
  unfold syV
  cases stOk a b n <;> exact ⟨rfl, rfl⟩
theorem stOk_E : stOk ByteArray.empty ByteArray.empty 0 = false := by
  have : readP ByteArray.empty.data.toList = bad := readP_none (fun a w1 k w3 e => by
    have := congrArg List.length e
    simp [cutL] at this)
  unfold stOk
  rw [this]; rfl
theorem stOk_of {a b : ByteArray} {n : Int} (h : stOk a b n = true) {b' : ByteArray} {n' : Int} (h1 : (b'.size : Int) ≤ 1000) (h2 : 0 ≤ n') (h3 : n' ≤ (b'.size : Int)) : stOk a b' n' = true := by
  unfold stOk at h ⊢
  simp only [Bool.and_eq_true, decide_eq_true_eq] at h ⊢
  exact ⟨h.1, h1, h2, h3⟩
theorem ext_whole (b : ByteArray) {k : Nat} (h : b.size ≤ k) : ByteArray.extract b 0 k = b := by
  apply ByteArray.ext
  rw [ByteArray.data_extract]
  exact Array.extract_eq_self_of_le h
theorem ext_ext (b : ByteArray) {k m : Nat} (h : m ≤ k) : ByteArray.extract (ByteArray.extract b 0 k) 0 m = ByteArray.extract b 0 m := by
  rw [ByteArray.extract_extract]
  congr 1
  omega
theorem eqS (a b : ByteArray) (n : Int) : ((ByteArray.toList a == ByteArray.toList a) && ((ByteArray.toList b == ByteArray.toList b) && ((n == n) && true))) = true := by simp
end FN
/-! A desk after deeds, as a value. -/
namespace FN
open Go
abbrev Dk := List Int × Int × List Int × List Pl
abbrev DkOk (d : Dk) : Prop := DkP d.1 d.2.1 d.2.2.1 d.2.2.2
abbrev nowP (d : Dk) : Pl := (d.1, d.2.1, d.2.2.1)
/-- What a deed makes of a place. -/
noncomputable def madeV (p : Pl) (x : Dd3) : Pl := (s_l15Made_f (p.1, p.2.1, p.2.2, x.1, x.2.1, x.2.2)).getD ([], 0, [])
theorem madeV_val {p : Pl} (h : PlPp p) (x : Dd3) : s_l15Made_f (p.1, p.2.1, p.2.2, x.1, x.2.1, x.2.2) = some ((madeV p x).1, (madeV p x).2.1, (madeV p x).2.2) ∧ (madeV p x).2.2.length ≤ 100 := by
  obtain ⟨z, κ, st, hz, hst⟩ := made_tot h x.1 x.2.1 x.2.2
  have : madeV p x = (z, κ, st) := by unfold madeV; rw [hz]; rfl
  rw [this]
  exact ⟨hz, hst⟩
/-- It can be done, and is not the way back. -/
noncomputable def canV (p : Pl) (x : Dd3) : Bool := decide (PlP (madeV p x).1 (madeV p x).2.1 (madeV p x).2.2) && !decide (ptx (madeV p x).1 (madeV p x).2.1 (madeV p x).2.2 = ptx p.1 p.2.1 p.2.2)
def bkB (x : Dd3) (n : Nat) : Bool := decide (x.1 = 4 ∧ x.2.1 = 0 ∧ x.2.2 = 0 ∧ 0 < n)
def pastV (d : Dk) : List Pl := if 8 < (d.2.2.2 ++ [nowP d]).length then (d.2.2.2 ++ [nowP d]).drop 1 else d.2.2.2 ++ [nowP d]
def backV (d : Dk) : Dk := ((d.2.2.2.getD (d.2.2.2.length - 1) ([], 0, [])).1, (d.2.2.2.getD (d.2.2.2.length - 1) ([], 0, [])).2.1, (d.2.2.2.getD (d.2.2.2.length - 1) ([], 0, [])).2.2, d.2.2.2.take (d.2.2.2.length - 1))
noncomputable def doV (d : Dk) (x : Dd3) : Dk × Bool :=
  if bkB x d.2.2.2.length = true then (backV d, true)
  else if canV (nowP d) x = true then (((madeV (nowP d) x).1, (madeV (nowP d) x).2.1, (madeV (nowP d) x).2.2, pastV d), true) else (d, false)
theorem backV_ok {d : Dk} (h : DkOk d) (h0 : 0 < d.2.2.2.length) : DkOk (backV d) := by
  have hp := h.1 _ (getD_mem (d := ([], 0, [])) (show d.2.2.2.length - 1 < d.2.2.2.length by omega))
  exact ⟨fun p hp' => h.1 p (List.mem_of_mem_take hp'), hp, by have := h.2.2; show (d.2.2.2.take _).length ≤ 8; rw [List.length_take]; omega⟩
theorem doV_ok {d : Dk} (h : DkOk d) (x : Dd3) : DkOk (doV d x).1 := by
  unfold doV
  split
  · rename_i hb
    exact backV_ok h (by unfold bkB at hb; simpa using (of_decide_eq_true hb).2.2.2)
  · split
    · rename_i hc
      unfold canV at hc
      rw [Bool.and_eq_true] at hc
      have hmem : ∀ p ∈ d.2.2.2 ++ [nowP d], PlPp p := fun p hp => by
        rcases List.mem_append.1 hp with hp | hp
        · exact h.1 p hp
        · have : p = nowP d := by simpa using hp
          rw [this]; exact h.2.1
      have hq : PlP (madeV (nowP d) x).1 (madeV (nowP d) x).2.1 (madeV (nowP d) x).2.2 := by
        have := hc.1
        rwa [decide_eq_true_eq] at this
      have key : ∀ (m : Pl) (l : List Pl), PlP m.1 m.2.1 m.2.2 → (∀ p ∈ l, PlPp p) → l.length ≤ 8 → DkOk (m.1, m.2.1, m.2.2, l) := fun m l h1 h2 h3 => ⟨h2, h1, h3⟩
      refine key _ _ hq (fun p hp => ?_) ?_
      · have hp' : p ∈ pastV d := hp
        unfold pastV at hp'
        split at hp'
        · exact hmem p (List.mem_of_mem_drop hp')
        · exact hmem p hp'
      · have h8 := h.2.2
        unfold pastV
        split
        · rw [List.length_drop, List.length_append, List.length_singleton]; omega
        · omega
    · exact h
theorem doV_no {d : Dk} {x : Dd3} (h : (doV d x).2 = false) : (doV d x).1 = d := by
  unfold doV at h ⊢
  split at h
  · cases h
  · rename_i h1
    rw [if_neg h1]
    split at h
    · cases h
    · rename_i h2; rw [if_neg h2]
theorem do_val {d : Dk} (h : DkOk d) (x : Dd3) : s_DeskDo_f (d.1, d.2.1, d.2.2.1, d.2.2.2, x.1, x.2.1, x.2.2) = some ((doV d x).1.1, (doV d x).1.2.1, (doV d x).1.2.2.1, (doV d x).1.2.2.2, (doV d x).2) := by
  obtain ⟨a, k, b, l⟩ := d
  obtain ⟨K, A, B⟩ := x
  have h' : DkP a k b l := h
  have hl := h'.2.2
  have hsz := PlP.sm h'.2.1
  by_cases h4 : K = 4 ∧ A = 0 ∧ B = 0 ∧ 0 < l.length
  · have e : doV (a, k, b, l) (K, A, B) = (backV (a, k, b, l), true) := by
      unfold doV
      rw [if_pos (show bkB (K, A, B) l.length = true from decide_eq_true h4)]
    rw [e]
    obtain ⟨k4, A0, B0, c⟩ := h4
    have hsm : ∀ p ∈ l, smP 4611686018427387904 p := fun p hp => by have := PlP.sm (h'.1 p hp); exact ⟨by omega, by omega⟩
    have hW : IntKind.i64.wrap ((List.length l : Int) - 1) = (l.length : Int) - 1 := i64w (by omega) (by omega)
    have h1 : (0 : Int) ≤ (l.length : Int) - 1 ∧ (l.length : Int) - 1 < (l.length : Int) := ⟨by omega, by omega⟩
    have h2 : (0 : Int) ≤ (l.length : Int) - 1 ∧ (l.length : Int) - 1 ≤ (l.length : Int) := ⟨by omega, by omega⟩
    obtain ⟨z, κ, st, hz', _⟩ := made_tot h'.2.1 K A B
    rw [s_DeskDo_f_eq, sdesk a k b l (by omega) (by omega) hsm, decide_eq_true h', Option.bind_some, Bool.not_true, cond_false, l15Copy_val h', Option.bind_some]
    have e4 : (K == 4 && (A == 0 && (B == 0 && true))) = true := by rw [k4, A0, B0]; rfl
    simp only [hW]
    rw [e4, cond_true, cnd_t (by omega), if_pos h1, if_pos h2]
    have hi : ((l.length : Int) - 1).toNat = l.length - 1 := by omega
    rw [hi]
    rfl
  · obtain ⟨z, κ, st, hz, hst⟩ := made_tot h'.2.1 K A B
    have hmv : madeV (a, k, b) (K, A, B) = (z, κ, st) := by unfold madeV; rw [hz]; rfl
    have hb : ¬ bkB (K, A, B) l.length = true := fun hh => h4 (of_decide_eq_true hh)
    show s_DeskDo_f (a, k, b, l, K, A, B) = _
    rw [do_made h' h4 hst hz, i_DeskDo_j4_eq, ipl z κ st (by omega), Option.bind_some, (ptx_val z κ st (by omega)).1, Option.bind_some, (ptx_val a k b (by omega)).1, Option.bind_some]
    unfold doV
    simp only
    rw [if_neg hb]
    unfold canV
    simp only [hmv]
    have hlen : (l ++ ([(a, k, b)] : List (List Int × Int × List Int))).length = l.length + 1 := by simp
    have hmem : ∀ p ∈ l ++ ([(a, k, b)] : List (List Int × Int × List Int)), PlPp p := fun p hp => by
      rcases List.mem_append.1 hp with hp | hp
      · exact h'.1 p hp
      · have : p = (a, k, b) := by simpa using hp
        rw [this]; exact h'.2.1
    by_cases hq : PlP z κ st
    · rw [decide_eq_true hq, Bool.not_true, cond_false, Bool.true_and]
      by_cases he : ptx z κ st = ptx a k b
      · rw [he, show (ByteArray.toList (ptx a k b) == ByteArray.toList (ptx a k b)) = true from by simp, cond_true, decide_eq_true rfl, if_neg (by simp)]
      · have hne : (ByteArray.toList (ptx z κ st) == ByteArray.toList (ptx a k b)) = false := by
          cases hc : (ByteArray.toList (ptx z κ st) == ByteArray.toList (ptx a k b)) with
          | false => rfl
          | true =>
            exfalso
            apply he
            have := beq_bytes (a := ptx z κ st) (b := ptx a k b) (x := 0) (y := 1)
            rw [hc, Bool.not_true, cond_false] at this
            by_cases h0 : ptx z κ st = ptx a k b
            · exact h0
            · rw [if_neg h0] at this; cases this
        have h56 : (List.length l + List.length ([(a, k, b)] : List (List Int × Int × List Int))) * 56 ≤ 140737488355328 := by simp; omega
        have hin : (0 : Int) ≤ 1 ∧ 1 ≤ ((l.length + 1 : Nat) : Int) := ⟨by omega, by omega⟩
        rw [hne, cond_false, decide_eq_false he, Bool.not_false, if_pos rfl, copyPl (p := (a, k, b)) h'.2.1, Option.bind_some]
        simp only [if_pos h56, hlen, if_pos hin]
        unfold pastV
        simp only
        by_cases c8 : (8 : Int) < ((l.length + 1 : Nat) : Int)
        · have hd : DkP z κ st (List.drop (1 : Int).toNat (List.take (l.length + 1) (l ++ ([(a, k, b)] : List (List Int × Int × List Int))))) := ⟨fun p hp' => hmem p (List.mem_of_mem_take (List.mem_of_mem_drop hp')), hq, by rw [List.length_drop, List.length_take, hlen, show (1 : Int).toNat = 1 from rfl]; omega⟩
          rw [cnd_t c8, icopy_val hd, Option.bind_some, if_pos (show 8 < (l ++ ([(a, k, b)] : List Pl)).length by rw [hlen]; omega)]
          have ht : List.take (l.length + 1) (l ++ ([(a, k, b)] : List (List Int × Int × List Int))) = l ++ [(a, k, b)] := List.take_of_length_le (by rw [hlen]; omega)
          rw [ht]
          rfl
        · have hd : DkP z κ st (l ++ ([(a, k, b)] : List (List Int × Int × List Int))) := ⟨hmem, hq, by rw [hlen]; omega⟩
          rw [cnd_f c8, icopy_val hd, Option.bind_some, if_neg (show ¬ 8 < (l ++ ([(a, k, b)] : List Pl)).length by rw [hlen]; omega)]
    · rw [decide_eq_false hq, Bool.not_false, cond_true, Bool.false_and, if_neg (by simp)]
theorem ido_val {d : Dk} (h : DkOk d) (x : Dd3) : i_DeskDo_f (d.1, d.2.1, d.2.2.1, d.2.2.2, x.1, x.2.1, x.2.2) = some ((doV d x).1.1, (doV d x).1.2.1, (doV d x).1.2.2.1, (doV d x).1.2.2.2, (doV d x).2) := by
  rw [do_same h]; exact do_val h x
/-- Deeds, one behind the other. -/
noncomputable def runV (d : Dk) (ds : List Dd3) : Dk := ds.foldl (fun d x => (doV d x).1) d
theorem runV_ok {d : Dk} (h : DkOk d) (ds : List Dd3) : DkOk (runV d ds) := by
  induction ds generalizing d with
  | nil => exact h
  | cons x ds ih => exact ih (doV_ok h x)
theorem runV_app (d : Dk) (xs ys : List Dd3) : runV d (xs ++ ys) = runV (runV d xs) ys := List.foldl_append
/-- How many can be done. -/
noncomputable def cntV (d : Dk) : List Dd3 → Int
  | [] => 0
  | x :: ds => (if (doV d x).2 = true then 1 else 0) + cntV (doV d x).1 ds
theorem cntV_app (d : Dk) : ∀ xs ys : List Dd3, cntV d (xs ++ ys) = cntV d xs + cntV (runV d xs) ys
  | [], ys => by simp [cntV, runV]
  | x :: xs, ys => by
    rw [List.cons_append, cntV, cntV, cntV_app _ xs ys]
    show _ = _ + cntV (runV (doV d x).1 xs) ys
    omega
theorem cntV_le (d : Dk) : ∀ xs : List Dd3, 0 ≤ cntV d xs ∧ cntV d xs ≤ xs.length
  | [] => by simp [cntV]
  | x :: xs => by
    have := cntV_le (doV d x).1 xs
    rw [cntV, List.length_cons]
    split <;> omega
theorem drop_getD {ds : List Dd3} {i : Nat} (hi : i < ds.length) : ds.drop i = ds.getD i (0, 0, 0) :: ds.drop (i + 1) := by
  rw [List.drop_eq_getElem_cons hi, List.getD_eq_getElem?_getD, List.getElem?_eq_getElem hi]; rfl
theorem run1_val (ds : List Dd3) (hd : ds.length ≤ 4000000000) (y3 : Int) : ∀ i, i ≤ ds.length → ∀ (n : Int) (d : Dk), 0 ≤ n → n + (ds.length : Int) ≤ 4000000000 + (i : Int) → DkOk d → s_l15Run_l1 ds n (i : Int) y3 d.1 d.2.1 d.2.2.1 d.2.2.2 = some ((runV d (ds.drop i)).1, (runV d (ds.drop i)).2.1, (runV d (ds.drop i)).2.2.1, (runV d (ds.drop i)).2.2.2, n + cntV d (ds.drop i)) := by
  refine advN ?_ fun i hi ih => ?_
  · intro n d hn _ h
    rw [s_l15Run_l1_eq, cnd_f (by omega), List.drop_length]
    simp [runV, cntV]
  · intro n d hn hn' h
    rw [s_l15Run_l1_eq, cnd_t (by omega), if_pos (inN hi), gD3, do_val h, Option.bind_some, w1 hi (by omega), drop_getD hi, cntV]
    have hr : ∀ x : Dd3, ∀ l, runV d (x :: l) = runV (doV d x).1 l := fun _ _ => rfl
    rw [hr]
    cases ht : (doV d (ds.getD i (0, 0, 0))).2 with
    | true =>
      have hW : IntKind.i64.wrap (n + 1) = n + 1 := i64w (by omega) (by omega)
      have := ih (n + 1) _ (by omega) (by omega) (doV_ok h (ds.getD i (0, 0, 0)))
      rw [if_pos rfl, show n + (1 + cntV (doV d (ds.getD i (0, 0, 0))).1 (ds.drop (i + 1))) = n + 1 + cntV (doV d (ds.getD i (0, 0, 0))).1 (ds.drop (i + 1)) by omega]
      simp only [cond_true, hW]
      exact this
    | false =>
      have hs := doV_no ht
      rw [if_neg (by simp), hs, Int.zero_add]
      exact ih n _ hn (by omega) h
theorem run0_val (ds : List Dd3) (hd : ds.length ≤ 4000000000) (y3 : Int) : ∀ i, i ≤ ds.length → ∀ (n : Int) (d : Dk), 0 ≤ n → n + (ds.length : Int) ≤ 4000000000 + (i : Int) → DkOk d → s_l15Run_l0 ds n (i : Int) y3 d.1 d.2.1 d.2.2.1 d.2.2.2 = some ((runV d (ds.drop i)).1, (runV d (ds.drop i)).2.1, (runV d (ds.drop i)).2.2.1, (runV d (ds.drop i)).2.2.2, n + cntV d (ds.drop i)) := by
  refine advN ?_ fun i hi ih => ?_
  · intro n d hn _ h
    rw [s_l15Run_l0_eq, cnd_f (by omega), List.drop_length]
    simp [runV, cntV]
  · intro n d hn hn' h
    rw [s_l15Run_l0_eq, cnd_t (by omega), if_pos (inN hi), gD3, do_val h, Option.bind_some, w1 hi (by omega), drop_getD hi, cntV]
    have hr : ∀ x : Dd3, ∀ l, runV d (x :: l) = runV (doV d x).1 l := fun _ _ => rfl
    rw [hr]
    cases ht : (doV d (ds.getD i (0, 0, 0))).2 with
    | true =>
      have hW : IntKind.i64.wrap (n + 1) = n + 1 := i64w (by omega) (by omega)
      have := run1_val ds hd y3 (i + 1) (by omega) (n + 1) _ (by omega) (by omega) (doV_ok h (ds.getD i (0, 0, 0)))
      rw [if_pos rfl, show n + (1 + cntV (doV d (ds.getD i (0, 0, 0))).1 (ds.drop (i + 1))) = n + 1 + cntV (doV d (ds.getD i (0, 0, 0))).1 (ds.drop (i + 1)) by omega]
      simp only [cond_true, hW]
      exact this
    | false =>
      have hs := doV_no ht
      rw [if_neg (by simp), hs, Int.zero_add]
      exact ih n _ hn (by omega) h
theorem srun_val {d : Dk} (h : DkOk d) (ds : List Dd3) (hd : ds.length ≤ 4000000000) : s_l15Run_f (d.1, d.2.1, d.2.2.1, d.2.2.2, ds) = some ((runV d ds).1, (runV d ds).2.1, (runV d ds).2.2.1, (runV d ds).2.2.2, cntV d ds) := by
  rw [s_l15Run_f_eq, l15Copy_val h, Option.bind_some]
  have := run0_val ds hd 0 0 (by omega) 0 d (by omega) (by omega) h
  rw [Int.zero_add] at this
  exact this
theorem irun_val {d : Dk} (h : DkOk d) (ds : List Dd3) (hd : ds.length ≤ 4000000000) : i_doAll_f (d.1, d.2.1, d.2.2.1, d.2.2.2, ds) = some ((runV d ds).1, (runV d ds).2.1, (runV d ds).2.2.1, (runV d ds).2.2.2, cntV d ds) := by
  rw [doAll_same h ds hd]; exact srun_val h ds hd
/-! Two desks at one place. -/
theorem doV_now {d e : Dk} (hn : nowP d = nowP e) {x : Dd3} (hx : x.1 ≠ 4) : (doV d x).2 = (doV e x).2 ∧ nowP (doV d x).1 = nowP (doV e x).1 := by
  have hb : ∀ n, ¬ bkB x n = true := fun n h => hx (of_decide_eq_true h).1
  unfold doV
  rw [if_neg (hb _), if_neg (hb _), hn]
  split
  · exact ⟨rfl, rfl⟩
  · exact ⟨rfl, hn⟩
end FN
/-! What is read of a journal: its parts. -/
namespace FN
open Go
def okD (d : Dd3) : Prop := dtx d.1 d.2.1 d.2.2 ≠ ByteArray.empty
instance (d : Dd3) : Decidable (okD d) := inferInstanceAs (Decidable (¬ _))
/-- The text of a journal. -/
def jt : List Dd3 → List UInt8
  | [] => []
  | d :: l => (dtx d.1 d.2.1 d.2.2).data.toList ++ 10 :: jt l
theorem no10 {k a b : Int} (h : dtx k a b ≠ ByteArray.empty) : (10 : UInt8) ∉ (dtx k a b).data.toList := by
  have nA : ∀ {a : Int}, 0 ≤ a → a ≤ 99 → (10 : UInt8) ∉ (itoaS a).data.toList := fun h0 h1 => (it_l h0 h1).2.1
  have n1 : (10 : UInt8) ∉ str1.data.toList := by decide
  have n0 : (10 : UInt8) ∉ str0.data.toList := by decide
  have n2 : (10 : UInt8) ∉ str2.data.toList := by decide
  have n3 : (10 : UInt8) ∉ str3.data.toList := by decide
  unfold dtx at h ⊢
  by_cases hr : 0 ≤ a ∧ a ≤ 99 ∧ 0 ≤ b ∧ b ≤ 99
  · rw [if_pos hr]
    have hA := nA (a := a) (by omega) (by omega)
    have hB := nA (a := b) (by omega) (by omega)
    repeat' split
    · simp only [ba_app, List.mem_append, not_or]; exact ⟨⟨⟨n0, hA⟩, n1⟩, hB⟩
    · decide
    · simp only [ba_app, List.mem_append, not_or]; exact ⟨n2, hA⟩
    · simp only [ba_app, List.mem_append, not_or]; exact ⟨n3, hA⟩
    all_goals decide
  · rw [if_neg hr]; decide
theorem jt_back : ∀ l : List Dd3, (∀ d ∈ l, okD d) → js [] (jt l) = (l, (jt l).length)
  | [], _ => by simp [jt, js]
  | d :: l, h => by
    have hd : dtx d.1 d.2.1 d.2.2 ≠ ByteArray.empty := h d (by simp)
    have hr : rdr (dtx d.1 d.2.1 d.2.2).data.toList = (d.1, d.2.1, d.2.2, true) := by
      unfold rdr
      rw [of_data, i_back hd]
      rfl
    rw [jt, js_line (no10 hd), hr, jt_back l fun d hm => h d (by simp [hm])]
    simp
    omega
/-- What a line tells is its deed. -/
theorem rdr_of {d : Dd3} (h : okD d) : rdr (dtx d.1 d.2.1 d.2.2).data.toList = (d.1, d.2.1, d.2.2, true) := by
  unfold rdr
  rw [of_data, i_back h]
  rfl
theorem rdr_ok {a : List UInt8} (ha : a.length ≤ 4294967280) (h : (rdr a).2.2.2 = true) : okD (dOf (rdr a)) ∧ (dtx (dOf (rdr a)).1 (dOf (rdr a)).2.1 (dOf (rdr a)).2.2).data.toList = a := by
  obtain ⟨r, h1, _, h3⟩ := deed_same a ha
  have hr : rdr a = r := by unfold rdr; rw [h1]; rfl
  rw [hr] at h ⊢
  rcases h3 with ⟨rfl, _⟩ | ⟨k, x, b, rfl, e1, e2⟩
  · cases h
  · have e : dtx k x b = ofL a := e1
    refine ⟨fun hh => e2 ?_, ?_⟩
    · rw [← e1]; exact hh
    · show (dtx k x b).data.toList = a
      rw [e, ofL_data]
/-- All of it is read: what comes behind is read, too. -/
theorem js_app : ∀ n (L : List UInt8), L.length ≤ n → ∀ M : List UInt8, (js [] L).2 = L.length → js [] (L ++ M) = ((js [] L).1 ++ (js [] M).1, L.length + (js [] M).2)
  | 0, L, hl, M, _ => by
    have : L = [] := List.eq_nil_of_length_eq_zero (by omega)
    subst this
    simp [js]
  | n + 1, L, hl, M, h => by
    rcases cut_one L with ⟨h1, _⟩ | ⟨a, S, h1, h2, _⟩
    · rw [js_none h1] at h
      have : L = [] := List.eq_nil_of_length_eq_zero h.symm
      subst this
      simp [js]
    · subst h1
      have hSl : S.length ≤ n := by simp at hl; omega
      rw [List.append_assoc, List.cons_append, js_line h2, js_line h2] at *
      cases hr : (rdr a).2.2.2 with
      | false => rw [hr] at h; simp at h
      | true =>
        rw [hr] at h
        simp only [if_true] at h ⊢
        have hS : (js [] S).2 = S.length := by simp at h; omega
        rw [js_app n S hSl M hS]
        simp only [List.cons_append, List.length_append, List.length_cons]
        rw [show a.length + 1 + (S.length + (js [] M).2) = a.length + (S.length + 1) + (js [] M).2 by omega]
/-- What is read is read again. -/
theorem js_self : ∀ n (L : List UInt8), L.length ≤ n → js [] (L.take (js [] L).2) = js [] L
  | 0, L, hl => by
    have : L = [] := List.eq_nil_of_length_eq_zero (by omega)
    subst this
    simp [js]
  | n + 1, L, hl => by
    rcases cut_one L with ⟨h1, _⟩ | ⟨a, S, h1, h2, _⟩
    · rw [js_none h1]; simp [js]
    · subst h1
      have hSl : S.length ≤ n := by simp at hl; omega
      rw [js_line h2]
      cases hr : (rdr a).2.2.2 with
      | false => simp [js]
      | true =>
        simp only [if_true]
        rw [show a.length + 1 + (js [] S).2 = (a ++ [10]).length + (js [] S).2 by simp, show a ++ 10 :: S = (a ++ [10]) ++ S by simp, List.take_length_add_append, List.append_assoc, List.singleton_append, js_line h2, hr, js_self n S hSl]
        simp
/-- Of a beginning the first ones are read. -/
theorem js_pre_take : ∀ n (L : List UInt8), L.length ≤ n → ∀ k, (js [] (L.take k)).1 <+: (js [] L).1
  | 0, L, hl, k => by
    have : L = [] := List.eq_nil_of_length_eq_zero (by omega)
    subst this
    simp
  | n + 1, L, hl, k => by
    rcases cut_one L with ⟨h1, _⟩ | ⟨a, S, h1, h2, _⟩
    · rw [js_none (fun h => h1 (List.mem_of_mem_take h))]
      exact List.nil_prefix
    · subst h1
      have hSl : S.length ≤ n := by simp at hl; omega
      by_cases hk : k ≤ a.length
      · rw [List.take_append_of_le_length hk, js_none (fun h => h2 (List.mem_of_mem_take h))]
        exact List.nil_prefix
      · obtain ⟨m, rfl⟩ : ∃ m, k = (a ++ [10]).length + m := ⟨k - (a.length + 1), by simp; omega⟩
        rw [show a ++ 10 :: S = (a ++ [10]) ++ S by simp, List.take_length_add_append, List.append_assoc, List.append_assoc, List.singleton_append, List.singleton_append, js_line h2, js_line h2]
        cases (rdr a).2.2.2 with
        | false => simp
        | true =>
          simp only [if_true]
          exact List.cons_prefix_cons.2 ⟨rfl, js_pre_take n S hSl m⟩
theorem js_mono (L : List UInt8) {k m : Nat} (h : k ≤ m) : (js [] (L.take k)).1 <+: (js [] (L.take m)).1 := by
  have := js_pre_take (L.take m).length (L.take m) (Nat.le_refl _) k
  rwa [List.take_take, Nat.min_eq_left h] at this
/-- The deeds that are read have texts; and these are what was read. -/
theorem js_text : ∀ n (L : List UInt8), L.length ≤ n → L.length ≤ 4294967280 → (∀ d ∈ (js [] L).1, okD d) ∧ jt (js [] L).1 = L.take (js [] L).2
  | 0, L, hl, _ => by
    have : L = [] := List.eq_nil_of_length_eq_zero (by omega)
    subst this
    simp [js, jt]
  | n + 1, L, hl, hb => by
    rcases cut_one L with ⟨h1, _⟩ | ⟨a, S, h1, h2, _⟩
    · rw [js_none h1]; simp [jt]
    · subst h1
      have hSl : S.length ≤ n := by simp at hl; omega
      have hal : a.length + (S.length + 1) ≤ 4294967280 := by simpa using hb
      rw [js_line h2]
      cases hr : (rdr a).2.2.2 with
      | false => simp [jt]
      | true =>
        obtain ⟨i1, i2⟩ := js_text n S hSl (by omega)
        obtain ⟨r1, r2⟩ := rdr_ok (by omega) hr
        simp only [if_true]
        refine ⟨fun d hd => ?_, ?_⟩
        · rcases List.mem_cons.1 hd with rfl | hd
          · exact r1
          · exact i1 d hd
        · rw [jt, r2, i2, show a.length + 1 + (js [] S).2 = (a ++ [10]).length + (js [] S).2 by simp, show a ++ 10 :: S = (a ++ [10]) ++ S by simp, List.take_length_add_append]
          simp
theorem jt_app : ∀ (l m : List Dd3), jt (l ++ m) = jt l ++ jt m
  | [], m => rfl
  | d :: l, m => by rw [List.cons_append, jt, jt, jt_app l m]; simp
end FN
/-! A store's desk, and what is made of a store, as values. -/
namespace FN
open Go
noncomputable def jsB (b : ByteArray) : List Dd3 × Nat := js [] b.data.toList
noncomputable def plB (a : ByteArray) : Pl := ((readP a.data.toList).1, (readP a.data.toList).2.1, (readP a.data.toList).2.2.1)
/-- The desk of a place. -/
abbrev newD (p : Pl) : Dk := (p.1, p.2.1, p.2.2, [])
noncomputable def opV (a b : ByteArray) : Dk := runV (newD (plB a)) (jsB b).1
theorem newD_ok {p : Pl} (h : PlPp p) : DkOk (newD p) := ⟨by simp, h, by simp⟩
theorem plB_ok {a b : ByteArray} {n : Int} (ha : a.size ≤ 1048577) (h : stOk a b n = true) : PlPp (plB a) := by
  obtain ⟨z, k, st, h1, h2⟩ := stOk_place ha h
  unfold plB
  rw [h1]
  exact h2
theorem opV_ok {a b : ByteArray} {n : Int} (ha : a.size ≤ 1048577) (h : stOk a b n = true) : DkOk (opV a b) := runV_ok (newD_ok (plB_ok ha h)) _
theorem jsB_le (b : ByteArray) : (jsB b).2 ≤ b.size ∧ (jsB b).1.length ≤ b.size := by
  have := js_le b.data.toList []
  rw [← szD] at this
  exact ⟨by unfold jsB; simpa using this.1, this.2⟩
theorem jsB_empty : jsB ByteArray.empty = ([], 0) := rfl
theorem opV_empty (a : ByteArray) : opV a ByteArray.empty = newD (plB a) := rfl
theorem plB_ptx {p : Pl} (h : PlPp p) : plB (ptx p.1 p.2.1 p.2.2) = p := by
  unfold plB
  rw [read_back h]
theorem ptx_size {p : Pl} (h : PlPp p) : (ptx p.1 p.2.1 p.2.2).size ≤ 1000 := by
  obtain ⟨_, _, _, h3⟩ := ptx_cut h
  exact h3
theorem ptx_inj {p q : Pl} (h : PlPp p) (h' : PlPp q) (e : ptx p.1 p.2.1 p.2.2 = ptx q.1 q.2.1 q.2.2) : p = q := by
  rw [← plB_ptx h, e, plB_ptx h']
theorem stOk_ptx {p : Pl} (h : PlPp p) : stOk (ptx p.1 p.2.1 p.2.2) ByteArray.empty 0 = true := by
  unfold stOk
  rw [read_back h]
  rfl
theorem stOk_a {a b b' : ByteArray} {n n' : Int} (h : stOk a b n = true) (h1 : (b'.size : Int) ≤ 1000) (h2 : 0 ≤ n') (h3 : n' ≤ (b'.size : Int)) : stOk a b' n' = true := stOk_of h h1 h2 h3
/-- The store after a deed. -/
def actB (a b : ByteArray) (x : Dd3) : Prop := (jsB b).2 = b.size ∧ (doV (opV a b) x).2 = true ∧ okD x ∧ b.size + (dtx x.1 x.2.1 x.2.2).size + 1 ≤ 1000
noncomputable instance (a b : ByteArray) (x : Dd3) : Decidable (actB a b x) := inferInstanceAs (Decidable (_ ∧ _))
noncomputable def actT (b : ByteArray) (x : Dd3) : ByteArray := (b ++ dtx x.1 x.2.1 x.2.2) ++ str13
theorem z13 : ByteArray.size str13 = 1 := rfl
theorem actT_size (b : ByteArray) (x : Dd3) : (actT b x).size = b.size + (dtx x.1 x.2.1 x.2.2).size + 1 := by
  unfold actT
  rw [ByteArray.size_append, ByteArray.size_append, z13]
theorem actT_js {b : ByteArray} {x : Dd3} (h : (jsB b).2 = b.size) (hx : okD x) : jsB (actT b x) = ((jsB b).1 ++ [x], (actT b x).size) := by
  have h' : (js [] b.data.toList).2 = b.data.toList.length := by rw [← szD]; exact h
  have e : (actT b x).data.toList = b.data.toList ++ ((dtx x.1 x.2.1 x.2.2).data.toList ++ 10 :: []) := by
    unfold actT
    rw [ba_app, ba_app, show str13.data.toList = [10] from rfl, List.append_assoc]
  unfold jsB
  rw [e, js_app _ _ (Nat.le_refl _) _ h', js_line (no10 hx), rdr_of hx]
  rw [actT_size]
  simp only [if_true, js]
  rw [← szD, ← szD]
  simp only [Nat.add_zero, Nat.add_assoc]
theorem actT_op {a b : ByteArray} {x : Dd3} (h : (jsB b).2 = b.size) (hx : okD x) : opV a (actT b x) = (doV (opV a b) x).1 := by
  unfold opV
  rw [actT_js h hx, runV_app]
  rfl
/-- The store mended. -/
noncomputable def mendT (b : ByteArray) : ByteArray := ByteArray.extract b 0 (jsB b).2
theorem ext_data (b : ByteArray) (k : Nat) : (ByteArray.extract b 0 k).data.toList = b.data.toList.take k := by
  have := ext_of b.data.toList 0 k
  rw [of_data] at this
  rw [this, ofL_data]
  rfl
theorem mendT_size (b : ByteArray) : (mendT b).size = (jsB b).2 := by
  have := (jsB_le b).1
  unfold mendT
  rw [ByteArray.size_extract]; omega
theorem mendT_js (b : ByteArray) : jsB (mendT b) = jsB b := by
  unfold mendT
  show js [] (ByteArray.extract b 0 (jsB b).2).data.toList = _
  rw [ext_data]
  exact js_self _ _ (Nat.le_refl _)
theorem mendT_all (b : ByteArray) : (jsB (mendT b)).2 = (mendT b).size := by rw [mendT_js, mendT_size]
theorem mendT_op (a b : ByteArray) : opV a (mendT b) = opV a b := by unfold opV; rw [mendT_js]
theorem mendT_self (b : ByteArray) : mendT (mendT b) = mendT b := by
  have h := mendT_all b
  show ByteArray.extract (mendT b) 0 (jsB (mendT b)).2 = _
  rw [h]
  exact ext_whole _ (Nat.le_refl _)
/-- A beginning. -/
theorem cut_js (b : ByteArray) {k m : Nat} (h : k ≤ m) : (jsB (ByteArray.extract b 0 k)).1 <+: (jsB (ByteArray.extract b 0 m)).1 := by
  unfold jsB
  rw [ext_data, ext_data]
  exact js_mono _ h
theorem cut_js' (b : ByteArray) (k : Nat) : (jsB (ByteArray.extract b 0 k)).1 <+: (jsB b).1 := by
  unfold jsB
  rw [ext_data]
  exact js_pre_take _ _ (Nat.le_refl _) _
theorem jsB_text {b : ByteArray} (hb : b.size ≤ 1048577) : (∀ d ∈ (jsB b).1, okD d) ∧ (jt (jsB b).1).length = (jsB b).2 := by
  have := js_text b.data.toList.length b.data.toList (Nat.le_refl _) (by rw [← szD]; omega)
  refine ⟨this.1, ?_⟩
  unfold jsB
  rw [this.2, List.length_take, ← szD]
  have := (jsB_le b).1
  unfold jsB at this
  omega
/-! Joining the first two nodes. -/
theorem xor_d : (List.range 64).all (fun x => decide (0 ≤ Go.bits .xor IntKind.i64 (x : Int) 2 ∧ Go.bits .xor IntKind.i64 (x : Int) 2 < 64) && decide (0 ≤ Go.bits .xor IntKind.i64 (x : Int) 1 ∧ Go.bits .xor IntKind.i64 (x : Int) 1 < 64) &&
    (List.range 6).all fun b => decide (bt (Go.bits .xor IntKind.i64 (x : Int) 2) b = if b = 1 then 1 - bt (x : Int) b else bt (x : Int) b) && decide (bt (Go.bits .xor IntKind.i64 (x : Int) 1) b = if b = 0 then 1 - bt (x : Int) b else bt (x : Int) b)) = true := by kernel_rfl
theorem xor_l {x : Int} (h0 : 0 ≤ x) (h1 : x < 64) : (0 ≤ Go.bits .xor IntKind.i64 x 2 ∧ Go.bits .xor IntKind.i64 x 2 < 64) ∧ (0 ≤ Go.bits .xor IntKind.i64 x 1 ∧ Go.bits .xor IntKind.i64 x 1 < 64) ∧
    ∀ b, b < 6 → bt (Go.bits .xor IntKind.i64 x 2) b = (if b = 1 then 1 - bt x b else bt x b) ∧ bt (Go.bits .xor IntKind.i64 x 1) b = (if b = 0 then 1 - bt x b else bt x b) := by
  obtain ⟨m, rfl⟩ : ∃ m : Nat, x = m := ⟨x.toNat, by omega⟩
  have := List.all_eq_true.1 xor_d m (List.mem_range.2 (by omega))
  simp only [Bool.and_eq_true, decide_eq_true_eq, List.all_eq_true, List.mem_range] at this
  exact ⟨this.1.1, this.1.2, fun b hb => this.2 b hb⟩
/-- A number below 2^n by its bits. -/
theorem lt_bits {x : Int} (h0 : 0 ≤ x) (h1 : x < 64) {n : Nat} (hn : n ≤ 6) : x < 2 ^ n ↔ ∀ b, n ≤ b → b < 6 → bt x b = 0 := by
  have hp : ∀ b : Nat, b ≤ 6 → (2 : Int) ^ b = if b = 0 then 1 else if b = 1 then 2 else if b = 2 then 4 else if b = 3 then 8 else if b = 4 then 16 else if b = 5 then 32 else 64 := by
    intro b hb
    obtain rfl | rfl | rfl | rfl | rfl | rfl | rfl : b = 0 ∨ b = 1 ∨ b = 2 ∨ b = 3 ∨ b = 4 ∨ b = 5 ∨ b = 6 := by omega
    all_goals decide
  have e : ∀ b : Nat, b < 6 → bt x b = x / (if b = 0 then 1 else if b = 1 then 2 else if b = 2 then 4 else if b = 3 then 8 else if b = 4 then 16 else if b = 5 then 32 else 64) % 2 := by
    intro b hb
    unfold bt
    rw [hp b (by omega)]
  have e0 := e 0 (by omega); have e1 := e 1 (by omega); have e2 := e 2 (by omega); have e3 := e 3 (by omega); have e4 := e 4 (by omega); have e5 := e 5 (by omega)
  simp at e0 e1 e2 e3 e4 e5
  constructor
  · intro h b hb hb'
    rw [hp n hn] at h
    obtain rfl | rfl | rfl | rfl | rfl | rfl : b = 0 ∨ b = 1 ∨ b = 2 ∨ b = 3 ∨ b = 4 ∨ b = 5 := by omega
    all_goals (first | rw [e0] | rw [e1] | rw [e2] | rw [e3] | rw [e4] | rw [e5])
    all_goals obtain rfl | rfl | rfl | rfl | rfl | rfl | rfl : n = 0 ∨ n = 1 ∨ n = 2 ∨ n = 3 ∨ n = 4 ∨ n = 5 ∨ n = 6 := by omega
    all_goals simp at h hb ⊢
    all_goals omega
  · intro h
    have g0 := h 0; have g1 := h 1; have g2 := h 2; have g3 := h 3; have g4 := h 4; have g5 := h 5
    rw [e0] at g0; rw [e1] at g1; rw [e2] at g2; rw [e3] at g3; rw [e4] at g4; rw [e5] at g5
    rw [hp n hn]
    obtain rfl | rfl | rfl | rfl | rfl | rfl | rfl : n = 0 ∨ n = 1 ∨ n = 2 ∨ n = 3 ∨ n = 4 ∨ n = 5 ∨ n = 6 := by omega
    all_goals simp at g0 g1 g2 g3 g4 g5 ⊢
    all_goals omega
theorem flip01 {a : List Int} (h : NetP a) (h2 : 2 ≤ a.length) : NetP (flipV a 0 1) ∧ (flipV a 0 1).getD 0 0 ≠ a.getD 0 0 := by
  have hp := pow6 h.hi
  have hr : ∀ i, i < a.length → 0 ≤ a.getD i 0 ∧ a.getD i 0 < 64 := fun i hi => ⟨(h.rng i hi).1, by have := (h.rng i hi).2; omega⟩
  have x0 := xor_l (hr 0 (by omega)).1 (hr 0 (by omega)).2
  have x1 := xor_l (hr 1 (by omega)).1 (hr 1 (by omega)).2
  have w1 : IntKind.i64.wrap (1 * 2 ^ min (1 : Int).toNat IntKind.i64.bits) = 2 := by decide
  have w0 : IntKind.i64.wrap (1 * 2 ^ min (0 : Int).toNat IntKind.i64.bits) = 1 := by decide
  have hf : flipV a 0 1 = (a.set 0 (Go.bits .xor IntKind.i64 (a.getD 0 0) 2)).set 1 (Go.bits .xor IntKind.i64 (a.getD 1 0) 1) := by
    unfold flipV
    simp only [w0, w1, show (0 : Int).toNat = 0 from rfl, show (1 : Int).toNat = 1 from rfl]
    congr 2
    rw [List.getD_eq_getElem?_getD, List.getElem?_set_ne (by omega), ← List.getD_eq_getElem?_getD]
  have hlen : (flipV a 0 1).length = a.length := by rw [hf]; simp
  have g : ∀ i, i < a.length → (flipV a 0 1).getD i 0 = if i = 0 then Go.bits .xor IntKind.i64 (a.getD 0 0) 2 else if i = 1 then Go.bits .xor IntKind.i64 (a.getD 1 0) 1 else a.getD i 0 := by
    intro i hi
    rw [hf, List.getD_eq_getElem?_getD]
    by_cases c1 : i = 1
    · subst c1; simp [List.getElem?_set, hi]
    · rw [List.getElem?_set_ne (by omega)]
      by_cases c0 : i = 0
      · subst c0; simp [show 0 < a.length by omega]
      · rw [List.getElem?_set_ne (by omega), if_neg c0, if_neg c1, ← List.getD_eq_getElem?_getD]
  have bb : ∀ i, i < a.length → ∀ k, k < 6 → bt ((flipV a 0 1).getD i 0) k = if (i = 0 ∧ k = 1) ∨ (i = 1 ∧ k = 0) then 1 - bt (a.getD i 0) k else bt (a.getD i 0) k := by
    intro i hi k hk
    rw [g i hi]
    by_cases c0 : i = 0
    · subst c0
      rw [if_pos rfl, (x0.2.2 k hk).1]
      by_cases c : k = 1
      · rw [if_pos c, if_pos (.inl ⟨rfl, c⟩)]
      · rw [if_neg c, if_neg (by omega)]
    · rw [if_neg c0]
      by_cases c1 : i = 1
      · subst c1
        rw [if_pos rfl, (x1.2.2 k hk).2]
        by_cases c : k = 0
        · rw [if_pos c, if_pos (.inr ⟨rfl, c⟩)]
        · rw [if_neg c, if_neg (by omega)]
      · rw [if_neg c1, if_neg (by omega)]
  have h64 : ∀ i, i < a.length → 0 ≤ (flipV a 0 1).getD i 0 ∧ (flipV a 0 1).getD i 0 < 64 := by
    intro i hi
    rw [g i hi]
    split
    · exact x0.1
    · split
      · exact x1.2.1
      · exact hr i hi
  refine ⟨⟨by rw [hlen]; omega, by rw [hlen]; exact h.hi, fun i hi => ?_, fun i hi k hk => ?_, fun i hi => ?_⟩, fun he => ?_⟩
  · rw [hlen] at hi ⊢
    refine ⟨(h64 i hi).1, (lt_bits (h64 i hi).1 (h64 i hi).2 h.hi).2 fun b hb hb' => ?_⟩
    rw [bb i hi b hb', if_neg (by omega)]
    exact (lt_bits (hr i hi).1 (hr i hi).2 h.hi).1 (h.rng i hi).2 b hb hb'
  · rw [hlen] at hi hk
    have := h.hi
    rw [bb i hi k (by omega), bb k hk i (by omega), h.sym i hi k hk]
    by_cases c : (i = 0 ∧ k = 1) ∨ (i = 1 ∧ k = 0)
    · rw [if_pos c, if_pos (by omega)]
    · rw [if_neg c, if_neg (by omega)]
  · rw [hlen] at hi
    have := h.hi
    rw [bb i hi i (by omega), if_neg (by omega)]
    exact h.self i hi
  · have h1 := bb 0 (by omega) 1 (by omega)
    rw [he, if_pos (.inl ⟨rfl, rfl⟩)] at h1
    rcases bt01 (a.getD 0 0) 1 with h2 | h2 <;> omega
theorem join01 {p : Pl} (h : PlPp p) : canV p (0, 0, 1) = decide (1 < p.1.length) := by
  have hm := made_eq h 0 0 1
  unfold canV madeV
  rw [hm]
  by_cases c : 1 < p.1.length
  · rw [if_pos ⟨rfl, ⟨by omega, by omega⟩, ⟨by omega, by omega⟩, by omega⟩, decide_eq_true c]
    obtain ⟨f1, f2⟩ := flip01 h.1 c
    have hl : (flipV p.1 0 1).length = p.1.length := by unfold flipV; simp
    have hp : PlP (flipV p.1 0 1) p.2.1 p.2.2 := ⟨f1, h.2.1, by rw [hl]; exact h.2.2⟩
    simp only [Option.getD_some]
    rw [decide_eq_true hp, decide_eq_false (fun e => f2 ?_)]
    · rfl
    · have := ptx_inj (p := (flipV p.1 0 1, p.2.1, p.2.2)) (q := p) hp h e
      exact congrArg (fun q : Pl => q.1.getD 0 0) this
  · rw [decide_eq_false c, if_neg (fun hh => c (by omega)), if_neg (by omega), if_neg (by omega), if_neg (by omega)]
    simp only [Option.getD_some]
    rw [decide_eq_false no_zero]
    rfl
theorem do01 {d : Dk} (h : DkOk d) : (doV d (0, 0, 1)).2 = decide (1 < d.1.length) := by
  unfold doV
  rw [if_neg (show ¬ bkB (0, 0, 1) d.2.2.2.length = true from fun hh => by have := of_decide_eq_true hh; omega), join01 (p := nowP d) h.2.1]
  by_cases c : 1 < d.1.length
  · rw [if_pos (show decide (1 < (nowP d).1.length) = true from decide_eq_true c), decide_eq_true c]
  · rw [if_neg (show ¬ decide (1 < (nowP d).1.length) = true from fun hh => c (of_decide_eq_true hh)), decide_eq_false c]
/-- "join 0 1" -/
theorem dtx01 : (dtx 0 0 1).size = 8 := by
  unfold dtx
  rw [if_pos ⟨by omega, by omega, by omega, by omega⟩, if_pos rfl]
  kernel_rfl
end FN
/-! What the stores' functions answer. -/
namespace FN
open Go
abbrev noS : ByteArray × ByteArray × Int × Bool := (ByteArray.empty, ByteArray.empty, 0, false)
section
variable {a b : ByteArray} {n : Int} (ha : a.size ≤ 1048577) (hb : b.size ≤ 1048577)
include ha hb
theorem jsB_val : i_ReadJournal_f b = some ((jsB b).1, ((jsB b).2 : Int)) ∧ s_ReadJournal_f b = some ((jsB b).1, ((jsB b).2 : Int)) := journal_bothB b hb
theorem opened_val (h : stOk a b n = true) : i_opened_f (a, b, n) = some ((opV a b).1, (opV a b).2.1, (opV a b).2.2.1, (opV a b).2.2.2) := by
  have hr := irun_val (newD_ok (plB_ok ha h)) (jsB b).1 (by have := (jsB_le b).2; omega)
  rw [i_opened_f_eq, i_readB a ha, Option.bind_some, (jsB_val ha hb).1, Option.bind_some]
  show Option.bind (i_doAll_f ((plB a).1, (plB a).2.1, (plB a).2.2, [], (jsB b).1)) _ = _
  rw [hr, Option.bind_some]
  rfl
theorem iopen_val : i_StoreOpen_f (a, b, n) = some (if stOk a b n = true then ((opV a b).1, (opV a b).2.1, (opV a b).2.2.1, (opV a b).2.2.2, true) else ([], 0, [], [], false)) := by
  rw [i_StoreOpen_f_eq, i_stOk a b n ha, Option.bind_some]
  cases h : stOk a b n with
  | false => rfl
  | true => rw [Bool.not_true, cond_false, opened_val ha hb h, Option.bind_some, if_pos rfl]
theorem sopen_val : s_StoreOpen_f (a, b, n) = some (if stOk a b n = true then ((opV a b).1, (opV a b).2.1, (opV a b).2.2.1, (opV a b).2.2.2, true) else ([], 0, [], [], false)) := by
  rw [s_StoreOpen_f_eq, s_stOk a b n ha, Option.bind_some]
  cases h : stOk a b n with
  | false => rfl
  | true =>
    have hr := srun_val (newD_ok (plB_ok ha h)) (jsB b).1 (by have := (jsB_le b).2; omega)
    rw [Bool.not_true, cond_false, s_readB a ha, Option.bind_some, (jsB_val ha hb).2, Option.bind_some]
    show Option.bind (s_l15Run_f ((plB a).1, (plB a).2.1, (plB a).2.2, [], (jsB b).1)) _ = _
    rw [hr, Option.bind_some, if_pos rfl]
    rfl
noncomputable def actV (a b : ByteArray) (n : Int) (x : Dd3) : ByteArray × ByteArray × Int × Bool :=
  if stOk a b n = true then (if actB a b x then (a, actT b x, n, true) else (a, b, n, false)) else noS
omit ha hb in
theorem beqE {s : ByteArray} : (ByteArray.toList s == ByteArray.toList ByteArray.empty) = decide (s = ByteArray.empty) := by
  by_cases h : s = ByteArray.empty
  · rw [h]; simp
  · rw [decide_eq_false h]
    refine empty_toList ?_
    rcases Nat.eq_zero_or_pos s.size with hz | hz
    · exfalso
      apply h
      rw [szD] at hz
      exact ba_ext (List.eq_nil_of_length_eq_zero hz)
    · exact hz
theorem act_val (x : Dd3) : i_StoreAct_f (a, b, n, x.1, x.2.1, x.2.2) = some (actV a b n x) ∧ s_StoreAct_f (a, b, n, x.1, x.2.1, x.2.2) = some (actV a b n x) := by
  rw [i_StoreAct_f_eq, s_StoreAct_f_eq, i_stOk a b n ha, s_stOk a b n ha, Option.bind_some, Option.bind_some]
  unfold actV
  cases h : stOk a b n with
  | false => exact ⟨rfl, rfl⟩
  | true =>
    have hd := opV_ok ha h
    have hsz := (deed_val x.1 x.2.1 x.2.2).2.2
    obtain ⟨d1, d2, _⟩ := deed_val x.1 x.2.1 x.2.2
    have q1 : b.size + (dtx x.1 x.2.1 x.2.2).size ≤ 9223372036854775807 := by omega
    have q2 : (b ++ dtx x.1 x.2.1 x.2.2).size + ByteArray.size str13 ≤ 9223372036854775807 := by rw [ByteArray.size_append, z13]; omega
    have q3 : ((b ++ dtx x.1 x.2.1 x.2.2) ++ str13).size = b.size + (dtx x.1 x.2.1 x.2.2).size + 1 := actT_size b x
    have W1 : IntKind.i64.wrap ((b.size : Int) + ((dtx x.1 x.2.1 x.2.2).size : Int)) = (b.size : Int) + ((dtx x.1 x.2.1 x.2.2).size : Int) := i64w (by omega) (by omega)
    have W2 : IntKind.i64.wrap ((b.size : Int) + ((dtx x.1 x.2.1 x.2.2).size : Int) + 1) = (b.size : Int) + ((dtx x.1 x.2.1 x.2.2).size : Int) + 1 := i64w (by omega) (by omega)
    rw [Bool.not_true, cond_false, cond_false, (jsB_val ha hb).1, (jsB_val ha hb).2, Option.bind_some, Option.bind_some, opened_val ha hb h, sopen_val ha hb, Option.bind_some, Option.bind_some, if_pos h, if_pos rfl]
    simp only
    rw [ido_val hd, do_val hd, d1, d2]
    simp only [Option.bind_some]
    rw [if_pos q1, if_pos q2, W1, W2, q3, beqE, if_pos q1, if_pos q2]
    by_cases c1 : (jsB b).2 = b.size
    · rw [bne_f (by rw [c1]), bne_f (by rw [c1])]
      by_cases c2 : (doV (opV a b) x).2 = true
      case neg =>
        rw [Bool.eq_false_iff.2 c2, Bool.not_false, cond_true, cond_true, if_neg (fun hh => c2 hh.2.1)]; exact ⟨rfl, rfl⟩
      case pos =>
        rw [c2, Bool.not_true, cond_false, cond_false]
        by_cases c3 : dtx x.1 x.2.1 x.2.2 = ByteArray.empty
        · rw [decide_eq_true c3, cond_true, cond_true, if_neg (fun hh => hh.2.2.1 c3)]; exact ⟨rfl, rfl⟩
        · rw [decide_eq_false c3, cond_false, cond_false]
          by_cases c4 : (1000 : Int) < (b.size : Int) + ((dtx x.1 x.2.1 x.2.2).size : Int) + 1
          · rw [cnd_t (by omega), cnd_t c4, if_neg (fun hh => by have := hh.2.2.2; omega)]; exact ⟨rfl, rfl⟩
          · rw [cnd_f (by omega), cnd_f c4, if_pos ⟨c1, c2, c3, by omega⟩]; exact ⟨rfl, rfl⟩
    · have c1' : ((jsB b).2 : Int) ≠ (b.size : Int) := by omega
      rw [bne_t c1', bne_t c1', if_neg (fun hh => c1 hh.1)]
      exact ⟨rfl, rfl⟩
noncomputable def saveV (a b : ByteArray) (n : Int) : ByteArray × ByteArray × Int × Bool :=
  if stOk a b n = true then (ptx (opV a b).1 (opV a b).2.1 (opV a b).2.2.1, ByteArray.empty, 0, true) else noS
theorem save_val : i_StoreSave_f (a, b, n) = some (saveV a b n) ∧ s_StoreSave_f (a, b, n) = some (saveV a b n) := by
  rw [i_StoreSave_f_eq, s_StoreSave_f_eq, i_stOk a b n ha, Option.bind_some, sopen_val ha hb, Option.bind_some]
  unfold saveV
  cases h : stOk a b n with
  | false => exact ⟨rfl, rfl⟩
  | true =>
    have hs := (PlP.sm (opV_ok ha h).2.1).2
    rw [Bool.not_true, cond_false, opened_val ha hb h, Option.bind_some, if_pos rfl, if_pos rfl]
    simp only [Bool.not_true, cond_false]
    rw [(ptx_val _ _ _ (by omega)).1, (ptx_val _ _ _ (by omega)).2]
    exact ⟨rfl, rfl⟩
noncomputable def mendV (a b : ByteArray) (n : Int) : ByteArray × ByteArray × Int × Bool :=
  if stOk a b n = true then (a, mendT b, (if ((jsB b).2 : Int) < n then ((jsB b).2 : Int) else n), true) else noS
theorem mend_val : i_StoreMend_f (a, b, n) = some (mendV a b n) ∧ s_StoreMend_f (a, b, n) = some (mendV a b n) := by
  have hle := (jsB_le b).1
  rw [i_StoreMend_f_eq, s_StoreMend_f_eq, i_stOk a b n ha, s_stOk a b n ha, Option.bind_some]
  unfold mendV
  cases h : stOk a b n with
  | false => exact ⟨rfl, rfl⟩
  | true =>
    rw [Bool.not_true, cond_false, (jsB_val ha hb).1, (jsB_val ha hb).2, Option.bind_some]
    simp only
    rw [if_pos (show (0 : Int) ≤ ((jsB b).2 : Int) ∧ ((jsB b).2 : Int) ≤ (b.size : Int) from ⟨by omega, by omega⟩)]
    simp only [if_true, Option.bind_some, Bool.not_true, cond_false]
    exact ⟨rfl, rfl⟩
theorem mend_ok (h : stOk a b n = true) : stOk a (mendT b) (if ((jsB b).2 : Int) < n then ((jsB b).2 : Int) else n) = true := by
  obtain ⟨h1, h2, h3⟩ := stOk_spec h
  have hle := (jsB_le b).1
  refine stOk_of h (by rw [mendT_size]; omega) ?_ ?_
  · split <;> omega
  · rw [mendT_size]; split <;> omega
theorem act_ok {x : Dd3} (h : stOk a b n = true) (hx : actB a b x) : stOk a (actT b x) n = true := by
  obtain ⟨h1, h2, h3⟩ := stOk_spec h
  have := hx.2.2.2
  exact stOk_of h (by rw [actT_size]; omega) h1 (by rw [actT_size]; omega)
theorem save_ok (h : stOk a b n = true) : stOk (ptx (opV a b).1 (opV a b).2.1 (opV a b).2.2.1) ByteArray.empty 0 = true := stOk_ptx (p := nowP (opV a b)) (opV_ok ha h).2.1
theorem save_op (h : stOk a b n = true) : opV (ptx (opV a b).1 (opV a b).2.1 (opV a b).2.2.1) ByteArray.empty = newD (nowP (opV a b)) := by
  rw [opV_empty, plB_ptx (p := nowP (opV a b)) (opV_ok ha h).2.1]
theorem save_sz (h : stOk a b n = true) : (ptx (opV a b).1 (opV a b).2.1 (opV a b).2.2.1).size ≤ 1000 := ptx_size (p := nowP (opV a b)) (opV_ok ha h).2.1
end
end FN
/-! The same desk is told so. -/
namespace FN
open Go
theorem sameDesk_loop (a : List Int) (k : Int) (b : List Int) (l : List Pl) (hl : l.length ≤ 4611686018427387904) (hs : ∀ p ∈ l, smP 4611686018427387904 p) : ∀ i, i ≤ l.length → w_sameDesk_l0 (i : Int) a k b l a k b l = some true := by
  refine advN ?_ fun i hi ih => ?_
  · rw [w_sameDesk_l0_eq, cnd_f (by omega)]
  · rw [w_sameDesk_l0_eq, cnd_t (by omega), if_pos (inN hi), if_pos (inN hi), gP, w1 hi (by omega)]
    have hm := hs _ (getD_mem (d := ([], 0, [])) hi)
    rw [samePlace_refl _ _ _ hm.1 hm.2, Option.bind_some]
    exact ih
theorem sameDesk_refl (a : List Int) (k : Int) (b : List Int) (l : List Pl) (ha : a.length ≤ 4611686018427387904) (hb : b.length ≤ 4611686018427387904) (hl : l.length ≤ 4611686018427387904) (hs : ∀ p ∈ l, smP 4611686018427387904 p) : w_sameDesk_f (a, k, b, l, a, k, b, l) = some true := by
  rw [w_sameDesk_f_eq, samePlace_refl a k b ha hb, Option.bind_some, bne_f rfl]
  exact sameDesk_loop a k b l hl hs 0 (by omega)
theorem noDesk_yes : w_noDesk_f ([], 0, [], []) = some true := by
  rw [w_noDesk_f_eq, sameDesk_refl [] 0 [] [] (by simp) (by simp) (by simp) (by simp)]
  rfl
theorem sameDesk_ok {a : List Int} {k : Int} {b : List Int} {l : List Pl} (h : DkP a k b l) : w_sameDesk_f (a, k, b, l, a, k, b, l) = some true := by
  have h1 := PlP.sm h.2.1
  have h2 := h.2.2
  exact sameDesk_refl a k b l (by omega) (by omega) (by omega) fun p hp => by have := PlP.sm (h.1 p hp); exact ⟨by omega, by omega⟩
end FN
/-! The answers, by whether it is a store. -/
namespace FN
open Go
section
variable {a b : ByteArray} {n : Int} (ha : a.size ≤ 1048577) (hb : b.size ≤ 1048577) (h : stOk a b n = true)
include ha hb h
theorem iopen_t : i_StoreOpen_f (a, b, n) = some ((opV a b).1, (opV a b).2.1, (opV a b).2.2.1, (opV a b).2.2.2, true) := by rw [iopen_val ha hb, if_pos h]
theorem sopen_t : s_StoreOpen_f (a, b, n) = some ((opV a b).1, (opV a b).2.1, (opV a b).2.2.1, (opV a b).2.2.2, true) := by rw [sopen_val ha hb, if_pos h]
theorem iact_t {x : Dd3} (hx : actB a b x) : i_StoreAct_f (a, b, n, x.1, x.2.1, x.2.2) = some (a, actT b x, n, true) ∧ s_StoreAct_f (a, b, n, x.1, x.2.1, x.2.2) = some (a, actT b x, n, true) := by
  have := act_val ha hb (n := n) x
  unfold actV at this
  rwa [if_pos h, if_pos hx] at this
theorem iact_f {x : Dd3} (hx : ¬ actB a b x) : i_StoreAct_f (a, b, n, x.1, x.2.1, x.2.2) = some (a, b, n, false) ∧ s_StoreAct_f (a, b, n, x.1, x.2.1, x.2.2) = some (a, b, n, false) := by
  have := act_val ha hb (n := n) x
  unfold actV at this
  rwa [if_pos h, if_neg hx] at this
theorem isave_t : i_StoreSave_f (a, b, n) = some (ptx (opV a b).1 (opV a b).2.1 (opV a b).2.2.1, ByteArray.empty, 0, true) ∧ s_StoreSave_f (a, b, n) = some (ptx (opV a b).1 (opV a b).2.1 (opV a b).2.2.1, ByteArray.empty, 0, true) := by
  have := save_val ha hb (n := n)
  unfold saveV at this
  rwa [if_pos h] at this
theorem imend_t : i_StoreMend_f (a, b, n) = some (a, mendT b, (if ((jsB b).2 : Int) < n then ((jsB b).2 : Int) else n), true) ∧ s_StoreMend_f (a, b, n) = some (a, mendT b, (if ((jsB b).2 : Int) < n then ((jsB b).2 : Int) else n), true) := by
  have := mend_val ha hb (n := n)
  unfold mendV at this
  rwa [if_pos h] at this
end
section
variable {a b : ByteArray} {n : Int} (ha : a.size ≤ 1048577) (hb : b.size ≤ 1048577) (h : stOk a b n = false)
include ha hb h
theorem iopen_f : i_StoreOpen_f (a, b, n) = some ([], 0, [], [], false) ∧ s_StoreOpen_f (a, b, n) = some ([], 0, [], [], false) := by rw [iopen_val ha hb, sopen_val ha hb, h]; exact ⟨rfl, rfl⟩
theorem iact_n (x : Dd3) : i_StoreAct_f (a, b, n, x.1, x.2.1, x.2.2) = some noS ∧ s_StoreAct_f (a, b, n, x.1, x.2.1, x.2.2) = some noS := by
  have := act_val ha hb (n := n) x
  unfold actV at this
  rw [h] at this
  exact this
theorem isave_n : i_StoreSave_f (a, b, n) = some noS ∧ s_StoreSave_f (a, b, n) = some noS := by
  have := save_val ha hb (n := n)
  unfold saveV at this
  rw [h] at this
  exact this
theorem imend_n : i_StoreMend_f (a, b, n) = some noS ∧ s_StoreMend_f (a, b, n) = some noS := by
  have := mend_val ha hb (n := n)
  unfold mendV at this
  rw [h] at this
  exact this
end
theorem eqS3 (a b : ByteArray) (n : Int) : ((ByteArray.toList a == ByteArray.toList a) && ((ByteArray.toList b == ByteArray.toList b) && ((n == n) && true))) = true := by simp
theorem samePl {a : List Int} {k : Int} {b : List Int} (h : PlP a k b) : w_samePlace_f (a, k, b, a, k, b) = some true := by
  have := PlP.sm h
  exact samePlace_refl a k b (by omega) (by omega)
end FN
namespace FN
open Go
theorem inew_val {a : List Int} {k : Int} {b : List Int} (hs : b.length ≤ 100) : i_StoreNew_f (a, k, b) = some (if PlP a k b then (ptx a k b, ByteArray.empty, 0, true) else noS) ∧ s_StoreNew_f (a, k, b) = some (if PlP a k b then (ptx a k b, ByteArray.empty, 0, true) else noS) := by
  rw [i_StoreNew_f_eq, s_StoreNew_f_eq, ipl a k b (by omega), spl a k b (by omega), Option.bind_some, Option.bind_some]
  by_cases h : PlP a k b
  · rw [decide_eq_true h, Bool.not_true, cond_false, cond_false, (ptx_val a k b (by omega)).1, (ptx_val a k b (by omega)).2, if_pos h]
    exact ⟨rfl, rfl⟩
  · rw [decide_eq_false h, if_neg h]; exact ⟨rfl, rfl⟩
theorem idesknew_val {p : Pl} (h : PlPp p) : i_DeskNew_f (p.1, p.2.1, p.2.2) = some (p.1, p.2.1, p.2.2, [], true) := by
  have hs := PlP.sm h
  rw [i_DeskNew_f_eq, ipl _ _ _ (by omega), Option.bind_some, decide_eq_true (show PlP p.1 p.2.1 p.2.2 from h), Bool.not_true, cond_false, copyPl h, Option.bind_some]
theorem storeNew_law {x : List Int} (hb : Bytes x) : w_FnStoreNew_f x = some true := by
  rw [w_FnStoreNew_f_eq]
  by_cases h0 : (1048576 : Int) < (x.length : Int)
  · rw [cnd_t h0]
  rw [cnd_f h0]
  obtain ⟨l, e1, e2, e3⟩ := open_ok hb
  obtain ⟨a, k, b, q, e4, ha, hb', _⟩ := l20Place_ok e2 e3 (n := 4) (by omega) (p := 0) (by omega) (by omega)
  have hd : s_DrawStoreNew_f x = some (a, k, b) := by
    rw [s_DrawStoreNew_f_eq, e1, Option.bind_some, e4, Option.bind_some]
  rw [hd, Option.bind_some]
  simp only
  rw [(inew_val (by omega)).1, (inew_val (by omega)).2, Option.bind_some, Option.bind_some]
  by_cases h : PlP a k b
  · have hp : PlPp (a, k, b) := h
    have hz : (ptx a k b).size ≤ 1000 := by
      have h1 := ptx_size hp
      simp only at h1
      exact h1
    have hE : ByteArray.size ByteArray.empty = 0 := rfl
    have hok := stOk_ptx hp
    have ho := iopen_t (a := ptx a k b) (b := ByteArray.empty) (n := 0) (by omega) (by omega) hok
    have hv : opV (ptx a k b) ByteArray.empty = newD (a, k, b) := by rw [opV_empty, plB_ptx hp]
    rw [if_pos h]
    simp only [eqS3, Bool.not_true, cond_false, beq_self_eq_true]
    rw [ho, idesknew_val hp, i_stOk _ _ _ (by omega), hok, hv, Option.bind_some, Option.bind_some, Option.bind_some]
    simp only [cond_true]
    rw [sameDesk_ok (newD_ok hp)]
    rfl
  · rw [if_neg h, alive_yes]
    simp
theorem FnStoreNew_true (x : Ts w_FnStoreNew_sig.pc) (hw : WfTs w_FnStoreNew_sig.pc x) : w_FnStoreNew_f x = some true := storeNew_law fun y hy => hw.2 y hy
end FN
namespace FN
open Go
theorem sameDeeds_loop (l : List Dd3) (hl : l.length ≤ 4611686018427387904) : ∀ i, i ≤ l.length → w_sameDeeds_l0 l l (i : Int) = some true := by
  refine advN ?_ fun i hi ih => ?_
  · rw [w_sameDeeds_l0_eq, cnd_f (by omega)]
  · rw [w_sameDeeds_l0_eq, cnd_t (by omega), if_pos (inN hi), if_pos (inN hi), w1 hi (by omega)]
    simp only [beq_self_eq_true, Bool.and_self, Bool.not_true, cond_false]
    exact ih
theorem sameDeeds_ok (l : List Dd3) (hl : l.length ≤ 4611686018427387904) : w_sameDeeds_f (l, l) = some true := by
  rw [w_sameDeeds_f_eq, bne_f rfl]
  exact sameDeeds_loop l hl 0 (by omega)
theorem idesknew' {p : Pl} (h : PlPp p) : i_DeskNew_f (p.1, p.2.1, p.2.2) = some (p.1, p.2.1, p.2.2, [], true) := by
  have hs := PlP.sm h
  rw [i_DeskNew_f_eq, ipl _ _ _ (by omega), Option.bind_some, decide_eq_true (show PlP p.1 p.2.1 p.2.2 from h), Bool.not_true, cond_false, copyPl h, Option.bind_some]
theorem ideskrun_val {d : Dk} (h : DkOk d) (ds : List Dd3) (hd : ds.length ≤ 40) : i_DeskRun_f (d.1, d.2.1, d.2.2.1, d.2.2.2, ds) = some ((runV d ds).1, (runV d ds).2.1, (runV d ds).2.2.1, (runV d ds).2.2.2, cntV d ds) := by
  have hb := PlP.sm h.2.1
  rw [i_DeskRun_f_eq, idesk _ _ _ _ (by omega) (by have := h.2.2; omega) (fun p hp => by have := PlP.sm (h.1 p hp); exact ⟨by omega, by omega⟩), Option.bind_some, decide_eq_true (show DkP _ _ _ _ from h), Bool.not_true, cond_false, cnd_f (by omega), irun_val h ds (by omega), Option.bind_some]
theorem ideskrun_any {d : Dk} (h : DkOk d) (ds : List Dd3) (hd : ds.length ≤ 4000000000) : ∃ r, i_DeskRun_f (d.1, d.2.1, d.2.2.1, d.2.2.2, ds) = some r := by
  have hb := PlP.sm h.2.1
  rw [i_DeskRun_f_eq, idesk _ _ _ _ (by omega) (by have := h.2.2; omega) (fun p hp => by have := PlP.sm (h.1 p hp); exact ⟨by omega, by omega⟩), Option.bind_some, decide_eq_true (show DkP _ _ _ _ from h), Bool.not_true, cond_false]
  by_cases c : (40 : Int) < (ds.length : Int)
  · rw [cnd_t c]; exact ⟨_, rfl⟩
  · rw [cnd_f c, irun_val h ds hd]; exact ⟨_, rfl⟩
theorem never_loop {a b : ByteArray} {n : Int} (ha : a.size ≤ 2000) (hb : b.size ≤ 2000) (h : stOk a b n = true) : ∀ i, n.toNat ≤ i → i ≤ b.size + 1 → w_FnStoreNever_l0 true true (jsB b).1 (jsB (ByteArray.extract b 0 n.toNat)).1 (i : Int) a b n (plB a).1 (plB a).2.1 (plB a).2.2 [] = some true := by
  obtain ⟨h1, h2, h3⟩ := stOk_spec h
  have hpl := plB_ok (a := a) (b := b) (n := n) (by omega) h
  have hnd := newD_ok hpl
  intro i hi hi'
  obtain ⟨k, hk⟩ : ∃ k, b.size + 1 = i + k := ⟨b.size + 1 - i, by omega⟩
  induction k generalizing i with
  | zero =>
    rw [w_FnStoreNever_l0_eq, cnd_f (by omega)]
    rfl
  | succ k ih =>
    have ih := ih (i + 1) (by omega) (by omega) (by omega)
    have hib : i ≤ b.size := by omega
    have hcr : crV a b n (i : Int) = (a, ByteArray.extract b 0 i, n, true) := by
      unfold crV
      rw [if_pos ⟨h, by omega, by omega⟩, Int.toNat_natCast]
    have hsz : (ByteArray.extract b 0 i).size = i := by rw [ByteArray.size_extract]; omega
    have hok : stOk a (ByteArray.extract b 0 i) n = true := stOk_of h (by omega) h1 (by omega)
    have p1 := cut_js' b i
    have p2 := cut_js b (k := n.toNat) (m := i) (by omega)
    have l1 := p1.length_le
    have l2 := p2.length_le
    have l3 := (jsB_le b).2
    have hW : IntKind.i64.wrap ((i : Int) + 1) = ((i + 1 : Nat) : Int) := by rw [i64w (by omega) (by omega)]; omega
    rw [w_FnStoreNever_l0_eq, cnd_t (by omega), (crash_val a b n _ (by omega)).1, hcr, Option.bind_some]
    simp only
    rw [(jsB_val (a := a) (b := ByteArray.extract b 0 i) (by omega) (by omega)).1, Option.bind_some]
    simp only [Bool.not_true, cond_false]
    rw [cnd_f (by omega), cnd_f (by omega)]
    have hmin : (if ((jsB b).1.length : Int) < ((jsB (ByteArray.extract b 0 i)).1.length : Int) then ((jsB b).1.length : Int) else ((jsB (ByteArray.extract b 0 i)).1.length : Int)) = ((jsB (ByteArray.extract b 0 i)).1.length : Int) := if_neg (by omega)
    rw [hmin, if_pos ⟨by omega, by omega⟩, Int.toNat_natCast, List.drop_zero]
    have htk : List.take (jsB (ByteArray.extract b 0 i)).1.length (jsB b).1 = (jsB (ByteArray.extract b 0 i)).1 := (List.prefix_iff_eq_take.1 p1).symm
    rw [htk, sameDeeds_ok _ (by omega), Option.bind_some, Bool.not_true, cond_false, iopen_t (by omega) (by omega) hok, Option.bind_some]
    simp only
    obtain ⟨r, hr⟩ := ideskrun_any hnd (jsB (ByteArray.extract b 0 i)).1 (by omega)
    rw [hW]
    by_cases c40 : ((jsB (ByteArray.extract b 0 i)).1.length : Int) ≤ 40
    · have hv := ideskrun_val hnd (jsB (ByteArray.extract b 0 i)).1 (by omega)
      simp only at hv
      rw [hv, Option.bind_some]
      simp only [Bool.not_true, cond_false]
      rw [cnd_t c40]
      have hD := opV_ok (a := a) (b := ByteArray.extract b 0 i) (n := n) (by omega) hok
      have hs := sameDesk_ok hD
      have e : w_sameDesk_f ((opV a (ByteArray.extract b 0 i)).1, (opV a (ByteArray.extract b 0 i)).2.1, (opV a (ByteArray.extract b 0 i)).2.2.1, (opV a (ByteArray.extract b 0 i)).2.2.2, (runV (newD (plB a)) (jsB (ByteArray.extract b 0 i)).1).1, (runV (newD (plB a)) (jsB (ByteArray.extract b 0 i)).1).2.1, (runV (newD (plB a)) (jsB (ByteArray.extract b 0 i)).1).2.2.1, (runV (newD (plB a)) (jsB (ByteArray.extract b 0 i)).1).2.2.2) = some true := hs
      rw [e, Option.bind_some, Bool.not_true, cond_false]
      exact ih
    · simp only at hr
      rw [hr, Option.bind_some]
      simp only [Bool.not_true, cond_false]
      rw [cnd_f c40]
      exact ih
theorem storeNever_law {x : List Int} (hb : Bytes x) : w_FnStoreNever_f x = some true := by
  rw [w_FnStoreNever_f_eq]
  by_cases h0 : (1048576 : Int) < (x.length : Int)
  · rw [cnd_t h0]
  rw [cnd_f h0]
  obtain ⟨l, e1, e2, e3⟩ := open_ok hb
  obtain ⟨a, b, n, q, e4, ha, hb', _⟩ := l20Store_ok e2 e3 9 (by omega) (p := 0) (by omega) (by omega)
  have hd : s_DrawStoreOpen_f x = some (a, b, n) := by
    rw [s_DrawStoreOpen_f_eq, e1, Option.bind_some, e4, Option.bind_some]
  rw [hd, Option.bind_some]
  simp only
  rw [s_stOk a b n (by omega), Option.bind_some]
  cases hc : stOk a b n with
  | false => rw [alive_yes]; rfl
  | true =>
    obtain ⟨h1, h2, h3⟩ := stOk_spec hc
    have hpl := plB_ok (a := a) (b := b) (n := n) (by omega) hc
    obtain ⟨z, k, st, g1, g2⟩ := stOk_place (a := a) (b := b) (n := n) (by omega) hc
    have hz : plB a = (z, k, st) := by unfold plB; rw [g1]
    have hdn := idesknew' hpl
    rw [hz] at hdn
    simp only at hdn
    rw [Bool.not_true, cond_false, i_readB a (by omega), g1, Option.bind_some]
    simp only
    rw [hdn, Option.bind_some, (jsB_val (a := a) (b := b) (by omega) (by omega)).1, Option.bind_some, if_pos ⟨h1, h2⟩, (jsB_val (a := a) (b := ByteArray.extract b 0 n.toNat) (by omega) (by rw [ByteArray.size_extract]; omega)).1, Option.bind_some]
    simp only
    have := never_loop (a := a) (b := b) (n := n) (by omega) (by omega) hc n.toNat (Nat.le_refl _) (by omega)
    rw [hz, show ((n.toNat : Nat) : Int) = n by omega] at this
    exact this
theorem FnStoreNever_true (x : Ts w_FnStoreNever_sig.pc) (hw : WfTs w_FnStoreNever_sig.pc x) : w_FnStoreNever_f x = some true := storeNever_law fun y hy => hw.2 y hy
end FN
namespace FN
open Go
section
variable {a b : ByteArray} {n : Int} (ha : a.size ≤ 2000) (hb : b.size ≤ 2000) (h : stOk a b n = true)
include ha hb h
theorem end_j {b' : ByteArray} {n' : Int} (hb' : b'.size ≤ 2000) (h' : stOk a b' n' = true) (ho : opV a b' = opV a b) : w_FnStoreEnd_j1 true a b n a b' n' = some true := by
  have hD := opV_ok (a := a) (b := b) (n := n) (by omega) h
  rw [w_FnStoreEnd_j1_eq, iopen_t (by omega) (by omega) h', iopen_t (by omega) (by omega) h, ho, Option.bind_some, Option.bind_some]
  simp only [cond_true]
  rw [sameDesk_ok hD]
  rfl
theorem end_loop : ∀ i, i ≤ (jsB b).1.length → ∀ (b' : ByteArray) (n' : Int), b'.size ≤ (jt ((jsB b).1.take i)).length → stOk a b' n' = true → (jsB b').2 = b'.size → opV a b' = runV (newD (plB a)) ((jsB b).1.take i) → w_FnStoreEnd_l0 true (jsB b).1 (i : Int) a b n a b' n' = some true := by
  obtain ⟨h1, h2, h3⟩ := stOk_spec h
  have hle := (jsB_le b).2
  obtain ⟨tx1, tx2⟩ := jsB_text (b := b) (by omega)
  have hle' := (jsB_le b).1
  have hjt : ∀ i, (jt ((jsB b).1.take i)).length ≤ 1000 := fun i => by
    have : (jt (jsB b).1).length = (jt ((jsB b).1.take i)).length + (jt ((jsB b).1.drop i)).length := by rw [← List.length_append, ← jt_app, List.take_append_drop]
    omega
  refine advN ?_ fun i hi ih => ?_
  · intro b' n' hs h' _ ho
    rw [w_FnStoreEnd_l0_eq, cnd_f (by omega)]
    refine end_j ha hb h (by have := hjt (jsB b).1.length; omega) h' ?_
    rw [ho, List.take_length]
    rfl
  · intro b' n' hs h' hall ho
    have hb2 : b'.size ≤ 1000 := by have := hjt i; omega
    have hgd : (jsB b).1[i]? = some ((jsB b).1.getD i (0, 0, 0)) := by rw [List.getD_eq_getElem?_getD, List.getElem?_eq_getElem hi]; rfl
    have htk : (jsB b).1.take (i + 1) = (jsB b).1.take i ++ [(jsB b).1.getD i (0, 0, 0)] := by rw [List.take_add_one, hgd]; rfl
    have hok : okD ((jsB b).1.getD i (0, 0, 0)) := tx1 _ (List.mem_of_getElem? hgd)
    rw [w_FnStoreEnd_l0_eq, cnd_t (by omega), if_pos (inN hi), gD3, w1 hi (by omega)]
    generalize (jsB b).1.getD i (0, 0, 0) = d at htk hok ⊢
    have hj : (jt ((jsB b).1.take (i + 1))).length = (jt ((jsB b).1.take i)).length + ((dtx d.1 d.2.1 d.2.2).size + 1) := by
      rw [htk, jt_app, List.length_append]
      simp only [jt, List.length_append, List.length_cons, List.length_nil, ← szD]
    have hr : runV (newD (plB a)) ((jsB b).1.take (i + 1)) = (doV (opV a b') d).1 := by
      rw [htk, runV_app, ← ho]; rfl
    have h1000 := hjt (i + 1)
    by_cases hx : actB a b' d
    · rw [(iact_t (by omega) (by omega) h' hx).1, Option.bind_some]
      simp only [cond_true]
      refine ih _ _ (by rw [actT_size, hj]; omega) (act_ok (by omega) (by omega) h' hx) (by rw [actT_js hall hok]) ?_
      rw [actT_op hall hok, hr]
    · rw [(iact_f (by omega) (by omega) h' hx).1, Option.bind_some]
      simp only [cond_false]
      refine ih _ _ (by rw [hj]; omega) h' hall ?_
      have hno : (doV (opV a b') d).2 = false := by
        apply Bool.eq_false_iff.2
        intro ht
        exact hx ⟨hall, ht, hok, by omega⟩
      rw [hr, doV_no hno]
end
theorem storeEnd_law {x : List Int} (hb : Bytes x) : w_FnStoreEnd_f x = some true := by
  rw [w_FnStoreEnd_f_eq]
  by_cases h0 : (1048576 : Int) < (x.length : Int)
  · rw [cnd_t h0]
  rw [cnd_f h0]
  obtain ⟨l, e1, e2, e3⟩ := open_ok hb
  obtain ⟨a, b, n, q, e4, ha, hb', n1, n2, q1, q2⟩ := l20Store_ok e2 e3 9 (by omega) (p := 0) (by omega) (by omega)
  have hd : ∃ k : Int, s_DrawStoreCrash_f x = some (a, b, n, k) := by
    have W1 : IntKind.i64.wrap ((b.size : Int) - n) = (b.size : Int) - n := i64w (by omega) (by omega)
    have hm : 1 ≤ (if (0 : Int) > (b.size : Int) - n then (0 : Int) else (b.size : Int) - n) + 1 ∧ (if (0 : Int) > (b.size : Int) - n then (0 : Int) else (b.size : Int) - n) + 1 ≤ 100000 := by
      by_cases hh : (0 : Int) > (b.size : Int) - n
      · rw [if_pos hh]; omega
      · rw [if_neg hh]; omega
    have W2 : IntKind.i64.wrap ((if (0 : Int) > (b.size : Int) - n then (0 : Int) else (b.size : Int) - n) + 1) = (if (0 : Int) > (b.size : Int) - n then (0 : Int) else (b.size : Int) - n) + 1 := i64w (by omega) (by omega)
    obtain ⟨u, e5, _⟩ := pick_ok e2 e3 q1 (by omega) hm.1 (by omega)
    obtain ⟨v, e6, _⟩ := pick_ok e2 e3 (show 0 ≤ q + 1 by omega) (by omega) (show (1 : Int) ≤ 30 by omega) (by omega)
    obtain ⟨w, e7, _⟩ := pick_ok e2 e3 (show 0 ≤ q + 1 + 1 by omega) (by omega) (show (1 : Int) ≤ 30 by omega) (by omega)
    rw [s_DrawStoreCrash_f_eq, e1, Option.bind_some, e4, Option.bind_some]
    simp only
    rw [W1, W2, e5, Option.bind_some]
    simp only
    rw [e6, Option.bind_some]
    simp only
    rw [e7, Option.bind_some]
    exact ⟨_, rfl⟩
  obtain ⟨k, hd⟩ := hd
  rw [hd, Option.bind_some]
  simp only
  rw [(crash_val a b n k (by omega)).1, Option.bind_some]
  by_cases hc : stOk a b n = true ∧ n ≤ k ∧ k ≤ (b.size : Int)
  · obtain ⟨hs, k1, k2⟩ := hc
    obtain ⟨h1, h2, h3⟩ := stOk_spec hs
    have hv : crV a b n k = (a, ByteArray.extract b 0 k.toNat, n, true) := by unfold crV; rw [if_pos ⟨hs, k1, k2⟩]
    have hz : (ByteArray.extract b 0 k.toNat).size = k.toNat := by rw [ByteArray.size_extract]; omega
    have hs2 : stOk a (ByteArray.extract b 0 k.toNat) n = true := stOk_of hs (by omega) h1 (by omega)
    have hok := mend_ok (a := a) (b := ByteArray.extract b 0 k.toNat) (n := n) (by omega) (by omega) hs2
    have hmz : (mendT (ByteArray.extract b 0 k.toNat)).size ≤ 1000 := by rw [mendT_size]; have := (jsB_le (ByteArray.extract b 0 k.toNat)).1; omega
    have hp := cut_js' b k.toNat
    have hl := hp.length_le
    rw [hv]
    simp only [Bool.not_true, cond_false]
    rw [(imend_t (by omega) (by omega) hs2).1, Option.bind_some, (jsB_val (a := a) (b := b) (by omega) (by omega)).1, Option.bind_some]
    simp only
    rw [(jsB_val (a := a) (b := mendT (ByteArray.extract b 0 k.toNat)) (by omega) (by omega)).1, Option.bind_some]
    simp only
    rw [mendT_js]
    have htk : (jsB (ByteArray.extract b 0 k.toNat)).1 = (jsB b).1.take (jsB (ByteArray.extract b 0 k.toNat)).1.length := List.prefix_iff_eq_take.1 hp
    refine end_loop (by omega) (by omega) hs _ hl _ _ ?_ hok (mendT_all _) ?_
    · rw [← htk, (jsB_text (b := ByteArray.extract b 0 k.toNat) (by omega)).2, mendT_size]
      exact Nat.le_refl _
    · rw [mendT_op, ← htk]; rfl
  · have hv : crV a b n k = (ByteArray.empty, ByteArray.empty, 0, false) := by unfold crV; rw [if_neg hc]
    rw [hv, alive_yes]
    simp
theorem FnStoreEnd_true (x : Ts w_FnStoreEnd_sig.pc) (hw : WfTs w_FnStoreEnd_sig.pc x) : w_FnStoreEnd_f x = some true := storeEnd_law fun y hy => hw.2 y hy
end FN
/-! Desks that are drawn. -/
namespace FN
open Go
theorem doO_same {a : List Int} {k : Int} {b : List Int} {l : List Pl} (h : DkP a k b l) (h7 : l.length ≤ 7) (K A B : Int) : s_DeskDoO_f (a, k, b, l, K, A, B) = s_DeskDo_f (a, k, b, l, K, A, B) := by
  have hm := PlP.sm h.2.1
  have hl := h.2.2
  have hsm : ∀ p ∈ l, smP 4611686018427387904 p := fun p hp => by have := PlP.sm (h.1 p hp); exact ⟨by omega, by omega⟩
  obtain ⟨z, κ, st, hz, hst⟩ := made_tot h.2.1 K A B
  obtain ⟨t1, t1', _⟩ := placeText_same z κ st (by omega)
  obtain ⟨t2, t2', _⟩ := placeText_same a k b (by omega)
  have c8 : ¬ (8 : Int) < ((l ++ [(a, k, b)] : List Pl).length : Int) := by
    rw [List.length_append, List.length_singleton]; omega
  rw [s_DeskDoO_f_eq, s_DeskDo_f_eq]
  simp only [sdesk a k b l (by omega) (by omega) hsm, decide_eq_true h, Option.bind_some, Bool.not_true, cond_false, l15Copy_val h, hz, spl z κ st (by omega), t1', t2', decide_eq_false c8, s_DeskDo_j1_eq, s_DeskDoO_j1_eq, List.drop_zero]
/-- What a drawn desk is on its way. -/
def OnWay (m : Nat) (d : Dk) : Prop := (DkOk d ∧ d.2.2.2.length ≤ m) ∨ d = ([], 0, [], [])
theorem noDk : ¬ DkP [] 0 [] [] := fun h => no_zero h.2.1
theorem OnWay.sm {m : Nat} {d : Dk} (h : OnWay m d) : d.1.length ≤ 6 ∧ d.2.2.1.length ≤ 6 ∧ d.2.2.2.length ≤ 8 ∧ ∀ p ∈ d.2.2.2, p.1.length ≤ 6 ∧ p.2.2.length ≤ 6 := by
  rcases h with ⟨h, _⟩ | rfl
  · have := PlP.sm h.2.1
    exact ⟨this.1, this.2, h.2.2, fun p hp => PlP.sm (h.1 p hp)⟩
  · simp
theorem doV_len {d : Dk} (x : Dd3) : (doV d x).1.2.2.2.length ≤ d.2.2.2.length + 1 := by
  unfold doV
  split
  · show (d.2.2.2.take _).length ≤ _
    rw [List.length_take]; omega
  · split
    · show (pastV d).length ≤ _
      unfold pastV
      split
      · rw [List.length_drop, List.length_append, List.length_singleton]; omega
      · rw [List.length_append, List.length_singleton]
        omega
    · show d.2.2.2.length ≤ _
      omega
theorem doO_way {m : Nat} (hm : m ≤ 7) {d : Dk} (h : OnWay m d) (x : Dd3) : ∃ d' t, s_DeskDoO_f (d.1, d.2.1, d.2.2.1, d.2.2.2, x.1, x.2.1, x.2.2) = some (d'.1, d'.2.1, d'.2.2.1, d'.2.2.2, t) ∧ OnWay (m + 1) d' := by
  rcases h with ⟨h, hl⟩ | rfl
  · refine ⟨(doV d x).1, (doV d x).2, ?_, .inl ⟨doV_ok h x, by have := doV_len (d := d) x; omega⟩⟩
    rw [doO_same h (by omega)]
    exact do_val h x
  · refine ⟨([], 0, [], []), false, ?_, .inr rfl⟩
    rw [s_DeskDoO_f_eq, sdesk [] 0 [] [] (by simp) (by simp) (by simp), decide_eq_false noDk, Option.bind_some]
    rfl
theorem OnWay.up {m n : Nat} (hmn : m ≤ n) {d : Dk} (h : OnWay m d) : OnWay n d := by
  rcases h with ⟨h, hl⟩ | h
  · exact .inl ⟨h, by omega⟩
  · exact .inr h
section
variable {l : List Int} (hl : Bytes l) (hn : l.length ≤ 2000)
include hl hn
/-- A drawn desk: its sizes. -/
def DOut (o : Option (List Int × Int × List Int × List Pl × Int)) : Prop := ∃ (d : Dk) (q : Int), o = some (d.1, d.2.1, d.2.2.1, d.2.2.2, q) ∧ d.1.length ≤ 6 ∧ d.2.2.1.length ≤ 6 ∧ d.2.2.2.length ≤ 9 ∧ (∀ p ∈ d.2.2.2, p.1.length ≤ 6 ∧ p.2.2.length ≤ 6) ∧ 0 ≤ q ∧ q ≤ 800000000
theorem desk_j1 (y0 y4 : Int) (hy0 : y0 ≤ 1000) {p : Int} (hp : 0 ≤ p) (hp' : p ≤ 700000000) {m : Nat} {d : Dk} (h : OnWay m d) : DOut (s_l20Desk_j1 l y0 l p y4 d.1 d.2.1 d.2.2.1 d.2.2.2) := by
  obtain ⟨s1, s2, s3, s4⟩ := h.sm
  obtain ⟨bb, q, e1, q1, q2⟩ := odd_ok hl hn hp (by omega) (n := y0) (by omega)
  rw [s_l20Desk_j1_eq, e1, Option.bind_some]
  cases bb with
  | false => simp only [cond_false]; exact ⟨d, q, by simp, s1, s2, by omega, s4, by omega, by omega⟩
  | true =>
    simp only [cond_true]
    obtain ⟨u, e2, u0, u1⟩ := pick_ok hl hn (show 0 ≤ q by omega) (by omega) (show (1 : Int) ≤ 3 by omega) (by omega)
    rw [e2, Option.bind_some]
    simp only
    by_cases c0 : u = 0
    · rw [beq_t c0]
      exact ⟨(d.1, 2, d.2.2.1, d.2.2.2), q + 1, by simp, s1, s2, by show d.2.2.2.length ≤ 9; omega, s4, by omega, by omega⟩
    · rw [beq_f c0]
      by_cases c1 : u = 1
      · rw [beq_t c1, if_pos (by rw [List.length_singleton]; omega)]
        refine ⟨(d.1, d.2.1, d.2.2.1, d.2.2.2 ++ [([], 0, [])]), q + 1, by simp, s1, s2, ?_, ?_, by omega, by omega⟩
        · show (d.2.2.2 ++ [([], 0, [])]).length ≤ 9
          rw [List.length_append, List.length_singleton]; omega
        · intro p hp
          rcases List.mem_append.1 hp with hp | hp
          · exact s4 p hp
          · have : p = ([], 0, []) := by simpa using hp
            rw [this]; simp
      · rw [beq_f c1]
        exact ⟨([], 0, [], []), q + 1, by simp, by simp, by simp, by simp, by simp, by omega, by omega⟩
theorem desk_loop (y0 y4 : Int) (hy0 : y0 ≤ 1000) : ∀ m : Nat, m ≤ 4 → ∀ (p : Int) (d : Dk), 0 ≤ p → p + 100 * (m : Int) ≤ 600000000 → OnWay (4 - m) d → DOut (s_l20Desk_l0 l y0 (m : Int) l p y4 d.1 d.2.1 d.2.2.1 d.2.2.2) := by
  intro m
  induction m with
  | zero =>
    intro _ p d hp hp' h
    rw [s_l20Desk_l0_eq, cnd_f (by omega)]
    exact desk_j1 hl hn y0 y4 hy0 hp (by omega) h
  | succ m ih =>
    intro hm p d hp hp' h
    obtain ⟨s1, s2, s3, s4⟩ := h.sm
    obtain ⟨K, A, B, q, e2, q1, q2⟩ := l20Deed_ok hl hn (a := d.1) (b := d.2.2.1) (k := d.2.1) (by omega) hp (by omega)
    obtain ⟨d', t, e3, h3⟩ := doO_way (by omega) h (K, A, B)
    simp only at e3
    have hm1 : IntKind.i64.wrap (((m + 1 : Nat) : Int) - 1) = (m : Int) := by rw [wsub (by omega) (by omega)]; omega
    rw [s_l20Desk_l0_eq, cnd_t (by omega), e2, Option.bind_some]
    simp only
    rw [e3, Option.bind_some, hm1]
    cases t with
    | true => exact ih (by omega) q d' (by omega) (by omega) (h3.up (by omega))
    | false => exact ih (by omega) q d (by omega) (by omega) (h.up (by omega))
theorem l20Desk_ok (y0 : Int) (hy0 : y0 ≤ 1000) {p : Int} (hp : 0 ≤ p) (hp' : p ≤ 400000000) : DOut (s_l20Desk_f (l, p, y0)) := by
  obtain ⟨a, k, b, q, e1, h1, h2, q1, q2⟩ := l20Place_ok hl hn (n := 0) (by omega) hp (by omega)
  obtain ⟨u, e3, u0, u1⟩ := pick_ok hl hn (show 0 ≤ q by omega) (by omega) (show (1 : Int) ≤ 5 by omega) (by omega)
  have hnew : ∃ d : Dk, ∃ t, s_DeskNew_f (a, k, b) = some (d.1, d.2.1, d.2.2.1, d.2.2.2, t) ∧ OnWay 0 d := by
    rw [s_DeskNew_f_eq, spl a k b (by omega), Option.bind_some]
    by_cases h : PlP a k b
    · rw [decide_eq_true h, Bool.not_true, cond_false, l15Place_val a k b (by omega) (by omega), Option.bind_some]
      exact ⟨(a, k, b, []), true, rfl, .inl ⟨⟨by simp, h, by simp⟩, by simp⟩⟩
    · rw [decide_eq_false h]
      exact ⟨([], 0, [], []), false, rfl, .inr rfl⟩
  obtain ⟨d, t, e2, hd⟩ := hnew
  obtain ⟨m, rfl⟩ : ∃ m : Nat, u = m := ⟨u.toNat, by omega⟩
  rw [s_l20Desk_f_eq, e1, Option.bind_some]
  simp only
  rw [e2, Option.bind_some]
  simp only
  rw [e3, Option.bind_some]
  exact desk_loop hl hn y0 0 hy0 m (by omega) (q + 1) d (by omega) (by omega) (hd.up (by omega))
theorem deeds_loop {a b : List Int} {k : Int} (ha : a.length ≤ 100) : ∀ m : Nat, m ≤ 10 → ∀ (p : Int) (out : List Dd3), 0 ≤ p → p + 100 * (m : Int) ≤ 840000000 → out.length + m ≤ 20 → ∃ (ds : List Dd3) (q : Int), s_l20Deeds_l0 l (m : Int) l p a k b out = some (ds, q) ∧ ds.length ≤ 20 := by
  intro m
  induction m with
  | zero =>
    intro _ p out hp hp' ho
    rw [s_l20Deeds_l0_eq, cnd_f (by omega), if_pos ⟨rfl, rfl⟩]
    exact ⟨_, _, rfl, by omega⟩
  | succ m ih =>
    intro hm p out hp hp' ho
    obtain ⟨K, A, B, q, e2, q1, q2⟩ := l20Deed_ok hl hn (a := a) (b := b) (k := k) ha hp (by omega)
    have hm1 : IntKind.i64.wrap (((m + 1 : Nat) : Int) - 1) = (m : Int) := by rw [wsub (by omega) (by omega)]; omega
    rw [s_l20Deeds_l0_eq, cnd_t (by omega), e2, Option.bind_some, if_pos (by rw [List.length_singleton]; omega), hm1]
    exact ih (by omega) q _ (by omega) (by omega) (by rw [List.length_append, List.length_singleton]; omega)
theorem l20Deeds_ok {a b : List Int} {k : Int} (ha : a.length ≤ 100) {p : Int} (hp : 0 ≤ p) (hp' : p ≤ 830000000) : ∃ (ds : List Dd3) (q : Int), s_l20Deeds_f (l, p, a, k, b) = some (ds, q) ∧ ds.length ≤ 20 := by
  obtain ⟨u, e3, u0, u1⟩ := pick_ok hl hn hp (by omega) (show (1 : Int) ≤ 6 by omega) (by omega)
  obtain ⟨m, rfl⟩ : ∃ m : Nat, u = m := ⟨u.toNat, by omega⟩
  rw [s_l20Deeds_f_eq, e3, Option.bind_some]
  exact deeds_loop hl hn ha m (by omega) (p + 1) [] (by omega) (by omega) (by simp; omega)
end
/-- A drawn desk with deeds. -/
theorem drawRun_ok {x : List Int} (hb : Bytes x) : ∃ (d : Dk) (ds : List Dd3), s_DrawDeskRun_f x = some (d.1, d.2.1, d.2.2.1, d.2.2.2, ds) ∧ d.1.length ≤ 6 ∧ d.2.2.1.length ≤ 6 ∧ d.2.2.2.length ≤ 9 ∧ (∀ p ∈ d.2.2.2, p.1.length ≤ 6 ∧ p.2.2.length ≤ 6) ∧ ds.length ≤ 41 := by
  obtain ⟨l, e1, e2, e3⟩ := open_ok hb
  obtain ⟨d, q, e4, s1, s2, s3, s4, q1, q2⟩ := l20Desk_ok e2 e3 12 (by omega) (p := 0) (by omega) (by omega)
  obtain ⟨bb, q', e5, q3, q4⟩ := odd_ok e2 e3 q1 (by omega) (n := 30) (by omega)
  rw [s_DrawDeskRun_f_eq, e1, Option.bind_some, e4, Option.bind_some]
  simp only
  rw [e5, Option.bind_some]
  cases bb with
  | true =>
    simp only [cond_true]
    rw [if_pos ⟨by omega, by omega, by omega⟩]
    exact ⟨d, List.replicate 41 (0, 0, 0), rfl, s1, s2, s3, s4, by simp⟩
  | false =>
    simp only [cond_false]
    obtain ⟨ds, q'', e6, h6⟩ := l20Deeds_ok e2 e3 (a := d.1) (b := d.2.2.1) (k := d.2.1) (by omega) (p := q') (by omega) (by omega)
    rw [e6, Option.bind_some]
    exact ⟨d, ds, rfl, s1, s2, s3, s4, by omega⟩
end FN
namespace FN
open Go
section
variable {a b : ByteArray} {n : Int} (ha : a.size ≤ 2000) (h : stOk a b n = true)
include ha h
theorem way_j {a' b' : ByteArray} {n' : Int} (ha' : a'.size ≤ 2000) (h' : stOk a' b' n' = true) (hn : nowP (opV a' b') = nowP (opV a b)) : w_FnStoreSameWay_j1 true true a b n (opV a b).1 (opV a b).2.1 (opV a b).2.2.1 (opV a b).2.2.2 a' b' n' = some true := by
  obtain ⟨_, _, s1⟩ := stOk_spec h
  obtain ⟨_, _, s2⟩ := stOk_spec h'
  have hD := opV_ok (a := a) (b := b) (n := n) (by omega) h
  rw [w_FnStoreSameWay_j1_eq, iopen_t (by omega) (by omega) h, iopen_t (by omega) (by omega) h', Option.bind_some, Option.bind_some]
  simp only [cond_true]
  rw [sameDesk_ok hD, Option.bind_some, cond_true]
  have e1 : (opV a' b').1 = (opV a b).1 := congrArg (fun p : Pl => p.1) hn
  have e2 : (opV a' b').2.1 = (opV a b).2.1 := congrArg (fun p : Pl => p.2.1) hn
  have e3 : (opV a' b').2.2.1 = (opV a b).2.2.1 := congrArg (fun p : Pl => p.2.2) hn
  rw [e1, e2, e3, samePl hD.2.1]
  rfl
end
theorem way_loop (ds : List Dd3) (hds : ds.length ≤ 41) : ∀ i, i ≤ ds.length → ∀ (a b : ByteArray) (n : Int) (a' b' : ByteArray) (n' : Int), a.size ≤ 2000 → a'.size ≤ 2000 → stOk a b n = true → stOk a' b' n' = true → (jsB b).2 = b.size → (jsB b').2 = b'.size → b'.size ≤ b.size → nowP (opV a' b') = nowP (opV a b) →
    w_FnStoreSameWay_l0 ds true true (i : Int) a b n (opV a b).1 (opV a b).2.1 (opV a b).2.2.1 (opV a b).2.2.2 a' b' n' = some true := by
  refine advN ?_ fun i hi ih => ?_
  · intro a b n a' b' n' ha ha' h h' _ _ _ hn
    rw [w_FnStoreSameWay_l0_eq, cnd_f (by omega)]
    exact way_j ha h ha' h' hn
  · intro a b n a' b' n' ha ha' h h' hr hr' hle hn
    rw [w_FnStoreSameWay_l0_eq, cnd_t (by omega)]
    by_cases c8 : (i : Int) < 8
    case neg => rw [cnd_f c8]; exact way_j ha h ha' h' hn
    obtain ⟨g1, g2, s1⟩ := stOk_spec h
    obtain ⟨g3, g4, s2⟩ := stOk_spec h'
    have hD := opV_ok (a := a) (b := b) (n := n) (by omega) h
    have hD' := opV_ok (a := a') (b := b') (n := n') (by omega) h'
    rw [cnd_t c8]
    simp only [if_pos (inN hi)]
    rw [gD3, w1 hi (by omega)]
    generalize ds.getD i (0, 0, 0) = x
    by_cases hx : actB a b x
    case neg =>
      rw [(iact_f (by omega) (by omega) h hx).1, Option.bind_some]
      simp only [Bool.not_false, cond_true]
      exact ih a b n a' b' n' ha ha' h h' hr hr' hle hn
    have hok := act_ok (a := a) (b := b) (n := n) (by omega) (by omega) h hx
    have hop := actT_op (a := a) hr hx.2.2.1
    have hsz := actT_size b x
    have h1000 := hx.2.2.2
    have hjs : (jsB (actT b x)).2 = (actT b x).size := by rw [actT_js hr hx.2.2.1]
    rw [(iact_t (by omega) (by omega) h hx).1, Option.bind_some]
    simp only [Bool.not_true, cond_false]
    rw [ido_val hD, Option.bind_some]
    simp only
    by_cases k4 : x.1 = 4
    · have hsok := save_ok (a := a) (b := actT b x) (n := n) (by omega) (by omega) hok
      have hsop := save_op (a := a) (b := actT b x) (n := n) (by omega) (by omega) hok
      have hssz := save_sz (a := a) (b := actT b x) (n := n) (by omega) (by omega) hok
      rw [beq_t k4, (isave_t (by omega) (by omega) hok).1, Option.bind_some]
      simp only
      have := ih a (actT b x) n _ ByteArray.empty 0 ha (by omega) hok hsok hjs rfl (by rw [hsz]; exact Nat.zero_le _) (by rw [hsop])
      rw [hop] at this
      rw [hop]
      exact this
    · obtain ⟨v1, v2⟩ := doV_now hn (x := x) k4
      have hx' : actB a' b' x := ⟨hr', by rw [v1]; exact hx.2.1, hx.2.2.1, by omega⟩
      have hok' := act_ok (a := a') (b := b') (n := n') (by omega) (by omega) h' hx'
      have hop' := actT_op (a := a') hr' hx.2.2.1
      have hsz' := actT_size b' x
      have hjs' : (jsB (actT b' x)).2 = (actT b' x).size := by rw [actT_js hr' hx.2.2.1]
      have hn' : nowP (opV a' (actT b' x)) = nowP (opV a (actT b x)) := by rw [hop, hop']; exact v2
      rw [beq_f k4, (iact_t (by omega) (by omega) h' hx').1, Option.bind_some]
      simp only [Bool.not_true, cond_false]
      by_cases c2 : Int.tmod (i : Int) 2 = 0
      · have hsy : stOk a' (actT b' x) ((actT b' x).size : Int) = true := stOk_of hok' (by omega) (by omega) (by omega)
        have hsv : syV a' (actT b' x) n' = (a', actT b' x, ((actT b' x).size : Int), true) := by unfold syV; rw [if_pos hok']
        rw [beq_t c2, (sync_val _ _ _ (by omega)).1, hsv, Option.bind_some]
        simp only
        have := ih a (actT b x) n a' (actT b' x) ((actT b' x).size : Int) ha ha' hok hsy hjs hjs' (by omega) hn'
        rw [hop] at this
        exact this
      · have hsok := save_ok (a := a') (b := actT b' x) (n := n') (by omega) (by omega) hok'
        have hsop := save_op (a := a') (b := actT b' x) (n := n') (by omega) (by omega) hok'
        have hssz := save_sz (a := a') (b := actT b' x) (n := n') (by omega) (by omega) hok'
        rw [beq_f c2, (isave_t (by omega) (by omega) hok').1, Option.bind_some]
        simp only
        have := ih a (actT b x) n _ ByteArray.empty 0 ha (by omega) hok hsok hjs rfl (by rw [hsz]; exact Nat.zero_le _) (by rw [hsop]; exact hn')
        rw [hop] at this
        exact this
theorem sameWay_law {x y : List Int} (hb : Bytes x) (hb2 : Bytes y) : w_FnStoreSameWay_f (x, y) = some true := by
  rw [w_FnStoreSameWay_f_eq]
  by_cases h0 : (1048576 : Int) < (x.length : Int)
  · rw [cnd_t h0]
  rw [cnd_f h0]
  by_cases h1 : (1048576 : Int) < (y.length : Int)
  · rw [cnd_t h1]
  rw [cnd_f h1]
  obtain ⟨l, e1, e2, e3⟩ := open_ok hb
  obtain ⟨a, b, n, q, e4, ha, hb', _⟩ := l20Store_ok e2 e3 6 (by omega) (p := 0) (by omega) (by omega)
  have hd : s_DrawStoreMend_f x = some (a, b, n) := by
    rw [s_DrawStoreMend_f_eq, e1, Option.bind_some, e4, Option.bind_some]
  rw [hd, Option.bind_some]
  simp only
  cases hc : stOk a b n with
  | false =>
    rw [(imend_n (by omega) (by omega) hc).2, alive_yes]
    rfl
  | true =>
    have hok := mend_ok (a := a) (b := b) (n := n) (by omega) (by omega) hc
    have hsz : (mendT b).size ≤ b.size := by rw [mendT_size]; exact (jsB_le b).1
    obtain ⟨d, ds, e5, _, _, _, _, hds⟩ := drawRun_ok hb2
    rw [(imend_t (by omega) (by omega) hc).2, Option.bind_some]
    simp only [Bool.not_true, cond_false]
    rw [e5, Option.bind_some, iopen_t (by omega) (by omega) hok, Option.bind_some, (isave_t (by omega) (by omega) hok).1, Option.bind_some]
    simp only
    have hssz := save_sz (a := a) (b := mendT b) (by omega) (by omega) hok
    exact way_loop ds hds 0 (Nat.zero_le _) a (mendT b) _ _ ByteArray.empty 0 ha (by omega) hok (save_ok (by omega) (by omega) hok) (mendT_all b) rfl (Nat.zero_le _) (by rw [save_op (by omega) (by omega) hok])
theorem FnStoreSameWay_true (x : Ts w_FnStoreSameWay_sig.pc) (hw : WfTs w_FnStoreSameWay_sig.pc x) : w_FnStoreSameWay_f x = some true := by
  obtain ⟨x, y⟩ := x
  exact sameWay_law (fun z hz => hw.1.2 z hz) (fun z hz => hw.2.2 z hz)
end FN
