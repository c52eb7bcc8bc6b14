/- Texts of the proof, joined: Plain laws of numbers and lists. -/
import Derived.Test.YthdapnmdllbejaaDoorP0
set_option linter.unusedVariables false
set_option linter.unusedSimpArgs false
set_option linter.unusedSectionVars false
/-! The stores' crash and sync, as values. -/
namespace FN
open Go
noncomputable def crV (a b : ByteArray) (n k : Int) : ByteArray × ByteArray × Int × Bool :=
  if stOk a b n = true ∧ n ≤ k ∧ k ≤ (b.size : Int) then (a, ByteArray.extract b 0 k.toNat, n, true) else (ByteArray.empty, ByteArray.empty, 0, false)
noncomputable def syV (a b : ByteArray) (n : Int) : ByteArray × ByteArray × Int × Bool :=
  if stOk a b n = true then (a, b, (b.size : Int), true) else (ByteArray.empty, ByteArray.empty, 0, false)
theorem crash_val (a b : ByteArray) (n k : Int) (h : a.size ≤ 1048577) : i_StoreCrash_f (a, b, n, k) = some (crV a b n k) ∧ s_StoreCrash_f (a, b, n, k) = some (crV a b n k) := by
  rw [i_StoreCrash_f_eq, s_StoreCrash_f_eq, i_stOk a b n h, s_stOk a b n h, Option.bind_some, Option.bind_some, l1In_val, Option.bind_some]
  unfold crV
  cases hc : stOk a b n with
  | false => rw [if_neg (show ¬ (false = true ∧ n ≤ k ∧ k ≤ (b.size : Int)) from fun h => by cases h.1)]; exact ⟨rfl, rfl⟩
  | true =>
    obtain ⟨h1, h2, _⟩ := stOk_spec hc
    rw [Bool.not_true, cond_false, cond_false]
    by_cases c1 : k < n
    · rw [cnd_t c1, decide_eq_false (by omega), if_neg (show ¬ (true = true ∧ n ≤ k ∧ k ≤ (b.size : Int)) by omega)]; exact ⟨rfl, rfl⟩
    · rw [cnd_f c1]
      by_cases c2 : (b.size : Int) < k
      · rw [cnd_t c2, decide_eq_false (by omega), if_neg (show ¬ (true = true ∧ n ≤ k ∧ k ≤ (b.size : Int)) by omega)]; exact ⟨rfl, rfl⟩
      · rw [cnd_f c2, decide_eq_true (show n ≤ k ∧ k ≤ (b.size : Int) by omega), if_pos (show (0 : Int) ≤ k ∧ k ≤ (b.size : Int) by omega), if_pos (show true = true ∧ n ≤ k ∧ k ≤ (b.size : Int) from ⟨rfl, by omega, by omega⟩)]
        exact ⟨rfl, rfl⟩
theorem sync_val (a b : ByteArray) (n : Int) (h : a.size ≤ 1048577) : i_StoreSync_f (a, b, n) = some (syV a b n) ∧ s_StoreSync_f (a, b, n) = some (syV a b n) := by
  rw [i_StoreSync_f_eq, s_StoreSync_f_eq, i_stOk a b n h, s_stOk a b n h, Option.bind_some]
  unfold syV
  cases stOk a b n <;> exact ⟨rfl, rfl⟩
theorem stOk_E : stOk ByteArray.empty ByteArray.empty 0 = false := by
  have : readP ByteArray.empty.data.toList = bad := readP_none (fun a w1 k w3 e => by
    have := congrArg List.length e
    simp [cutL] at this)
  unfold stOk
  rw [this]; rfl
theorem stOk_of {a b : ByteArray} {n : Int} (h : stOk a b n = true) {b' : ByteArray} {n' : Int} (h1 : (b'.size : Int) ≤ 1000) (h2 : 0 ≤ n') (h3 : n' ≤ (b'.size : Int)) : stOk a b' n' = true := by
  unfold stOk at h ⊢
  simp only [Bool.and_eq_true, decide_eq_true_eq] at h ⊢
  exact ⟨h.1, h1, h2, h3⟩
theorem ext_whole (b : ByteArray) {k : Nat} (h : b.size ≤ k) : ByteArray.extract b 0 k = b := by
  apply ByteArray.ext
  rw [ByteArray.data_extract]
  exact Array.extract_eq_self_of_le h
theorem ext_ext (b : ByteArray) {k m : Nat} (h : m ≤ k) : ByteArray.extract (ByteArray.extract b 0 k) 0 m = ByteArray.extract b 0 m := by
  rw [ByteArray.extract_extract]
  congr 1
  omega
theorem eqS (a b : ByteArray) (n : Int) : ((ByteArray.toList a == ByteArray.toList a) && ((ByteArray.toList b == ByteArray.toList b) && ((n == n) && true))) = true := by simp
end FN
/-! A desk after deeds, as a value. -/
namespace FN
open Go
abbrev Dk := List Int × Int × List Int × List Pl
abbrev DkOk (d : Dk) : Prop := DkP d.1 d.2.1 d.2.2.1 d.2.2.2
abbrev nowP (d : Dk) : Pl := (d.1, d.2.1, d.2.2.1)
/-- What a deed makes of a place. -/
noncomputable def madeV (p : Pl) (x : Dd3) : Pl := (s_l15Made_f (p.1, p.2.1, p.2.2, x.1, x.2.1, x.2.2)).getD ([], 0, [])
theorem madeV_val {p : Pl} (h : PlPp p) (x : Dd3) : s_l15Made_f (p.1, p.2.1, p.2.2, x.1, x.2.1, x.2.2) = some ((madeV p x).1, (madeV p x).2.1, (madeV p x).2.2) ∧ (madeV p x).2.2.length ≤ 100 := by
  obtain ⟨z, κ, st, hz, hst⟩ := made_tot h x.1 x.2.1 x.2.2
  have : madeV p x = (z, κ, st) := by unfold madeV; rw [hz]; rfl
  rw [this]
  exact ⟨hz, hst⟩
/-- It can be done, and is not the way back. -/
noncomputable def canV (p : Pl) (x : Dd3) : Bool := decide (PlP (madeV p x).1 (madeV p x).2.1 (madeV p x).2.2) && !decide (ptx (madeV p x).1 (madeV p x).2.1 (madeV p x).2.2 = ptx p.1 p.2.1 p.2.2)
def bkB (x : Dd3) (n : Nat) : Bool := decide (x.1 = 4 ∧ x.2.1 = 0 ∧ x.2.2 = 0 ∧ 0 < n)
def pastV (d : Dk) : List Pl := if 8 < (d.2.2.2 ++ [nowP d]).length then (d.2.2.2 ++ [nowP d]).drop 1 else d.2.2.2 ++ [nowP d]
def backV (d : Dk) : Dk := ((d.2.2.2.getD (d.2.2.2.length - 1) ([], 0, [])).1, (d.2.2.2.getD (d.2.2.2.length - 1) ([], 0, [])).2.1, (d.2.2.2.getD (d.2.2.2.length - 1) ([], 0, [])).2.2, d.2.2.2.take (d.2.2.2.length - 1))
noncomputable def doV (d : Dk) (x : Dd3) : Dk × Bool :=
  if bkB x d.2.2.2.length = true then (backV d, true)
  else if canV (nowP d) x = true then (((madeV (nowP d) x).1, (madeV (nowP d) x).2.1, (madeV (nowP d) x).2.2, pastV d), true) else (d, false)
theorem backV_ok {d : Dk} (h : DkOk d) (h0 : 0 < d.2.2.2.length) : DkOk (backV d) := by
  have hp := h.1 _ (getD_mem (d := ([], 0, [])) (show d.2.2.2.length - 1 < d.2.2.2.length by omega))
  exact ⟨fun p hp' => h.1 p (List.mem_of_mem_take hp'), hp, by have := h.2.2; show (d.2.2.2.take _).length ≤ 8; rw [List.length_take]; omega⟩
theorem doV_ok {d : Dk} (h : DkOk d) (x : Dd3) : DkOk (doV d x).1 := by
  unfold doV
  split
  · rename_i hb
    exact backV_ok h (by unfold bkB at hb; simpa using (of_decide_eq_true hb).2.2.2)
  · split
    · rename_i hc
      unfold canV at hc
      rw [Bool.and_eq_true] at hc
      have hmem : ∀ p ∈ d.2.2.2 ++ [nowP d], PlPp p := fun p hp => by
        rcases List.mem_append.1 hp with hp | hp
        · exact h.1 p hp
        · have : p = nowP d := by simpa using hp
          rw [this]; exact h.2.1
      have hq : PlP (madeV (nowP d) x).1 (madeV (nowP d) x).2.1 (madeV (nowP d) x).2.2 := by
        have := hc.1
        rwa [decide_eq_true_eq] at this
      have key : ∀ (m : Pl) (l : List Pl), PlP m.1 m.2.1 m.2.2 → (∀ p ∈ l, PlPp p) → l.length ≤ 8 → DkOk (m.1, m.2.1, m.2.2, l) := fun m l h1 h2 h3 => ⟨h2, h1, h3⟩
      refine key _ _ hq (fun p hp => ?_) ?_
      · have hp' : p ∈ pastV d := hp
        unfold pastV at hp'
        split at hp'
        · exact hmem p (List.mem_of_mem_drop hp')
        · exact hmem p hp'
      · have h8 := h.2.2
        unfold pastV
        split
        · rw [List.length_drop, List.length_append, List.length_singleton]; omega
        · omega
    · exact h
theorem doV_no {d : Dk} {x : Dd3} (h : (doV d x).2 = false) : (doV d x).1 = d := by
  unfold doV at h ⊢
  split at h
  · cases h
  · rename_i h1
    rw [if_neg h1]
    split at h
    · cases h
    · rename_i h2; rw [if_neg h2]
theorem do_val {d : Dk} (h : DkOk d) (x : Dd3) : s_DeskDo_f (d.1, d.2.1, d.2.2.1, d.2.2.2, x.1, x.2.1, x.2.2) = some ((doV d x).1.1, (doV d x).1.2.1, (doV d x).1.2.2.1, (doV d x).1.2.2.2, (doV d x).2) := by
  obtain ⟨a, k, b, l⟩ := d
  obtain ⟨K, A, B⟩ := x
  have h' : DkP a k b l := h
  have hl := h'.2.2
  have hsz := PlP.sm h'.2.1
  by_cases h4 : K = 4 ∧ A = 0 ∧ B = 0 ∧ 0 < l.length
  · have e : doV (a, k, b, l) (K, A, B) = (backV (a, k, b, l), true) := by
      unfold doV
      rw [if_pos (show bkB (K, A, B) l.length = true from decide_eq_true h4)]
    rw [e]
    obtain ⟨k4, A0, B0, c⟩ := h4
    have hsm : ∀ p ∈ l, smP 4611686018427387904 p := fun p hp => by have := PlP.sm (h'.1 p hp); exact ⟨by omega, by omega⟩
    have hW : IntKind.i64.wrap ((List.length l : Int) - 1) = (l.length : Int) - 1 := i64w (by omega) (by omega)
    have h1 : (0 : Int) ≤ (l.length : Int) - 1 ∧ (l.length : Int) - 1 < (l.length : Int) := ⟨by omega, by omega⟩
    have h2 : (0 : Int) ≤ (l.length : Int) - 1 ∧ (l.length : Int) - 1 ≤ (l.length : Int) := ⟨by omega, by omega⟩
    obtain ⟨z, κ, st, hz', _⟩ := made_tot h'.2.1 K A B
    rw [s_DeskDo_f_eq, sdesk a k b l (by omega) (by omega) hsm, decide_eq_true h', Option.bind_some, Bool.not_true, cond_false, l15Copy_val h', Option.bind_some]
    have e4 : (K == 4 && (A == 0 && (B == 0 && true))) = true := by rw [k4, A0, B0]; rfl
    simp only [hW]
    rw [e4, cond_true, cnd_t (by omega), if_pos h1, if_pos h2]
    have hi : ((l.length : Int) - 1).toNat = l.length - 1 := by omega
    rw [hi]
    rfl
  · obtain ⟨z, κ, st, hz, hst⟩ := made_tot h'.2.1 K A B
    have hmv : madeV (a, k, b) (K, A, B) = (z, κ, st) := by unfold madeV; rw [hz]; rfl
    have hb : ¬ bkB (K, A, B) l.length = true := fun hh => h4 (of_decide_eq_true hh)
    show s_DeskDo_f (a, k, b, l, K, A, B) = _
    rw [do_made h' h4 hst hz, i_DeskDo_j4_eq, ipl z κ st (by omega), Option.bind_some, (ptx_val z κ st (by omega)).1, Option.bind_some, (ptx_val a k b (by omega)).1, Option.bind_some]
    unfold doV
    simp only
    rw [if_neg hb]
    unfold canV
    simp only [hmv]
    have hlen : (l ++ ([(a, k, b)] : List (List Int × Int × List Int))).length = l.length + 1 := by simp
    have hmem : ∀ p ∈ l ++ ([(a, k, b)] : List (List Int × Int × List Int)), PlPp p := fun p hp => by
      rcases List.mem_append.1 hp with hp | hp
      · exact h'.1 p hp
      · have : p = (a, k, b) := by simpa using hp
        rw [this]; exact h'.2.1
    by_cases hq : PlP z κ st
    · rw [decide_eq_true hq, Bool.not_true, cond_false, Bool.true_and]
      by_cases he : ptx z κ st = ptx a k b
      · rw [he, show (ByteArray.toList (ptx a k b) == ByteArray.toList (ptx a k b)) = true from by simp, cond_true, decide_eq_true rfl, if_neg (by simp)]
      · have hne : (ByteArray.toList (ptx z κ st) == ByteArray.toList (ptx a k b)) = false := by
          cases hc : (ByteArray.toList (ptx z κ st) == ByteArray.toList (ptx a k b)) with
          | false => rfl
          | true =>
            exfalso
            apply he
            have := beq_bytes (a := ptx z κ st) (b := ptx a k b) (x := 0) (y := 1)
            rw [hc, Bool.not_true, cond_false] at this
            by_cases h0 : ptx z κ st = ptx a k b
            · exact h0
            · rw [if_neg h0] at this; cases this
        have h56 : (List.length l + List.length ([(a, k, b)] : List (List Int × Int × List Int))) * 56 ≤ 140737488355328 := by simp; omega
        have hin : (0 : Int) ≤ 1 ∧ 1 ≤ ((l.length + 1 : Nat) : Int) := ⟨by omega, by omega⟩
        rw [hne, cond_false, decide_eq_false he, Bool.not_false, if_pos rfl, copyPl (p := (a, k, b)) h'.2.1, Option.bind_some]
        simp only [if_pos h56, hlen, if_pos hin]
        unfold pastV
        simp only
        by_cases c8 : (8 : Int) < ((l.length + 1 : Nat) : Int)
        · have hd : DkP z κ st (List.drop (1 : Int).toNat (List.take (l.length + 1) (l ++ ([(a, k, b)] : List (List Int × Int × List Int))))) := ⟨fun p hp' => hmem p (List.mem_of_mem_take (List.mem_of_mem_drop hp')), hq, by rw [List.length_drop, List.length_take, hlen, show (1 : Int).toNat = 1 from rfl]; omega⟩
          rw [cnd_t c8, icopy_val hd, Option.bind_some, if_pos (show 8 < (l ++ ([(a, k, b)] : List Pl)).length by rw [hlen]; omega)]
          have ht : List.take (l.length + 1) (l ++ ([(a, k, b)] : List (List Int × Int × List Int))) = l ++ [(a, k, b)] := List.take_of_length_le (by rw [hlen]; omega)
          rw [ht]
          rfl
        · have hd : DkP z κ st (l ++ ([(a, k, b)] : List (List Int × Int × List Int))) := ⟨hmem, hq, by rw [hlen]; omega⟩
          rw [cnd_f c8, icopy_val hd, Option.bind_some, if_neg (show ¬ 8 < (l ++ ([(a, k, b)] : List Pl)).length by rw [hlen]; omega)]
    · rw [decide_eq_false hq, Bool.not_false, cond_true, Bool.false_and, if_neg (by simp)]
theorem ido_val {d : Dk} (h : DkOk d) (x : Dd3) : i_DeskDo_f (d.1, d.2.1, d.2.2.1, d.2.2.2, x.1, x.2.1, x.2.2) = some ((doV d x).1.1, (doV d x).1.2.1, (doV d x).1.2.2.1, (doV d x).1.2.2.2, (doV d x).2) := by
  rw [do_same h]; exact do_val h x
/-- Deeds, one behind the other. -/
noncomputable def runV (d : Dk) (ds : List Dd3) : Dk := ds.foldl (fun d x => (doV d x).1) d
theorem runV_ok {d : Dk} (h : DkOk d) (ds : List Dd3) : DkOk (runV d ds) := by
  induction ds generalizing d with
  | nil => exact h
  | cons x ds ih => exact ih (doV_ok h x)
theorem runV_app (d : Dk) (xs ys : List Dd3) : runV d (xs ++ ys) = runV (runV d xs) ys := List.foldl_append
/-- How many can be done. -/
noncomputable def cntV (d : Dk) : List Dd3 → Int
  | [] => 0
  | x :: ds => (if (doV d x).2 = true then 1 else 0) + cntV (doV d x).1 ds
theorem cntV_app (d : Dk) : ∀ xs ys : List Dd3, cntV d (xs ++ ys) = cntV d xs + cntV (runV d xs) ys
  | [], ys => by simp [cntV, runV]
  | x :: xs, ys => by
    rw [List.cons_append, cntV, cntV, cntV_app _ xs ys]
    show _ = _ + cntV (runV (doV d x).1 xs) ys
    omega
theorem cntV_le (d : Dk) : ∀ xs : List Dd3, 0 ≤ cntV d xs ∧ cntV d xs ≤ xs.length
  | [] => by simp [cntV]
  | x :: xs => by
    have := cntV_le (doV d x).1 xs
    rw [cntV, List.length_cons]
    split <;> omega
theorem drop_getD {ds : List Dd3} {i : Nat} (hi : i < ds.length) : ds.drop i = ds.getD i (0, 0, 0) :: ds.drop (i + 1) := by
  rw [List.drop_eq_getElem_cons hi, List.getD_eq_getElem?_getD, List.getElem?_eq_getElem hi]; rfl
theorem run1_val (ds : List Dd3) (hd : ds.length ≤ 4000000000) (y3 : Int) : ∀ i, i ≤ ds.length → ∀ (n : Int) (d : Dk), 0 ≤ n → n + (ds.length : Int) ≤ 4000000000 + (i : Int) → DkOk d → s_l15Run_l1 ds n (i : Int) y3 d.1 d.2.1 d.2.2.1 d.2.2.2 = some ((runV d (ds.drop i)).1, (runV d (ds.drop i)).2.1, (runV d (ds.drop i)).2.2.1, (runV d (ds.drop i)).2.2.2, n + cntV d (ds.drop i)) := by
  refine advN ?_ fun i hi ih => ?_
  · intro n d hn _ h
    rw [s_l15Run_l1_eq, cnd_f (by omega), List.drop_length]
    simp [runV, cntV]
  · intro n d hn hn' h
    rw [s_l15Run_l1_eq, cnd_t (by omega), if_pos (inN hi), gD3, do_val h, Option.bind_some, w1 hi (by omega), drop_getD hi, cntV]
    have hr : ∀ x : Dd3, ∀ l, runV d (x :: l) = runV (doV d x).1 l := fun _ _ => rfl
    rw [hr]
    cases ht : (doV d (ds.getD i (0, 0, 0))).2 with
    | true =>
      have hW : IntKind.i64.wrap (n + 1) = n + 1 := i64w (by omega) (by omega)
      have := ih (n + 1) _ (by omega) (by omega) (doV_ok h (ds.getD i (0, 0, 0)))
      rw [if_pos rfl, show n + (1 + cntV (doV d (ds.getD i (0, 0, 0))).1 (ds.drop (i + 1))) = n + 1 + cntV (doV d (ds.getD i (0, 0, 0))).1 (ds.drop (i + 1)) by omega]
      simp only [cond_true, hW]
      exact this
    | false =>
      have hs := doV_no ht
      rw [if_neg (by simp), hs, Int.zero_add]
      exact ih n _ hn (by omega) h
theorem run0_val (ds : List Dd3) (hd : ds.length ≤ 4000000000) (y3 : Int) : ∀ i, i ≤ ds.length → ∀ (n : Int) (d : Dk), 0 ≤ n → n + (ds.length : Int) ≤ 4000000000 + (i : Int) → DkOk d → s_l15Run_l0 ds n (i : Int) y3 d.1 d.2.1 d.2.2.1 d.2.2.2 = some ((runV d (ds.drop i)).1, (runV d (ds.drop i)).2.1, (runV d (ds.drop i)).2.2.1, (runV d (ds.drop i)).2.2.2, n + cntV d (ds.drop i)) := by
  refine advN ?_ fun i hi ih => ?_
  · intro n d hn _ h
    rw [s_l15Run_l0_eq, cnd_f (by omega), List.drop_length]
    simp [runV, cntV]
  · intro n d hn hn' h
    rw [s_l15Run_l0_eq, cnd_t (by omega), if_pos (inN hi), gD3, do_val h, Option.bind_some, w1 hi (by omega), drop_getD hi, cntV]
    have hr : ∀ x : Dd3, ∀ l, runV d (x :: l) = runV (doV d x).1 l := fun _ _ => rfl
    rw [hr]
    cases ht : (doV d (ds.getD i (0, 0, 0))).2 with
    | true =>
      have hW : IntKind.i64.wrap (n + 1) = n + 1 := i64w (by omega) (by omega)
      have := run1_val ds hd y3 (i + 1) (by omega) (n + 1) _ (by omega) (by omega) (doV_ok h (ds.getD i (0, 0, 0)))
      rw [if_pos rfl, show n + (1 + cntV (doV d (ds.getD i (0, 0, 0))).1 (ds.drop (i + 1))) = n + 1 + cntV (doV d (ds.getD i (0, 0, 0))).1 (ds.drop (i + 1)) by omega]
      simp only [cond_true, hW]
      exact this
    | false =>
      have hs := doV_no ht
      rw [if_neg (by simp), hs, Int.zero_add]
      exact ih n _ hn (by omega) h
theorem srun_val {d : Dk} (h : DkOk d) (ds : List Dd3) (hd : ds.length ≤ 4000000000) : s_l15Run_f (d.1, d.2.1, d.2.2.1, d.2.2.2, ds) = some ((runV d ds).1, (runV d ds).2.1, (runV d ds).2.2.1, (runV d ds).2.2.2, cntV d ds) := by
  rw [s_l15Run_f_eq, l15Copy_val h, Option.bind_some]
  have := run0_val ds hd 0 0 (by omega) 0 d (by omega) (by omega) h
  rw [Int.zero_add] at this
  exact this
theorem irun_val {d : Dk} (h : DkOk d) (ds : List Dd3) (hd : ds.length ≤ 4000000000) : i_doAll_f (d.1, d.2.1, d.2.2.1, d.2.2.2, ds) = some ((runV d ds).1, (runV d ds).2.1, (runV d ds).2.2.1, (runV d ds).2.2.2, cntV d ds) := by
  rw [doAll_same h ds hd]; exact srun_val h ds hd
/-! Two desks at one place. -/
theorem doV_now {d e : Dk} (hn : nowP d = nowP e) {x : Dd3} (hx : x.1 ≠ 4) : (doV d x).2 = (doV e x).2 ∧ nowP (doV d x).1 = nowP (doV e x).1 := by
  have hb : ∀ n, ¬ bkB x n = true := fun n h => hx (of_decide_eq_true h).1
  unfold doV
  rw [if_neg (hb _), if_neg (hb _), hn]
  split
  · exact ⟨rfl, rfl⟩
  · exact ⟨rfl, hn⟩
end FN
/-! Desks that are drawn. -/
namespace FN
open Go
theorem doO_same {a : List Int} {k : Int} {b : List Int} {l : List Pl} (h : DkP a k b l) (h7 : l.length ≤ 7) (K A B : Int) : s_DeskDoO_f (a, k, b, l, K, A, B) = s_DeskDo_f (a, k, b, l, K, A, B) := by
  have hm := PlP.sm h.2.1
  have hl := h.2.2
  have hsm : ∀ p ∈ l, smP 4611686018427387904 p := fun p hp => by have := PlP.sm (h.1 p hp); exact ⟨by omega, by omega⟩
  obtain ⟨z, κ, st, hz, hst⟩ := made_tot h.2.1 K A B
  obtain ⟨t1, t1', _⟩ := placeText_same z κ st (by omega)
  obtain ⟨t2, t2', _⟩ := placeText_same a k b (by omega)
  have c8 : ¬ (8 : Int) < ((l ++ [(a, k, b)] : List Pl).length : Int) := by
    rw [List.length_append, List.length_singleton]; omega
  rw [s_DeskDoO_f_eq, s_DeskDo_f_eq]
  simp only [sdesk a k b l (by omega) (by omega) hsm, decide_eq_true h, Option.bind_some, Bool.not_true, cond_false, l15Copy_val h, hz, spl z κ st (by omega), t1', t2', decide_eq_false c8, s_DeskDo_j1_eq, s_DeskDoO_j1_eq, List.drop_zero]
/-- What a drawn desk is on its way. -/
def OnWay (m : Nat) (d : Dk) : Prop := (DkOk d ∧ d.2.2.2.length ≤ m) ∨ d = ([], 0, [], [])
theorem noDk : ¬ DkP [] 0 [] [] := fun h => no_zero h.2.1
theorem OnWay.sm {m : Nat} {d : Dk} (h : OnWay m d) : d.1.length ≤ 6 ∧ d.2.2.1.length ≤ 6 ∧ d.2.2.2.length ≤ 8 ∧ ∀ p ∈ d.2.2.2, p.1.length ≤ 6 ∧ p.2.2.length ≤ 6 := by
  rcases h with ⟨h, _⟩ | rfl
  · have := PlP.sm h.2.1
    exact ⟨this.1, this.2, h.2.2, fun p hp => PlP.sm (h.1 p hp)⟩
  · simp
theorem doV_len {d : Dk} (x : Dd3) : (doV d x).1.2.2.2.length ≤ d.2.2.2.length + 1 := by
  unfold doV
  split
  · show (d.2.2.2.take _).length ≤ _
    rw [List.length_take]; omega
  · split
    · show (pastV d).length ≤ _
      unfold pastV
      split
      · rw [List.length_drop, List.length_append, List.length_singleton]; omega
      · rw [List.length_append, List.length_singleton]
        omega
    · show d.2.2.2.length ≤ _
      omega
theorem doO_way {m : Nat} (hm : m ≤ 7) {d : Dk} (h : OnWay m d) (x : Dd3) : ∃ d' t, s_DeskDoO_f (d.1, d.2.1, d.2.2.1, d.2.2.2, x.1, x.2.1, x.2.2) = some (d'.1, d'.2.1, d'.2.2.1, d'.2.2.2, t) ∧ OnWay (m + 1) d' := by
  rcases h with ⟨h, hl⟩ | rfl
  · refine ⟨(doV d x).1, (doV d x).2, ?_, .inl ⟨doV_ok h x, by have := doV_len (d := d) x; omega⟩⟩
    rw [doO_same h (by omega)]
    exact do_val h x
  · refine ⟨([], 0, [], []), false, ?_, .inr rfl⟩
    rw [s_DeskDoO_f_eq, sdesk [] 0 [] [] (by simp) (by simp) (by simp), decide_eq_false noDk, Option.bind_some]
    rfl
theorem OnWay.up {m n : Nat} (hmn : m ≤ n) {d : Dk} (h : OnWay m d) : OnWay n d := by
  rcases h with ⟨h, hl⟩ | h
  · exact .inl ⟨h, by omega⟩
  · exact .inr h
section
variable {l : List Int} (hl : Bytes l) (hn : l.length ≤ 2000)
include hl hn
/-- A drawn desk: its sizes. -/
def DOut (o : Option (List Int × Int × List Int × List Pl × Int)) : Prop := ∃ (d : Dk) (q : Int), o = some (d.1, d.2.1, d.2.2.1, d.2.2.2, q) ∧ d.1.length ≤ 6 ∧ d.2.2.1.length ≤ 6 ∧ d.2.2.2.length ≤ 9 ∧ (∀ p ∈ d.2.2.2, p.1.length ≤ 6 ∧ p.2.2.length ≤ 6) ∧ 0 ≤ q ∧ q ≤ 800000000
theorem desk_j1 (y0 y4 : Int) (hy0 : y0 ≤ 1000) {p : Int} (hp : 0 ≤ p) (hp' : p ≤ 700000000) {m : Nat} {d : Dk} (h : OnWay m d) : DOut (s_l20Desk_j1 l y0 l p y4 d.1 d.2.1 d.2.2.1 d.2.2.2) := by
  obtain ⟨s1, s2, s3, s4⟩ := h.sm
  obtain ⟨bb, q, e1, q1, q2⟩ := odd_ok hl hn hp (by omega) (n := y0) (by omega)
  rw [s_l20Desk_j1_eq, e1, Option.bind_some]
  cases bb with
  | false => simp only [cond_false]; exact ⟨d, q, by simp, s1, s2, by omega, s4, by omega, by omega⟩
  | true =>
    simp only [cond_true]
    obtain ⟨u, e2, u0, u1⟩ := pick_ok hl hn (show 0 ≤ q by omega) (by omega) (show (1 : Int) ≤ 3 by omega) (by omega)
    rw [e2, Option.bind_some]
    simp only
    by_cases c0 : u = 0
    · rw [beq_t c0]
      exact ⟨(d.1, 2, d.2.2.1, d.2.2.2), q + 1, by simp, s1, s2, by show d.2.2.2.length ≤ 9; omega, s4, by omega, by omega⟩
    · rw [beq_f c0]
      by_cases c1 : u = 1
      · rw [beq_t c1, if_pos (by rw [List.length_singleton]; omega)]
        refine ⟨(d.1, d.2.1, d.2.2.1, d.2.2.2 ++ [([], 0, [])]), q + 1, by simp, s1, s2, ?_, ?_, by omega, by omega⟩
        · show (d.2.2.2 ++ [([], 0, [])]).length ≤ 9
          rw [List.length_append, List.length_singleton]; omega
        · intro p hp
          rcases List.mem_append.1 hp with hp | hp
          · exact s4 p hp
          · have : p = ([], 0, []) := by simpa using hp
            rw [this]; simp
      · rw [beq_f c1]
        exact ⟨([], 0, [], []), q + 1, by simp, by simp, by simp, by simp, by simp, by omega, by omega⟩
theorem desk_loop (y0 y4 : Int) (hy0 : y0 ≤ 1000) : ∀ m : Nat, m ≤ 4 → ∀ (p : Int) (d : Dk), 0 ≤ p → p + 100 * (m : Int) ≤ 600000000 → OnWay (4 - m) d → DOut (s_l20Desk_l0 l y0 (m : Int) l p y4 d.1 d.2.1 d.2.2.1 d.2.2.2) := by
  intro m
  induction m with
  | zero =>
    intro _ p d hp hp' h
    rw [s_l20Desk_l0_eq, cnd_f (by omega)]
    exact desk_j1 hl hn y0 y4 hy0 hp (by omega) h
  | succ m ih =>
    intro hm p d hp hp' h
    obtain ⟨s1, s2, s3, s4⟩ := h.sm
    obtain ⟨K, A, B, q, e2, q1, q2⟩ := l20Deed_ok hl hn (a := d.1) (b := d.2.2.1) (k := d.2.1) (by omega) hp (by omega)
    obtain ⟨d', t, e3, h3⟩ := doO_way (by omega) h (K, A, B)
    simp only at e3
    have hm1 : IntKind.i64.wrap (((m + 1 : Nat) : Int) - 1) = (m : Int) := by rw [wsub (by omega) (by omega)]; omega
    rw [s_l20Desk_l0_eq, cnd_t (by omega), e2, Option.bind_some]
    simp only
    rw [e3, Option.bind_some, hm1]
    cases t with
    | true => exact ih (by omega) q d' (by omega) (by omega) (h3.up (by omega))
    | false => exact ih (by omega) q d (by omega) (by omega) (h.up (by omega))
theorem l20Desk_ok (y0 : Int) (hy0 : y0 ≤ 1000) {p : Int} (hp : 0 ≤ p) (hp' : p ≤ 400000000) : DOut (s_l20Desk_f (l, p, y0)) := by
  obtain ⟨a, k, b, q, e1, h1, h2, q1, q2⟩ := l20Place_ok hl hn (n := 0) (by omega) hp (by omega)
  obtain ⟨u, e3, u0, u1⟩ := pick_ok hl hn (show 0 ≤ q by omega) (by omega) (show (1 : Int) ≤ 5 by omega) (by omega)
  have hnew : ∃ d : Dk, ∃ t, s_DeskNew_f (a, k, b) = some (d.1, d.2.1, d.2.2.1, d.2.2.2, t) ∧ OnWay 0 d := by
    rw [s_DeskNew_f_eq, spl a k b (by omega), Option.bind_some]
    by_cases h : PlP a k b
    · rw [decide_eq_true h, Bool.not_true, cond_false, l15Place_val a k b (by omega) (by omega), Option.bind_some]
      exact ⟨(a, k, b, []), true, rfl, .inl ⟨⟨by simp, h, by simp⟩, by simp⟩⟩
    · rw [decide_eq_false h]
      exact ⟨([], 0, [], []), false, rfl, .inr rfl⟩
  obtain ⟨d, t, e2, hd⟩ := hnew
  obtain ⟨m, rfl⟩ : ∃ m : Nat, u = m := ⟨u.toNat, by omega⟩
  rw [s_l20Desk_f_eq, e1, Option.bind_some]
  simp only
  rw [e2, Option.bind_some]
  simp only
  rw [e3, Option.bind_some]
  exact desk_loop hl hn y0 0 hy0 m (by omega) (q + 1) d (by omega) (by omega) (hd.up (by omega))
theorem deeds_loop {a b : List Int} {k : Int} (ha : a.length ≤ 100) : ∀ m : Nat, m ≤ 10 → ∀ (p : Int) (out : List Dd3), 0 ≤ p → p + 100 * (m : Int) ≤ 840000000 → out.length + m ≤ 20 → ∃ (ds : List Dd3) (q : Int), s_l20Deeds_l0 l (m : Int) l p a k b out = some (ds, q) ∧ ds.length ≤ 20 := by
  intro m
  induction m with
  | zero =>
    intro _ p out hp hp' ho
    rw [s_l20Deeds_l0_eq, cnd_f (by omega), if_pos ⟨rfl, rfl⟩]
    exact ⟨_, _, rfl, by omega⟩
  | succ m ih =>
    intro hm p out hp hp' ho
    obtain ⟨K, A, B, q, e2, q1, q2⟩ := l20Deed_ok hl hn (a := a) (b := b) (k := k) ha hp (by omega)
    have hm1 : IntKind.i64.wrap (((m + 1 : Nat) : Int) - 1) = (m : Int) := by rw [wsub (by omega) (by omega)]; omega
    rw [s_l20Deeds_l0_eq, cnd_t (by omega), e2, Option.bind_some, if_pos (by rw [List.length_singleton]; omega), hm1]
    exact ih (by omega) q _ (by omega) (by omega) (by rw [List.length_append, List.length_singleton]; omega)
theorem l20Deeds_ok {a b : List Int} {k : Int} (ha : a.length ≤ 100) {p : Int} (hp : 0 ≤ p) (hp' : p ≤ 830000000) : ∃ (ds : List Dd3) (q : Int), s_l20Deeds_f (l, p, a, k, b) = some (ds, q) ∧ ds.length ≤ 20 := by
  obtain ⟨u, e3, u0, u1⟩ := pick_ok hl hn hp (by omega) (show (1 : Int) ≤ 6 by omega) (by omega)
  obtain ⟨m, rfl⟩ : ∃ m : Nat, u = m := ⟨u.toNat, by omega⟩
  rw [s_l20Deeds_f_eq, e3, Option.bind_some]
  exact deeds_loop hl hn ha m (by omega) (p + 1) [] (by omega) (by omega) (by simp; omega)
end
/-- A drawn desk with deeds. -/
theorem drawRun_ok {x : List Int} (hb : Bytes x) : ∃ (d : Dk) (ds : List Dd3), s_DrawDeskRun_f x = some (d.1, d.2.1, d.2.2.1, d.2.2.2, ds) ∧ d.1.length ≤ 6 ∧ d.2.2.1.length ≤ 6 ∧ d.2.2.2.length ≤ 9 ∧ (∀ p ∈ d.2.2.2, p.1.length ≤ 6 ∧ p.2.2.length ≤ 6) ∧ ds.length ≤ 41 := by
  obtain ⟨l, e1, e2, e3⟩ := open_ok hb
  obtain ⟨d, q, e4, s1, s2, s3, s4, q1, q2⟩ := l20Desk_ok e2 e3 12 (by omega) (p := 0) (by omega) (by omega)
  obtain ⟨bb, q', e5, q3, q4⟩ := odd_ok e2 e3 q1 (by omega) (n := 30) (by omega)
  rw [s_DrawDeskRun_f_eq, e1, Option.bind_some, e4, Option.bind_some]
  simp only
  rw [e5, Option.bind_some]
  cases bb with
  | true =>
    simp only [cond_true]
    rw [if_pos ⟨by omega, by omega, by omega⟩]
    exact ⟨d, List.replicate 41 (0, 0, 0), rfl, s1, s2, s3, s4, by simp⟩
  | false =>
    simp only [cond_false]
    obtain ⟨ds, q'', e6, h6⟩ := l20Deeds_ok e2 e3 (a := d.1) (b := d.2.2.1) (k := d.2.1) (by omega) (p := q') (by omega) (by omega)
    rw [e6, Option.bind_some]
    exact ⟨d, ds, rfl, s1, s2, s3, s4, by omega⟩
end FN
namespace FN
open Go
theorem run_same (a : List Int) (k : Int) (b : List Int) (l : List Pl) (ds : List Dd3) (hb : b.length ≤ 4611686018427387904) (hl : l.length ≤ 4611686018427387904) (hs : ∀ p ∈ l, smP 4611686018427387904 p) : i_DeskRun_f (a, k, b, l, ds) = s_DeskRun_f (a, k, b, l, ds) := by
  rw [i_DeskRun_f_eq, s_DeskRun_f_eq, idesk a k b l hb hl hs, sdesk a k b l hb hl hs, Option.bind_some, Option.bind_some]
  by_cases h : DkP a k b l
  · rw [decide_eq_true h, Bool.not_true, cond_false, cond_false]
    by_cases c : (40 : Int) < (ds.length : Int)
    · rw [cnd_t c, cnd_t c]
    · rw [cnd_f c, cnd_f c, doAll_same h ds (by omega)]
  · rw [decide_eq_false h, Bool.not_false, cond_true, cond_true]
end FN
/-! The same desk is told so. -/
namespace FN
open Go
theorem sameDesk_loop (a : List Int) (k : Int) (b : List Int) (l : List Pl) (hl : l.length ≤ 4611686018427387904) (hs : ∀ p ∈ l, smP 4611686018427387904 p) : ∀ i, i ≤ l.length → w_sameDesk_l0 (i : Int) a k b l a k b l = some true := by
  refine advN ?_ fun i hi ih => ?_
  · rw [w_sameDesk_l0_eq, cnd_f (by omega)]
  · rw [w_sameDesk_l0_eq, cnd_t (by omega), if_pos (inN hi), if_pos (inN hi), gP, w1 hi (by omega)]
    have hm := hs _ (getD_mem (d := ([], 0, [])) hi)
    rw [samePlace_refl _ _ _ hm.1 hm.2, Option.bind_some]
    exact ih
theorem sameDesk_refl (a : List Int) (k : Int) (b : List Int) (l : List Pl) (ha : a.length ≤ 4611686018427387904) (hb : b.length ≤ 4611686018427387904) (hl : l.length ≤ 4611686018427387904) (hs : ∀ p ∈ l, smP 4611686018427387904 p) : w_sameDesk_f (a, k, b, l, a, k, b, l) = some true := by
  rw [w_sameDesk_f_eq, samePlace_refl a k b ha hb, Option.bind_some, bne_f rfl]
  exact sameDesk_loop a k b l hl hs 0 (by omega)
theorem noDesk_yes : w_noDesk_f ([], 0, [], []) = some true := by
  rw [w_noDesk_f_eq, sameDesk_refl [] 0 [] [] (by simp) (by simp) (by simp) (by simp)]
  rfl
theorem sameDesk_ok {a : List Int} {k : Int} {b : List Int} {l : List Pl} (h : DkP a k b l) : w_sameDesk_f (a, k, b, l, a, k, b, l) = some true := by
  have h1 := PlP.sm h.2.1
  have h2 := h.2.2
  exact sameDesk_refl a k b l (by omega) (by omega) (by omega) fun p hp => by have := PlP.sm (h.1 p hp); exact ⟨by omega, by omega⟩
end FN
/-! The law FnDeskRun. -/
namespace FN
open Go
theorem runDk {d : Dk} (h : DkOk d) (ds : List Dd3) (hd : ds.length ≤ 40) : i_DeskRun_f (d.1, d.2.1, d.2.2.1, d.2.2.2, ds) = some ((runV d ds).1, (runV d ds).2.1, (runV d ds).2.2.1, (runV d ds).2.2.2, cntV d ds) := by
  have hb := PlP.sm h.2.1
  rw [i_DeskRun_f_eq, idesk _ _ _ _ (by omega) (by have := h.2.2; omega) (fun p hp => by have := PlP.sm (h.1 p hp); exact ⟨by omega, by omega⟩), Option.bind_some, decide_eq_true (show DkP _ _ _ _ from h), Bool.not_true, cond_false, cnd_f (by omega), irun_val h ds (by omega), Option.bind_some]
theorem deskRun_law {x : List Int} (hb : Bytes x) : w_FnDeskRun_f x = some true := by
  rw [w_FnDeskRun_f_eq]
  by_cases h0 : (1048576 : Int) < (x.length : Int)
  · rw [cnd_t h0]
  rw [cnd_f h0]
  obtain ⟨d, ds, e1, s1, s2, s3, s4, s5⟩ := drawRun_ok hb
  have hs' : ∀ p ∈ d.2.2.2, smP 4611686018427387904 p := fun p hp => ⟨by have := (s4 p hp).1; omega, by have := (s4 p hp).2; omega⟩
  have hsd := sdesk d.1 d.2.1 d.2.2.1 d.2.2.2 (by omega) (by omega) hs'
  have hid := idesk d.1 d.2.1 d.2.2.1 d.2.2.2 (by omega) (by omega) hs'
  rw [e1, Option.bind_some]
  simp only
  rw [← run_same d.1 d.2.1 d.2.2.1 d.2.2.2 ds (by omega) (by omega) hs', hsd]
  have hz : w_sameDesk_f ([], 0, [], [], [], 0, [], []) = some true := sameDesk_refl [] 0 [] [] (by simp) (by simp) (by simp) (by simp)
  by_cases h : DkP d.1 d.2.1 d.2.2.1 d.2.2.2
  · by_cases h40 : (40 : Int) < (ds.length : Int)
    · have hr : i_DeskRun_f (d.1, d.2.1, d.2.2.1, d.2.2.2, ds) = some ([], 0, [], [], 0) := by
        rw [i_DeskRun_f_eq, hid, Option.bind_some, decide_eq_true h, Bool.not_true, cond_false, cnd_t h40]
      rw [hr, decide_eq_true h]
      simp only [Option.bind_some]
      rw [hz, noDesk_yes, alive_yes, cnd_t h40]
      rfl
    · have hk : DkOk d := h
      have hr := runDk hk ds (by omega)
      have hW : IntKind.i64.wrap (Int.tdiv (ds.length : Int) 2) = ((ds.length / 2 : Nat) : Int) := by
        have e : Int.tdiv (ds.length : Int) 2 = ((ds.length / 2 : Nat) : Int) := by
          rw [Int.tdiv_eq_ediv_of_nonneg (by omega)]; omega
        rw [e]
        exact i64w (by omega) (by omega)
      have hD : DkOk (runV d ds) := runV_ok hk ds
      have hD1 : DkOk (runV d (ds.take (ds.length / 2))) := runV_ok hk _
      have hP := PlP.sm hD.2.1
      have hdk : i_DeskOk_f ((runV d ds).1, (runV d ds).2.1, (runV d ds).2.2.1, (runV d ds).2.2.2) = some true := by
        rw [idesk _ _ _ _ (by omega) (by have := hD.2.2; omega) fun p hp => by have := PlP.sm (hD.1 p hp); exact ⟨by omega, by omega⟩]
        rw [decide_eq_true (show DkP _ _ _ _ from hD)]
      have h1 := runDk hk (ds.take (ds.length / 2)) (by rw [List.length_take]; omega)
      have h2 := runDk hD1 (ds.drop (ds.length / 2)) (by rw [List.length_drop]; omega)
      have happ : runV (runV d (ds.take (ds.length / 2))) (ds.drop (ds.length / 2)) = runV d ds := by rw [← runV_app, List.take_append_drop]
      have hcnt : cntV d (ds.take (ds.length / 2)) + cntV (runV d (ds.take (ds.length / 2))) (ds.drop (ds.length / 2)) = cntV d ds := by rw [← cntV_app, List.take_append_drop]
      have hle := cntV_le d ds
      have hsame := sameDesk_ok hD
      rw [hr, decide_eq_true h]
      simp only [Option.bind_some, hW]
      rw [hsame, cnd_f h40]
      simp only [Option.bind_some, Bool.not_true, cond_false, bne_self_eq_false]
      rw [if_pos ⟨by omega, by omega⟩, List.drop_zero, show (((ds.length / 2 : Nat) : Int)).toNat = ds.length / 2 by omega, h1]
      simp only [Option.bind_some]
      rw [if_pos ⟨by omega, by omega⟩, List.take_length, h2]
      simp only [Option.bind_some]
      rw [hdk]
      simp only [Option.bind_some, cond_true]
      rw [happ, hsame]
      simp only [Option.bind_some, cond_true]
      rw [hcnt, i64w (by omega) (by omega)]
      simp
  · have hr : i_DeskRun_f (d.1, d.2.1, d.2.2.1, d.2.2.2, ds) = some ([], 0, [], [], 0) := by
      rw [i_DeskRun_f_eq, hid, Option.bind_some, decide_eq_false h]; rfl
    rw [hr, decide_eq_false h]
    simp only [Option.bind_some]
    rw [hz, noDesk_yes, alive_yes]
    rfl
theorem FnDeskRun_true (x : Ts w_FnDeskRun_sig.pc) (hw : WfTs w_FnDeskRun_sig.pc x) : w_FnDeskRun_f x = some true := deskRun_law fun y hy => hw.2 y hy
end FN
namespace FN
open Go
theorem storeCrash_law {x : List Int} (hb : Bytes x) : w_FnStoreCrash_f x = some true := by
  rw [w_FnStoreCrash_f_eq]
  by_cases h0 : (1048576 : Int) < (x.length : Int)
  · rw [cnd_t h0]
  rw [cnd_f h0]
  obtain ⟨l, e1, e2, e3⟩ := open_ok hb
  obtain ⟨a, b, n, q, e4, ha, hb', n1, n2, q1, q2⟩ := l20Store_ok e2 e3 9 (by omega) (p := 0) (by omega) (by omega)
  have hE : (ByteArray.empty : ByteArray).size = 0 := rfl
  have hd : ∃ k : Int, s_DrawStoreCrash_f x = some (a, b, n, k) := by
    have W1 : IntKind.i64.wrap ((b.size : Int) - n) = (b.size : Int) - n := i64w (by omega) (by omega)
    have hm : 1 ≤ (if (0 : Int) > (b.size : Int) - n then (0 : Int) else (b.size : Int) - n) + 1 ∧ (if (0 : Int) > (b.size : Int) - n then (0 : Int) else (b.size : Int) - n) + 1 ≤ 100000 := by
      by_cases hh : (0 : Int) > (b.size : Int) - n
      · rw [if_pos hh]; omega
      · rw [if_neg hh]; omega
    have W2 : IntKind.i64.wrap ((if (0 : Int) > (b.size : Int) - n then (0 : Int) else (b.size : Int) - n) + 1) = (if (0 : Int) > (b.size : Int) - n then (0 : Int) else (b.size : Int) - n) + 1 := i64w (by omega) (by omega)
    obtain ⟨u, e5, _⟩ := pick_ok e2 e3 q1 (by omega) hm.1 (by omega)
    obtain ⟨v, e6, _⟩ := pick_ok e2 e3 (show 0 ≤ q + 1 by omega) (by omega) (show (1 : Int) ≤ 30 by omega) (by omega)
    obtain ⟨w, e7, _⟩ := pick_ok e2 e3 (show 0 ≤ q + 1 + 1 by omega) (by omega) (show (1 : Int) ≤ 30 by omega) (by omega)
    rw [s_DrawStoreCrash_f_eq, e1, Option.bind_some, e4, Option.bind_some]
    simp only
    rw [W1, W2, e5, Option.bind_some]
    simp only
    rw [e6, Option.bind_some]
    simp only
    rw [e7, Option.bind_some]
    exact ⟨_, rfl⟩
  obtain ⟨k, hd⟩ := hd
  rw [hd, Option.bind_some]
  simp only
  rw [(crash_val a b n k (by omega)).1, (crash_val a b n k (by omega)).2, Option.bind_some, Option.bind_some, alive_yes]
  simp only [Bool.not_true, cond_false, beq_self_eq_true]
  by_cases hc : stOk a b n = true ∧ n ≤ k ∧ k ≤ (b.size : Int)
  · obtain ⟨hs, k1, k2⟩ := hc
    obtain ⟨h1, h2, h3⟩ := stOk_spec hs
    have hv : crV a b n k = (a, ByteArray.extract b 0 k.toNat, n, true) := by unfold crV; rw [if_pos ⟨hs, k1, k2⟩]
    have hz : (ByteArray.extract b 0 k.toNat).size = k.toNat := by rw [ByteArray.size_extract]; omega
    have hs2 : stOk a (ByteArray.extract b 0 k.toNat) n = true := stOk_of hs (by omega) h1 (by omega)
    have v5 : crV a (ByteArray.extract b 0 k.toNat) n k = (a, ByteArray.extract b 0 k.toNat, n, true) := by
      unfold crV; rw [if_pos ⟨hs2, k1, by omega⟩, ext_whole _ (by omega)]
    have v6 : crV a (ByteArray.extract b 0 k.toNat) n n = (a, ByteArray.extract b 0 n.toNat, n, true) := by
      unfold crV; rw [if_pos ⟨hs2, by omega, by omega⟩, ext_ext _ (by omega)]
    have v7 : crV a b n n = (a, ByteArray.extract b 0 n.toNat, n, true) := by
      unfold crV; rw [if_pos ⟨hs, by omega, by omega⟩]
    rw [hv]
    simp only [Bool.not_true, cond_false]
    rw [(crash_val a _ n k (by omega)).1, (crash_val a _ n n (by omega)).1, (crash_val a b n n (by omega)).1, i_stOk a _ n (by omega), v5, v6, v7, hs2, Option.bind_some, Option.bind_some, Option.bind_some, Option.bind_some]
    have hk : ((k.toNat : Nat) : Int) = k := by omega
    simp only [cond_true, beq_self_eq_true, hz, hk]
    rfl
  · have hv : crV a b n k = (ByteArray.empty, ByteArray.empty, 0, false) := by unfold crV; rw [if_neg hc]
    rw [hv]
    simp
theorem FnStoreCrash_true (x : Ts w_FnStoreCrash_sig.pc) (hw : WfTs w_FnStoreCrash_sig.pc x) : w_FnStoreCrash_f x = some true := storeCrash_law fun y hy => hw.2 y hy
end FN
