/- Texts of the proof, joined: parts -/
import Derived.Lib.SplitLaws
import Derived.Test.YtbkndbgonbadaaaGreatDoorQ0
import Derived.Test.YtbkndbgonbadaaaGreatDoorJ0
import Derived.Test.YtbkndbgonbadaaaGreatDoorJ1
set_option linter.unusedVariables false
set_option linter.unusedSimpArgs false
set_option linter.unusedSectionVars false
namespace FN
open Go
theorem joinT : str10 ++ str1 = str0 := rfl
theorem lightS : str11 ++ str1 = str2 := rfl
theorem kindsS : str12 ++ str1 = str3 := rfl
theorem szs : ByteArray.size str0 = 5 ∧ ByteArray.size str1 = 1 ∧ ByteArray.size str2 = 6 ∧ ByteArray.size str3 = 6 ∧ ByteArray.size str10 = 4 ∧ ByteArray.size str11 = 5 ∧ ByteArray.size str12 = 5 := ⟨rfl, rfl, rfl, rfl, rfl, rfl, rfl⟩
theorem deedText_same (k a b : Int) : ∃ s, s_DeedText_f (k, a, b) = some s ∧ i_DeedText_f (k, a, b) = some s ∧ s.size ≤ 20 := by
  rw [s_DeedText_f_eq, i_DeedText_f_eq, l1In_val, Option.bind_some]
  by_cases ha : 0 ≤ a ∧ a ≤ 99
  · rw [decide_eq_true ha, l1In_val, Option.bind_some, cnd_f (show ¬ a < 0 by omega), cnd_f (show ¬ 99 < a by omega), Bool.not_true, cond_false]
    by_cases hb : 0 ≤ b ∧ b ≤ 99
    · rw [decide_eq_true hb, cnd_f (show ¬ b < 0 by omega), cnd_f (show ¬ 99 < b by omega), Bool.not_true, cond_false]
      obtain ⟨z0, z1, z2, z3, z10, z11, z12⟩ := szs
      have sa := itoa_size ha.1 (show a < 100 by omega)
      have sb := itoa_size hb.1 (show b < 100 by omega)
      have na := num_val ha.1 (show a < 100 by omega)
      have nb := num_val hb.1 (show b < 100 by omega)
      have ia := itoa_val ha.1 (show a < 100 by omega)
      have ib := itoa_val hb.1 (show b < 100 by omega)
      rw [ia, Option.bind_some, if_pos (by rw [z1]; omega)]
      by_cases k0 : k = 0
      · subst k0
        refine ⟨((str0 ++ itoaS a) ++ str1) ++ itoaS b, ?_, ?_, by rw [ByteArray.size_append, ByteArray.size_append, ByteArray.size_append, z0, z1]; omega⟩
        · simp only [beq_self_eq_true, Bool.true_and, cond_true]
          rw [na, Option.bind_some, if_pos (by rw [z0]; omega), if_pos (by rw [ByteArray.size_append, z0, z1]; omega), nb, Option.bind_some, if_pos (by rw [ByteArray.size_append, ByteArray.size_append, z0, z1]; omega)]
        · rw [show ((0 : Int) == 0) = true from rfl, cond_true, if_pos (by rw [ByteArray.size_append, z10, z1]; omega), if_pos (by rw [ByteArray.size_append, ByteArray.size_append, z10, z1]; omega), ib, Option.bind_some, if_pos (by rw [ByteArray.size_append, ByteArray.size_append, ByteArray.size_append, z10, z1]; omega), ← ByteArray.append_assoc, joinT]
      · have e0 : (k == 0) = false := by simpa using k0
        rw [e0]
        simp only [Bool.false_and, cond_false, beq_self_eq_true, Bool.true_and, Bool.and_true]
        by_cases hb0 : b = 0
        · subst hb0
          simp only [bne_self_eq_false, cond_false, beq_self_eq_true, Bool.and_true]
          by_cases k1 : k = 1
          · subst k1
            refine ⟨str2 ++ itoaS a, ?_, ?_, by rw [ByteArray.size_append, z2]; omega⟩
            · rw [show ((1 : Int) == 1) = true from rfl, cond_true, na, Option.bind_some, if_pos (by rw [z2]; omega)]
            · rw [show ((1 : Int) == 1) = true from rfl, cond_true, if_pos (by rw [ByteArray.size_append, z11, z1]; omega), ← ByteArray.append_assoc, lightS]
          · have e1 : (k == 1) = false := by simpa using k1
            rw [e1]
            simp only [cond_false]
            by_cases k3 : k = 3
            · subst k3
              refine ⟨str3 ++ itoaS a, ?_, ?_, by rw [ByteArray.size_append, z3]; omega⟩
              · rw [show ((3 : Int) == 3) = true from rfl, cond_true, na, Option.bind_some, if_pos (by rw [z3]; omega)]
              · rw [show ((3 : Int) == 3) = true from rfl, cond_true, if_pos (by rw [ByteArray.size_append, z12, z1]; omega), ← ByteArray.append_assoc, kindsS]
            · have e3 : (k == 3) = false := by simpa using k3
              rw [e3]
              simp only [cond_false]
              by_cases ha0 : a = 0
              · subst ha0
                simp only [bne_self_eq_false, cond_false, beq_self_eq_true, Bool.and_true]
                by_cases k2 : k = 2
                · subst k2; exact ⟨str4, rfl, rfl, by decide⟩
                · have e2 : (k == 2) = false := by simpa using k2
                  rw [e2]
                  by_cases k4 : k = 4
                  · subst k4; exact ⟨str5, rfl, rfl, by decide⟩
                  · have e4 : (k == 4) = false := by simpa using k4
                    rw [e4]
                    exact ⟨_, rfl, rfl, by decide⟩
              · have ea : (a == 0) = false := by simpa using ha0
                have ea' : (a != 0) = true := by simpa using ha0
                rw [ea, ea']
                simp only [Bool.and_false, cond_false, cond_true]
                exact ⟨_, rfl, rfl, by decide⟩
        · have eb : (b == 0) = false := by simpa using hb0
          have eb' : (b != 0) = true := by simpa using hb0
          rw [eb, eb']
          simp only [Bool.and_false, cond_false, cond_true]
          exact ⟨_, rfl, rfl, by decide⟩
    · rw [decide_eq_false hb]
      by_cases c : b < 0
      · rw [cnd_t c]; exact ⟨_, rfl, rfl, by decide⟩
      · rw [cnd_f c, cnd_t (show 99 < b by omega)]; exact ⟨_, rfl, rfl, by decide⟩
  · rw [decide_eq_false ha]
    by_cases c : a < 0
    · rw [cnd_t c]; exact ⟨_, rfl, rfl, by decide⟩
    · rw [cnd_f c, cnd_t (show 99 < a by omega)]; exact ⟨_, rfl, rfl, by decide⟩
end FN

/-! Texts cut at a byte. -/
namespace FN
open Go
def cutL (c : UInt8) : List UInt8 → List (List UInt8)
  | [] => [[]]
  | x :: l => if x = c then [] :: cutL c l else match cutL c l with
    | [] => [[x]]
    | y :: ys => (x :: y) :: ys
theorem cutL_ne (c : UInt8) : ∀ l, cutL c l ≠ []
  | [] => by simp [cutL]
  | x :: l => by
    unfold cutL
    split
    · simp
    · split <;> simp
/-- A beginning put ahead of the first part. -/
def preL (p : List UInt8) : List (List UInt8) → List (List UInt8)
  | [] => [p]
  | y :: ys => (p ++ y) :: ys
theorem cutL_eq (c : UInt8) (l : List UInt8) : cutL c (c :: l) = [] :: cutL c l := by simp [cutL]
theorem cutL_neq {c x : UInt8} (h : x ≠ c) (l : List UInt8) : cutL c (x :: l) = preL [x] (cutL c l) := by
  rw [cutL, if_neg h]
  cases hh : cutL c l with
  | nil => exact absurd hh (cutL_ne c l)
  | cons y ys => rfl
theorem preL_preL (p q : List UInt8) (z : List (List UInt8)) : preL p (preL q z) = preL (p ++ q) z := by
  cases z with
  | nil => rfl
  | cons y ys => simp [preL, List.append_assoc]
theorem preL_nil {z : List (List UInt8)} (h : z ≠ []) : preL [] z = z := by
  cases z with
  | nil => exact absurd rfl h
  | cons y ys => rfl
/-- No such byte in what is ahead. -/
theorem cutL_pre {c : UInt8} : ∀ (a : List UInt8), c ∉ a → ∀ b, cutL c (a ++ b) = preL a (cutL c b)
  | [], _, b => (preL_nil (cutL_ne c b)).symm
  | x :: a, h, b => by
    have h1 : x ≠ c := fun e => h (by rw [e]; simp)
    have h2 : c ∉ a := fun e => h (by simp [e])
    rw [List.cons_append, cutL_neq h1, cutL_pre a h2 b, preL_preL]
    rfl
theorem cutL_one {c : UInt8} {a : List UInt8} (h : c ∉ a) : cutL c a = [a] := by
  have := cutL_pre a h []
  rw [List.append_nil] at this
  rw [this]
  simp [cutL, preL]
theorem cutL_sep {c : UInt8} {a : List UInt8} (h : c ∉ a) (b : List UInt8) : cutL c (a ++ c :: b) = a :: cutL c b := by
  rw [cutL_pre a h, cutL_eq]
  simp [preL]
/-- The library's cut is this one. -/
theorem splitK_cut (c : UInt8) : ∀ l : List UInt8, Lib.splitK [c] 0 (Lib.count l [c]) l = cutL c l
  | [] => by rw [Lib.count_miss (by simp [Lib.index])]; rfl
  | x :: l => by
    have ih := splitK_cut c l
    by_cases h : x = c
    · subst h
      have hix : Lib.index (x :: l) [x] = ((0 : Nat) : Int) := by rw [Lib.index]; simp [List.isPrefixOf]
      rw [Lib.count_cons_eq, Nat.add_comm, Lib.splitK, hix, cutL_eq]
      simp only [List.length_cons, List.length_nil, Nat.zero_add, List.drop_succ_cons, List.drop_zero]
      rw [if_neg (by simp)]
      simp only [show ((0 : Nat) : Int).toNat = 0 from rfl, Nat.add_zero, List.take_zero, List.drop_zero]
      rw [ih]
    · have hp : ([c] : List UInt8).isPrefixOf (x :: l) = false := by simp [List.isPrefixOf, Ne.symm h]
      have hix : Lib.index (x :: l) [c] = if Lib.index l [c] == -1 then -1 else Lib.index l [c] + 1 := by rw [Lib.index, hp]; simp
      rw [Lib.count_cons_ne x c l h, cutL_neq h, ← ih]
      cases hk : Lib.count l [c] with
      | zero => rfl
      | succ k =>
        by_cases hm : Lib.index l [c] = -1
        · rw [Lib.count_miss hm] at hk; cases hk
        · have hge := Lib.index_ge l [c]
          obtain ⟨j, hj⟩ : ∃ j : Nat, Lib.index l [c] = j := ⟨(Lib.index l [c]).toNat, by omega⟩
          rw [Lib.splitK, Lib.splitK, hix, if_neg (by rw [if_neg (by simpa using hm)]; simp; omega), if_neg (by simpa using hm), if_neg (by simpa using hm), hj]
          rw [show ((j : Int) + 1).toNat = j + 1 by omega, show (j : Int).toNat = j by omega]
          simp [preL]
def ofL (l : List UInt8) : ByteArray := ⟨l.toArray⟩
theorem ofL_data (l : List UInt8) : (ofL l).data.toList = l := rfl
theorem of_data (b : ByteArray) : ofL b.data.toList = b := by cases b; simp [ofL]
theorem ofL_size (l : List UInt8) : (ofL l).size = l.length := by simp [ofL, ByteArray.size]
theorem ofL_inj {a b : List UInt8} (h : ofL a = ofL b) : a = b := by
  have := congrArg (fun x : ByteArray => x.data.toList) h
  exact this
theorem toL (b : ByteArray) : b.toList = b.data.toList := by rw [ByteArray.toList_eq]
theorem ofL_app (a b : List UInt8) : ofL a ++ ofL b = ofL (a ++ b) := by
  rw [← of_data (ofL a ++ ofL b)]
  congr 1
theorem map_data : ∀ {a b : List ByteArray}, a.map (·.data.toList) = b.map (·.data.toList) → a = b
  | [], [], _ => rfl
  | x :: a, y :: b, h => by
    simp only [List.map_cons, List.cons.injEq] at h
    rw [map_data h.2, ← of_data x, ← of_data y, h.1]
theorem splitS_cut (s : ByteArray) (c : UInt8) : Lib.splitB ⟨#[c]⟩ 0 (Lib.countB s ⟨#[c]⟩) s = (cutL c s.data.toList).map ofL := by
  apply map_data
  rw [Lib.splitB_data]
  have : (List.map ofL (cutL c s.data.toList)).map (·.data.toList) = cutL c s.data.toList := by
    rw [List.map_map]
    exact (List.map_congr_left fun a _ => ofL_data a).trans (List.map_id _)
  rw [this, ← splitK_cut]
theorem cutL_len (c : UInt8) : ∀ l : List UInt8, (cutL c l).length ≤ l.length + 1
  | [] => by simp [cutL]
  | x :: l => by
    have := cutL_len c l
    by_cases h : x = c
    · subst h; rw [cutL_eq]; simp; omega
    · rw [cutL_neq h]
      cases hz : cutL c l with
      | nil => exact absurd hz (cutL_ne c l)
      | cons y ys => rw [hz] at this; simp [preL] at this ⊢; omega
theorem ext_of (l : List UInt8) (a b : Nat) : (ofL l).extract a b = ofL ((l.take b).drop a) := by
  rw [← of_data ((ofL l).extract a b)]
  congr 1
  rw [Lib.extract_data, ofL_data, List.take_drop]
  rcases Nat.le_total a b with h | h
  · rw [show a + (b - a) = b by omega]
  · rw [List.drop_eq_nil_of_le (by rw [List.length_take]; omega), List.drop_eq_nil_of_le (by rw [List.length_take]; omega)]
end FN

/-! Both cuts, and digits. -/
namespace FN
open Go
theorem cut_loop (L : List UInt8) (c : UInt8) (hL : L.length ≤ 1099511627776) : ∀ k, k ≤ L.length → ∀ (f : Nat) (out : List ByteArray), f ≤ k → out.length ≤ k →
    s_l1Cut_l0 (ofL L) (c.toNat : Int) (f : Int) (k : Int) out = some (out ++ (preL ((L.take k).drop f) (cutL c (L.drop k))).map ofL) := by
  refine advN ?_ fun k hk ih => ?_
  · intro f out hf ho
    rw [s_l1Cut_l0_eq, ofL_size, cnd_f (by omega), s_l1Cut_j1_eq, ofL_size, if_pos ⟨by omega, by omega⟩, if_pos (by simp; omega), ext_of, Int.toNat_natCast]
    simp [cutL, preL]
  · intro f out hf ho
    have hx : L.drop k = L[k] :: L.drop (k + 1) := List.drop_eq_getElem_cons hk
    have hg : List.getD (ByteArray.data (ofL L)).toList ((k : Int)).toNat 0 = L[k] := by
      rw [ofL_data, Int.toNat_natCast, List.getD_eq_getElem?_getD, List.getElem?_eq_getElem hk]; rfl
    rw [s_l1Cut_l0_eq, ofL_size, cnd_t (by omega), if_pos ⟨by omega, by omega⟩, hg, hx, w1 hk (by omega)]
    by_cases hc : L[k] = c
    · rw [beq_t (by rw [hc]), if_pos ⟨by omega, by omega⟩, if_pos ⟨by omega, by omega⟩, if_pos (by simp; omega), ext_of, Int.toNat_natCast, Int.toNat_natCast, ih (k + 1) _ (by omega) (by simp; omega), hc, cutL_eq]
      have e : (L.take (k + 1)).drop (k + 1) = [] := List.drop_eq_nil_of_le (by rw [List.length_take]; omega)
      rw [e, preL_nil (cutL_ne _ _)]
      simp [preL]
    · have hne : (L[k].toNat : Int) ≠ (c.toNat : Int) := fun h => hc (UInt8.toNat_inj.1 (by omega))
      rw [beq_f hne, ih f out (by omega) (by omega), cutL_neq hc, preL_preL]
      have e : (L.take (k + 1)).drop f = (L.take k).drop f ++ [L[k]] := by
        rw [List.take_succ_eq_append_getElem hk, List.drop_append_of_le_length (by rw [List.length_take]; omega)]
      rw [e]
theorem cut_val (L : List UInt8) (c : UInt8) (hL : L.length ≤ 1099511627776) : s_l1Cut_f (ofL L, (c.toNat : Int)) = some ((cutL c L).map ofL) := by
  rw [s_l1Cut_f_eq]
  have := cut_loop L c hL 0 (by omega) 0 [] (by omega) (by simp)
  simp only [List.take_zero, List.drop_nil, List.drop_zero, List.nil_append] at this
  rw [preL_nil (cutL_ne _ _)] at this
  exact this
theorem split_val (L : List UInt8) (c : UInt8) (hL : L.length ≤ 4294967280) : x_strings_Split_f (ofL L, ⟨#[c]⟩) = some ((cutL c L).map ofL) := by
  have e : splitS (ofL L) ⟨#[c]⟩ = (cutL c L).map ofL := splitS_cut (ofL L) c
  have h1 : 1 ≤ (⟨#[c]⟩ : ByteArray).size := Nat.le_refl 1
  have hl : (splitS (ofL L) ⟨#[c]⟩).length = Lib.countB (ofL L) ⟨#[c]⟩ + 1 := Lib.splitB_all _ h1 0 _ _ rfl
  have hlen := cutL_len c L
  unfold x_strings_Split_f
  simp only
  rw [if_pos, e]
  refine ⟨by rw [ofL_size]; omega, h1, hl.symm, ?_⟩
  rw [e, List.length_map]
  show _ ≤ 9223372036854775807
  omega
def dig (x : UInt8) : Int := (x.toNat : Int) - 48
theorem u8lt (x : UInt8) : x.toNat < 256 := x.toNat_lt
theorem dW (x : UInt8) : IntKind.i64.wrap (IntKind.i64.wrap (x.toNat : Int) - 48) = dig x := by
  have := u8lt x
  rw [i64w (n := (x.toNat : Int)) (by omega) (by omega), i64w (by omega) (by omega)]
  rfl
theorem u8w {n : Int} (h0 : 0 ≤ n) (h1 : n ≤ 255) : IntKind.u8.wrap n = n := by
  simp [IntKind.wrap, IntKind.bits, IntKind.signed]
  omega
/-- A byte as a digit. -/
theorem dgt {L : List UInt8} {k : Nat} (hk : k < L.length) : List.getD (ByteArray.data (ofL L)).toList ((k : Int)).toNat 0 = L[k] := by
  rw [ofL_data, Int.toNat_natCast, List.getD_eq_getElem?_getD, List.getElem?_eq_getElem hk]; rfl
theorem digits_step {L : List UInt8} {k : Nat} (hk : k < L.length) (hl : L.length ≤ 6) {n : Int} (hn : 0 ≤ n) (hn' : n ≤ 1000000) : s_l1Digits_l0 (ofL L) n (k : Int) = if 48 ≤ L[k].toNat ∧ L[k].toNat ≤ 57 then s_l1Digits_l0 (ofL L) (10 * n + dig L[k]) ((k + 1 : Nat) : Int) else some (-1) := by
  have hb := u8lt L[k]
  rw [s_l1Digits_l0_eq, ofL_size, cnd_t (by omega), if_pos (inN hk), dgt hk, if_pos (inN hk), if_pos (inN hk), w1 hk (by omega)]
  by_cases h1 : 48 ≤ L[k].toNat
  · rw [cnd_f (by omega)]
    by_cases h2 : L[k].toNat ≤ 57
    · rw [cnd_f (by omega), if_pos ⟨h1, h2⟩, u8w (by omega) (by omega), i64w (n := 10 * n) (by omega) (by omega), i64w (n := (L[k].toNat : Int) - 48) (by omega) (by omega), i64w (by omega) (by omega)]
      rfl
    · rw [cnd_t (by omega), if_neg (by omega)]
  · rw [cnd_t (by omega), if_neg (by omega)]
theorem digits_end {L : List UInt8} {n : Int} : s_l1Digits_l0 (ofL L) n (L.length : Int) = some n := by
  rw [s_l1Digits_l0_eq, ofL_size, cnd_f (by omega)]
theorem digits_one (x : UInt8) : s_l1Digits_f (ofL [x]) = some (if 48 ≤ x.toNat ∧ x.toNat ≤ 57 then dig x else -1) := by
  rw [s_l1Digits_f_eq, ofL_size, l1In_val, Option.bind_some, cnd_f (show ¬ (1 : Int) < (([x] : List UInt8).length : Int) by simp)]
  rw [show (!decide (1 ≤ (([x] : List UInt8).length : Int) ∧ (([x] : List UInt8).length : Int) ≤ 6)) = false from rfl, cond_false]
  have h := digits_step (L := [x]) (k := 0) (by simp) (by simp) (n := 0) (by omega) (by omega)
  have e := digits_end (L := [x]) (n := 10 * 0 + dig x)
  refine h.trans ?_
  by_cases hc : 48 ≤ x.toNat ∧ x.toNat ≤ 57
  · rw [if_pos hc]
    refine (if_pos (show 48 ≤ ([x] : List UInt8)[0].toNat ∧ ([x] : List UInt8)[0].toNat ≤ 57 from hc)).trans (e.trans ?_)
    rw [Int.mul_zero, Int.zero_add]
  · rw [if_neg hc]
    exact if_neg (show ¬ (48 ≤ ([x] : List UInt8)[0].toNat ∧ ([x] : List UInt8)[0].toNat ≤ 57) from hc)
theorem digits_more {L : List UInt8} (h2 : 2 ≤ L.length) (h6 : L.length ≤ 6) : ∀ k, k ≤ L.length → ∀ n : Int, (2 ≤ k → 10 ≤ n) → (k = 1 → 1 ≤ n) → (k = 0 → n = 0 ∧ ∀ h : 0 < L.length, L[0].toNat ≠ 48) → 0 ≤ n → n + 1 ≤ ((10 ^ k : Nat) : Int) → ∃ v : Int, s_l1Digits_l0 (ofL L) n (k : Int) = some v ∧ (v = -1 ∨ 10 ≤ v ∧ v ≤ 999999) := by
  refine advN ?_ fun k hk ih => ?_
  · intro n a1 _ _ _ a5
    refine ⟨n, digits_end, .inr ⟨a1 h2, ?_⟩⟩
    have : (10 : Nat) ^ L.length ≤ 10 ^ 6 := Nat.pow_le_pow_right (by omega) h6
    have e : (10 : Nat) ^ 6 = 1000000 := rfl
    omega
  · intro n a1 a2 a3 a4 a5
    have hp : (10 : Nat) ^ k ≤ 10 ^ 5 := Nat.pow_le_pow_right (by omega) (by omega)
    have e5 : (10 : Nat) ^ 5 = 100000 := rfl
    rw [digits_step hk h6 a4 (by omega)]
    split
    · rename_i hd
      have hdd : dig L[k] = (L[k].toNat : Int) - 48 := rfl
      have hps : (10 : Nat) ^ (k + 1) = 10 ^ k * 10 := Nat.pow_succ 10 k
      refine ih (10 * n + dig L[k]) (fun _ => ?_) (fun h => ?_) (fun h => by omega) (by omega) (by omega)
      · rcases Nat.eq_zero_or_pos k with h0 | h0
        · omega
        · rcases Nat.lt_or_ge k 2 with h1 | h1
          · have := a2 (by omega); omega
          · have := a1 h1; omega
      · have h0 : k = 0 := by omega
        subst h0
        have := (a3 rfl).2 (by omega)
        omega
    · exact ⟨-1, rfl, .inl rfl⟩
theorem digits_other {L : List UInt8} (h : L.length ≠ 1) : ∃ v : Int, s_l1Digits_f (ofL L) = some v ∧ (v = -1 ∨ 10 ≤ v ∧ v ≤ 999999) := by
  rw [s_l1Digits_f_eq, ofL_size, l1In_val, Option.bind_some]
  by_cases hl : 2 ≤ L.length ∧ L.length ≤ 6
  · rw [decide_eq_true (show 1 ≤ (L.length : Int) ∧ (L.length : Int) ≤ 6 by omega), Bool.not_true, cond_false, cnd_t (show (1 : Int) < (L.length : Int) by omega), if_pos (show (0 : Int) ≤ 0 ∧ (0 : Int) < (L.length : Int) by omega)]
    have h0 : 0 < L.length := by omega
    have hg := dgt (L := L) (k := 0) h0
    rw [show List.getD (ByteArray.data (ofL L)).toList ((0 : Int)).toNat 0 = L[0] from hg]
    by_cases c : L[0].toNat = 48
    · rw [beq_t (by omega)]; exact ⟨-1, rfl, .inl rfl⟩
    · rw [beq_f (by omega)]
      exact digits_more hl.1 hl.2 0 (by omega) 0 (fun h => by omega) (fun h => by omega) (fun _ => ⟨rfl, fun _ => c⟩) (by omega) (by simp)
  · rw [decide_eq_false (show ¬ (1 ≤ (L.length : Int) ∧ (L.length : Int) ≤ 6) by omega)]
    exact ⟨-1, rfl, .inl rfl⟩
end FN

/-! Nets, states, places: the program and the reference judge them alike. -/
namespace FN
open Go
structure NetP (l : List Int) : Prop where
  lo : 1 ≤ l.length
  hi : l.length ≤ 6
  rng : ∀ i, i < l.length → 0 ≤ l.getD i 0 ∧ l.getD i 0 < 2 ^ l.length
  sym : ∀ i, i < l.length → ∀ k, k < l.length → bt (l.getD i 0) k = bt (l.getD k 0) i
  self : ∀ i, i < l.length → bt (l.getD i 0) i = 0
instance (l : List Int) : Decidable (NetP l) :=
  decidable_of_iff (1 ≤ l.length ∧ l.length ≤ 6 ∧ (∀ i, i < l.length → 0 ≤ l.getD i 0 ∧ l.getD i 0 < 2 ^ l.length) ∧ (∀ i, i < l.length → ∀ k, k < l.length → bt (l.getD i 0) k = bt (l.getD k 0) i) ∧ (∀ i, i < l.length → bt (l.getD i 0) i = 0))
    ⟨fun ⟨a, b, c, d, e⟩ => ⟨a, b, c, d, e⟩, fun h => ⟨h.1, h.2, h.3, h.4, h.5⟩⟩
theorem inet_inner (l : List Int) (hn : l.length ≤ 6) (i : Nat) (hi : i < l.length) (x : Int) (Q : Prop)
    (hnext : Tells (i_NetOk_l0 l l (l.length : Int) ((i + 1 : Nat) : Int)) Q) : ∀ j, j ≤ l.length → Tells (i_NetOk_l1 l (i : Int) x l (l.length : Int) (i : Int) (l.length : Int) (j : Int)) ((∀ k, j ≤ k → k < l.length → bt x k = bt (l.getD k 0) i) ∧ Q) := by
  refine advN ?_ fun j hj ih => ?_
  · refine (Tells.eq ?_ hnext).iff ⟨fun h => ⟨fun k h1 h2 => by omega, h⟩, fun h => h.2⟩
    rw [i_NetOk_l1_eq, cnd_f (by omega), w1 hi (by omega)]
  · have e : i_NetOk_l1 l (i : Int) x l (l.length : Int) (i : Int) (l.length : Int) (j : Int) = cond (bt x j != bt (l.getD j 0) i) (some false) (i_NetOk_l1 l (i : Int) x l (l.length : Int) (i : Int) (l.length : Int) ((j + 1 : Nat) : Int)) := by
      rw [i_NetOk_l1_eq, cnd_t (by omega), if_neg (by omega), if_pos (inN hj), if_neg (by omega), bit_and x (by omega), gN, bit_and _ (by omega), w1 hj (by omega)]
    by_cases c : bt x j = bt (l.getD j 0) i
    · refine (Tells.eq (e.trans (bne_f c)) ih).iff ⟨fun h => ⟨fun k h1 h2 => ?_, h.2⟩, fun h => ⟨fun k h1 h2 => h.1 k (by omega) h2, h.2⟩⟩
      by_cases he : k = j
      · rw [he]; exact c
      · exact h.1 k (by omega) h2
    · exact Tells.eq (e.trans (bne_t c)) (Tells.no fun h => c (h.1 j (Nat.le_refl j) hj))
theorem inet_outer (l : List Int) (hn : l.length ≤ 6) : ∀ i, i ≤ l.length → Tells (i_NetOk_l0 l l (l.length : Int) (i : Int)) (∀ k, i ≤ k → k < l.length → (0 ≤ l.getD k 0 ∧ l.getD k 0 < 2 ^ l.length ∧ bt (l.getD k 0) k = 0) ∧ ∀ m, m < l.length → bt (l.getD k 0) m = bt (l.getD m 0) k) := by
  refine advN ?_ fun i hi ih => ?_
  · refine Tells.eq ?_ (Tells.yes fun k h1 h2 => by omega)
    rw [i_NetOk_l0_eq, cnd_f (by omega)]
  · have e : i_NetOk_l0 l l (l.length : Int) (i : Int) = cond (decide (l.getD i 0 < 0)) (some false) (cond (decide (2 ^ l.length ≤ l.getD i 0)) (some false) (cond (bt (l.getD i 0) i == 1) (some false) (i_NetOk_l1 l (i : Int) (l.getD i 0) l (l.length : Int) (i : Int) (l.length : Int) ((0 : Nat) : Int)))) := by
      rw [i_NetOk_l0_eq, cnd_t (by omega), if_pos (inN hi), if_neg (by omega), if_neg (by omega), sh1 (by omega), bit_and _ (by omega), gN]; rfl
    rw [e]
    by_cases a1 : l.getD i 0 < 0
    · rw [cnd_t a1]; exact Tells.no fun h => by have := (h i (Nat.le_refl i) hi).1.1; omega
    rw [cnd_f a1]
    by_cases a2 : 2 ^ l.length ≤ l.getD i 0
    · rw [cnd_t a2]; exact Tells.no fun h => by have := (h i (Nat.le_refl i) hi).1.2.1; omega
    rw [cnd_f a2]
    by_cases a3 : bt (l.getD i 0) i = 1
    · rw [beq_t a3]; exact Tells.no fun h => by have := (h i (Nat.le_refl i) hi).1.2.2; omega
    rw [beq_f a3]
    refine (inet_inner l hn i hi _ _ ih 0 (by omega)).iff ⟨fun h k h1 h2 => ?_, fun h => ⟨fun k _ h2 => (h i (Nat.le_refl i) hi).2 k h2, fun k h1 h2 => h k (by omega) h2⟩⟩
    by_cases he : k = i
    · subst he
      exact ⟨⟨by omega, by omega, by have := bt01 (l.getD k 0) k; omega⟩, fun m hm => h.1 m (by omega) hm⟩
    · exact h.2 k (by omega) h2
theorem inet (l : List Int) : i_NetOk_f l = some (decide (NetP l)) := by
  apply Tells.val
  rw [i_NetOk_f_eq]
  by_cases h1 : (l.length : Int) < 1
  · rw [cnd_t h1]; exact Tells.no fun h => by have := h.lo; omega
  rw [cnd_f h1]
  by_cases h2 : 6 < (l.length : Int)
  · rw [cnd_t h2]; exact Tells.no fun h => by have := h.hi; omega
  rw [cnd_f h2]
  refine (inet_outer l (by omega) 0 (by omega)).iff ⟨fun h => ?_, fun h => ?_⟩
  · exact ⟨by omega, by omega, fun i a => ⟨(h i (by omega) a).1.1, (h i (by omega) a).1.2.1⟩, fun i a k b => (h i (by omega) a).2 k b, fun i a => (h i (by omega) a).1.2.2⟩
  · exact fun i _ a => ⟨⟨(h.rng i a).1, (h.rng i a).2, h.self i a⟩, fun m b => h.sym i a m b⟩
/-! the reference -/
theorem snet_inner (l : List Int) (hn : l.length ≤ 6) (hr : ∀ i, i < l.length → 0 ≤ l.getD i 0 ∧ l.getD i 0 < 2 ^ l.length) (i : Nat) (hi : i < l.length) (Q : Prop)
    (hnext : Tells (s_NetOk_l2 l ((i + 1 : Nat) : Int)) Q) : ∀ j, j ≤ l.length → Tells (s_NetOk_l3 l (i : Int) (j : Int)) ((∀ k, j ≤ k → k < l.length → bt (l.getD i 0) k = bt (l.getD k 0) i ∧ (k = i → bt (l.getD i 0) k ≠ 1)) ∧ Q) := by
  refine advN ?_ fun j hj ih => ?_
  · refine (Tells.eq ?_ hnext).iff ⟨fun h => ⟨fun k h1 h2 => by omega, h⟩, fun h => h.2⟩
    rw [s_NetOk_l3_eq, cnd_f (by omega), w1 hi (by omega)]
  · have e : s_NetOk_l3 l (i : Int) (j : Int) = cond (bt (l.getD i 0) j != bt (l.getD j 0) i) (some false) (cond ((j : Int) == (i : Int)) (cond (bt (l.getD i 0) j == 1) (some false) (s_NetOk_l3 l (i : Int) ((j + 1 : Nat) : Int))) (s_NetOk_l3 l (i : Int) ((j + 1 : Nat) : Int))) := by
      rw [s_NetOk_l3_eq, cnd_t (by omega), if_pos (inN hi), if_neg (by omega), if_pos (inN hj), if_neg (by omega), if_pos (inN hi), if_neg (by omega), gN, gN, bit_mod (hr i hi).1 (by omega), bit_mod (hr j hj).1 (by omega), w1 hj (by omega)]
    rw [e]
    by_cases c : bt (l.getD i 0) j = bt (l.getD j 0) i
    · rw [bne_f c]
      by_cases d : j = i
      · rw [beq_t (by omega)]
        by_cases f : bt (l.getD i 0) j = 1
        · rw [beq_t f]; exact Tells.no fun h => (h.1 j (Nat.le_refl j) hj).2 d f
        · rw [beq_f f]
          refine ih.iff ⟨fun h => ⟨fun k h1 h2 => ?_, h.2⟩, fun h => ⟨fun k h1 h2 => h.1 k (by omega) h2, h.2⟩⟩
          by_cases he : k = j
          · rw [he]; exact ⟨c, fun _ => f⟩
          · exact h.1 k (by omega) h2
      · rw [beq_f (by omega)]
        refine ih.iff ⟨fun h => ⟨fun k h1 h2 => ?_, h.2⟩, fun h => ⟨fun k h1 h2 => h.1 k (by omega) h2, h.2⟩⟩
        by_cases he : k = j
        · rw [he]; exact ⟨c, fun hh => absurd hh d⟩
        · exact h.1 k (by omega) h2
    · rw [bne_t c]; exact Tells.no fun h => c (h.1 j (Nat.le_refl j) hj).1
theorem snet_outer (l : List Int) (hn : l.length ≤ 6) (hr : ∀ i, i < l.length → 0 ≤ l.getD i 0 ∧ l.getD i 0 < 2 ^ l.length) : ∀ i, i ≤ l.length → Tells (s_NetOk_l2 l (i : Int)) (∀ k, i ≤ k → k < l.length → bt (l.getD k 0) k = 0 ∧ ∀ m, m < l.length → bt (l.getD k 0) m = bt (l.getD m 0) k) := by
  refine advN ?_ fun i hi ih => ?_
  · refine Tells.eq ?_ (Tells.yes fun k h1 h2 => by omega)
    rw [s_NetOk_l2_eq, cnd_f (by omega)]
  · rw [s_NetOk_l2_eq, cnd_t (by omega)]
    refine (snet_inner l hn hr i hi _ ih 0 (by omega)).iff ⟨fun h k h1 h2 => ?_, fun h => ⟨fun k _ h2 => ⟨(h i (Nat.le_refl i) hi).2 k h2, fun he => ?_⟩, fun k h1 h2 => h k (by omega) h2⟩⟩
    · by_cases he : k = i
      · subst he
        exact ⟨by have := bt01 (l.getD k 0) k; have := (h.1 k (by omega) hi).2 rfl; omega, fun m hm => (h.1 m (by omega) hm).1⟩
      · exact h.2 k (by omega) h2
    · subst he
      have := (h k (Nat.le_refl k) hi).1
      omega
theorem snet_rng (l : List Int) (hn : l.length ≤ 6) (Q : Prop) (hj : (∀ i, i < l.length → 0 ≤ l.getD i 0 ∧ l.getD i 0 < 2 ^ l.length) → Tells (s_NetOk_j1 l) Q) :
    ∀ i, i ≤ l.length → (∀ k, k < i → 0 ≤ l.getD k 0 ∧ l.getD k 0 < 2 ^ l.length) → Tells (s_NetOk_l0 l (i : Int)) ((∀ k, i ≤ k → k < l.length → 0 ≤ l.getD k 0 ∧ l.getD k 0 < 2 ^ l.length) ∧ Q) := by
  refine advN ?_ fun i hi ih => ?_
  · intro hp
    refine (Tells.eq ?_ (hj hp)).iff ⟨fun h => ⟨fun k h1 h2 => by omega, h⟩, fun h => h.2⟩
    rw [s_NetOk_l0_eq, cnd_f (by omega)]
  · intro hp
    have hpow := pow6 hn
    have e : s_NetOk_l0 l (i : Int) = cond (!decide (0 ≤ l.getD i 0 ∧ l.getD i 0 ≤ 2 ^ l.length - 1)) (some false) (s_NetOk_l0 l ((i + 1 : Nat) : Int)) := by
      rw [s_NetOk_l0_eq, cnd_t (by omega), if_pos (inN hi), if_neg (by omega), sh1 (by omega), gN, wsub (by omega) (by omega), l1In_val, Option.bind_some, w1 hi (by omega)]
    rw [e]
    by_cases c : 0 ≤ l.getD i 0 ∧ l.getD i 0 ≤ 2 ^ l.length - 1
    · rw [decide_eq_true c]
      refine (ih fun k hk => ?_).iff ⟨fun h => ⟨fun k h1 h2 => ?_, h.2⟩, fun h => ⟨fun k h1 h2 => h.1 k (by omega) h2, h.2⟩⟩
      · by_cases he : k = i
        · subst he; omega
        · exact hp k (by omega)
      · by_cases he : k = i
        · subst he; omega
        · exact h.1 k (by omega) h2
    · rw [decide_eq_false c]
      exact Tells.no fun h => c (by have := h.1 i (Nat.le_refl i) hi; omega)
theorem snet (l : List Int) : s_NetOk_f l = some (decide (NetP l)) := by
  apply Tells.val
  rw [s_NetOk_f_eq, l1In_val, Option.bind_some]
  by_cases h1 : 1 ≤ (l.length : Int) ∧ (l.length : Int) ≤ 6
  · rw [decide_eq_true h1]
    refine (snet_rng l (by omega) (∀ k, k < l.length → bt (l.getD k 0) k = 0 ∧ ∀ m, m < l.length → bt (l.getD k 0) m = bt (l.getD m 0) k) (fun hr => ?_) 0 (by omega) (fun k hk => by omega)).iff ⟨fun h => ?_, fun h => ?_⟩
    · rw [s_NetOk_j1_eq]
      exact (snet_outer l (by omega) hr 0 (by omega)).iff ⟨fun h k => h k (by omega), fun h k _ => h k⟩
    · exact ⟨by omega, by omega, fun i a => h.1 i (by omega) a, fun i a k b => (h.2 i a).2 k b, fun i a => (h.2 i a).1⟩
    · exact ⟨fun k _ => h.rng k, fun k a => ⟨h.self k a, fun m b => h.sym k a m b⟩⟩
  · rw [decide_eq_false h1]
    exact Tells.no fun h => h1 (by have := h.lo; have := h.hi; omega)
/-! states -/
def StP (k : Int) (s : List Int) : Prop := (∀ i, i < s.length → 0 ≤ s.getD i 0 ∧ s.getD i 0 < k) ∧ 3 ≤ k ∧ k ≤ 5 ∧ 1 ≤ s.length ∧ s.length ≤ 6
instance (k : Int) (s : List Int) : Decidable (StP k s) := inferInstanceAs (Decidable (_ ∧ _))
theorem ist (k : Int) (s : List Int) (hs : s.length ≤ 4611686018427387904) : i_StateOk_f (k, s) = some (decide (StP k s)) := by
  apply Tells.val
  rw [i_StateOk_f_eq]
  have hj : Tells (i_StateOk_j1 k s) (3 ≤ k ∧ k ≤ 5 ∧ 1 ≤ s.length ∧ s.length ≤ 6) := by
    rw [i_StateOk_j1_eq]
    by_cases a : 3 ≤ k
    · rw [cnd_t a]
      by_cases b : k ≤ 5
      · rw [cnd_t b]
        by_cases c : 1 ≤ (s.length : Int)
        · rw [cnd_t c]
          exact Tells.dec.iff ⟨fun h => ⟨a, b, by omega, by omega⟩, fun h => by omega⟩
        · rw [cnd_f c]; exact Tells.no fun h => by omega
      · rw [cnd_f b]; exact Tells.no fun h => by omega
    · rw [cnd_f a]; exact Tells.no fun h => by omega
  have main : ∀ i, i ≤ s.length → Tells (i_StateOk_l0 k s s (s.length : Int) (i : Int)) ((∀ j, i ≤ j → j < s.length → 0 ≤ s.getD j 0 ∧ s.getD j 0 < k) ∧ (3 ≤ k ∧ k ≤ 5 ∧ 1 ≤ s.length ∧ s.length ≤ 6)) := by
    refine advN ?_ fun i hi ih => ?_
    · refine (Tells.eq ?_ hj).iff ⟨fun h => ⟨fun j h1 h2 => by omega, h⟩, fun h => h.2⟩
      rw [i_StateOk_l0_eq, cnd_f (by omega)]
    · have e : i_StateOk_l0 k s s (s.length : Int) (i : Int) = cond (decide (s.getD i 0 < 0)) (some false) (cond (decide (k ≤ s.getD i 0)) (some false) (i_StateOk_l0 k s s (s.length : Int) ((i + 1 : Nat) : Int))) := by
        rw [i_StateOk_l0_eq, cnd_t (by omega), if_pos (inN hi), gN, w1 hi (by omega)]
      rw [e]
      by_cases a : s.getD i 0 < 0
      · rw [cnd_t a]; exact Tells.no fun h => by have := h.1 i (Nat.le_refl i) hi; omega
      rw [cnd_f a]
      by_cases b : k ≤ s.getD i 0
      · rw [cnd_t b]; exact Tells.no fun h => by have := h.1 i (Nat.le_refl i) hi; omega
      rw [cnd_f b]
      refine ih.iff ⟨fun h => ⟨fun j h1 h2 => ?_, h.2⟩, fun h => ⟨fun j h1 h2 => h.1 j (by omega) h2, h.2⟩⟩
      by_cases he : j = i
      · subst he; omega
      · exact h.1 j (by omega) h2
  exact (main 0 (by omega)).iff ⟨fun h => ⟨fun i a => h.1 i (by omega) a, h.2⟩, fun h => ⟨fun i _ a => h.1 i a, h.2⟩⟩
theorem sst (k : Int) (s : List Int) (hs : s.length ≤ 4611686018427387904) : s_StateOk_f (k, s) = some (decide (StP k s)) := by
  apply Tells.val
  rw [s_StateOk_f_eq]
  have hj : Tells (s_StateOk_j1 k s) (3 ≤ k ∧ k ≤ 5 ∧ 1 ≤ s.length ∧ s.length ≤ 6) := by
    rw [s_StateOk_j1_eq, l1In_val, l1In_val, Option.bind_some, Option.bind_some]
    by_cases a : 3 ≤ k ∧ k ≤ 5
    · rw [decide_eq_true a]
      exact Tells.dec.iff ⟨fun h => ⟨a.1, a.2, by omega, by omega⟩, fun h => by omega⟩
    · rw [decide_eq_false a]; exact Tells.no fun h => a ⟨h.1, h.2.1⟩
  have main : ∀ i, i ≤ s.length → Tells (s_StateOk_l0 k s (i : Int)) ((∀ j, i ≤ j → j < s.length → 0 ≤ s.getD j 0 ∧ s.getD j 0 < k) ∧ (3 ≤ k ∧ k ≤ 5 ∧ 1 ≤ s.length ∧ s.length ≤ 6)) := by
    refine advN ?_ fun i hi ih => ?_
    · refine (Tells.eq ?_ hj).iff ⟨fun h => ⟨fun j h1 h2 => by omega, h⟩, fun h => h.2⟩
      rw [s_StateOk_l0_eq, cnd_f (by omega)]
    · have e : s_StateOk_l0 k s (i : Int) = cond (decide (s.getD i 0 < 0)) (some false) (cond (decide (k ≤ s.getD i 0)) (some false) (s_StateOk_l0 k s ((i + 1 : Nat) : Int))) := by
        rw [s_StateOk_l0_eq, cnd_t (by omega), if_pos (inN hi), if_pos (inN hi), gN, w1 hi (by omega)]
      rw [e]
      by_cases a : s.getD i 0 < 0
      · rw [cnd_t a]; exact Tells.no fun h => by have := h.1 i (Nat.le_refl i) hi; omega
      rw [cnd_f a]
      by_cases b : k ≤ s.getD i 0
      · rw [cnd_t b]; exact Tells.no fun h => by have := h.1 i (Nat.le_refl i) hi; omega
      rw [cnd_f b]
      refine ih.iff ⟨fun h => ⟨fun j h1 h2 => ?_, h.2⟩, fun h => ⟨fun j h1 h2 => h.1 j (by omega) h2, h.2⟩⟩
      by_cases he : j = i
      · subst he; omega
      · exact h.1 j (by omega) h2
  exact (main 0 (by omega)).iff ⟨fun h => ⟨fun i a => h.1 i (by omega) a, h.2⟩, fun h => ⟨fun i _ a => h.1 i a, h.2⟩⟩
/-! places -/
def PlP (n : List Int) (k : Int) (s : List Int) : Prop := NetP n ∧ StP k s ∧ n.length = s.length
instance (n : List Int) (k : Int) (s : List Int) : Decidable (PlP n k s) := inferInstanceAs (Decidable (_ ∧ _))
theorem iasked (n : List Int) (k : Int) (s : List Int) (hs : s.length ≤ 4611686018427387904) : i_asked_f (n, k, s) = some (decide (PlP n k s)) := by
  apply Tells.val
  rw [i_asked_f_eq, inet, Option.bind_some]
  by_cases a : NetP n
  · rw [decide_eq_true a, ist k s hs]
    by_cases b : StP k s
    · rw [decide_eq_true b]
      exact Tells.now.iff ⟨fun h => ⟨a, b, by have := eq_of_beq h; omega⟩, fun h => by have := h.2.2; simp [this]⟩
    · rw [decide_eq_false b]; exact Tells.no fun h => b h.2.1
  · rw [decide_eq_false a]; exact Tells.no fun h => a h.1
theorem sl3 (n : List Int) (k : Int) (s : List Int) (hs : s.length ≤ 4611686018427387904) : s_l3Ok_f (n, k, s) = some (decide (PlP n k s)) := by
  apply Tells.val
  rw [s_l3Ok_f_eq, snet, Option.bind_some]
  by_cases a : NetP n
  · rw [decide_eq_true a, sst k s hs]
    by_cases b : StP k s
    · rw [decide_eq_true b]
      exact Tells.now.iff ⟨fun h => ⟨a, b, by have := eq_of_beq h; omega⟩, fun h => by have := h.2.2; simp [this]⟩
    · rw [decide_eq_false b]; exact Tells.no fun h => b h.2.1
  · rw [decide_eq_false a]; exact Tells.no fun h => a h.1
theorem ipl (n : List Int) (k : Int) (s : List Int) (hs : s.length ≤ 4611686018427387904) : i_PlaceOk_f (n, k, s) = some (decide (PlP n k s)) := by
  rw [i_PlaceOk_f_eq, iasked n k s hs]; rfl
theorem spl (n : List Int) (k : Int) (s : List Int) (hs : s.length ≤ 4611686018427387904) : s_PlaceOk_f (n, k, s) = some (decide (PlP n k s)) := by
  rw [s_PlaceOk_f_eq, sl3 n k s hs]; rfl
end FN

namespace FN
open Go
theorem ba_app (a b : ByteArray) : (a ++ b).data.toList = a.data.toList ++ b.data.toList := by simp
theorem joinS_nil (sep : ByteArray) : joinS [] sep = ByteArray.empty := rfl
theorem joinS_one (t sep : ByteArray) : joinS [t] sep = t := by
  apply ba_ext
  simp [joinS, Lib.join_one]
theorem joinS_snoc {xs : List ByteArray} (h : xs ≠ []) (t sep : ByteArray) : joinS (xs ++ [t]) sep = joinS xs sep ++ sep ++ t := by
  cases xs with
  | nil => exact absurd rfl h
  | cons x r =>
    apply ba_ext
    simp [joinS, Lib.join_cons, Lib.joinTail]
end FN

