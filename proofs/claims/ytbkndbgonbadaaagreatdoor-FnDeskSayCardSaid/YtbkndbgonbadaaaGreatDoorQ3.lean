/- Texts of the proof, joined: parts -/
import Derived.Test.YtbkndbgonbadaaaGreatDoorQ1
import Derived.Test.YtbkndbgonbadaaaGreatDoorQ2
import Derived.Test.YtbkndbgonbadaaaGreatDoorJ4
import Derived.Test.YtbkndbgonbadaaaGreatDoorK0
set_option linter.unusedVariables false
set_option linter.unusedSimpArgs false
set_option linter.unusedSectionVars false
/-! The texts of deeds, told; and cut. -/
namespace FN
open Go
def dtx (k a b : Int) : ByteArray :=
  if 0 ≤ a ∧ a ≤ 99 ∧ 0 ≤ b ∧ b ≤ 99 then
    (if k = 0 then ((str0 ++ itoaS a) ++ str1) ++ itoaS b else if b ≠ 0 then ByteArray.empty else if k = 1 then str2 ++ itoaS a else if k = 3 then str3 ++ itoaS a else if a ≠ 0 then ByteArray.empty else if k = 2 then str4 else if k = 4 then str5 else ByteArray.empty)
  else ByteArray.empty
theorem sdeed_val (k a b : Int) : s_DeedText_f (k, a, b) = some (dtx k a b) := by
  rw [s_DeedText_f_eq, l1In_val, Option.bind_some]
  by_cases ha : 0 ≤ a ∧ a ≤ 99
  · rw [decide_eq_true ha, l1In_val, Option.bind_some, Bool.not_true, cond_false]
    by_cases hb : 0 ≤ b ∧ b ≤ 99
    · rw [decide_eq_true hb, Bool.not_true, cond_false]
      unfold dtx
      rw [if_pos (show 0 ≤ a ∧ a ≤ 99 ∧ 0 ≤ b ∧ b ≤ 99 from ⟨ha.1, ha.2, hb⟩)]
      obtain ⟨z0, z1, z2, z3, z10, z11, z12⟩ := szs
      have sa := itoa_size ha.1 (show a < 100 by omega)
      have sb := itoa_size hb.1 (show b < 100 by omega)
      have na := num_val ha.1 (show a < 100 by omega)
      have nb := num_val hb.1 (show b < 100 by omega)
      by_cases k0 : k = 0
      · subst k0
        rw [if_pos rfl]
        simp only [beq_self_eq_true, Bool.true_and, cond_true]
        rw [na, Option.bind_some, if_pos (by rw [z0]; omega), if_pos (by rw [ByteArray.size_append, z0, z1]; omega), nb, Option.bind_some, if_pos (by rw [ByteArray.size_append, ByteArray.size_append, z0, z1]; omega)]
      · have e0 : (k == 0) = false := by simpa using k0
        rw [e0, if_neg k0]
        simp only [Bool.false_and, cond_false, beq_self_eq_true, Bool.true_and, Bool.and_true]
        by_cases hb0 : b = 0
        · subst hb0
          rw [if_neg (by simp)]
          simp only [beq_self_eq_true, Bool.and_true]
          by_cases k1 : k = 1
          · subst k1
            rw [if_pos rfl, show ((1 : Int) == 1) = true from rfl, cond_true, na, Option.bind_some, if_pos (by rw [z2]; omega)]
          · have e1 : (k == 1) = false := by simpa using k1
            rw [e1, if_neg k1]
            simp only [cond_false]
            by_cases k3 : k = 3
            · subst k3
              rw [if_pos rfl, show ((3 : Int) == 3) = true from rfl, cond_true, na, Option.bind_some, if_pos (by rw [z3]; omega)]
            · have e3 : (k == 3) = false := by simpa using k3
              rw [e3, if_neg k3]
              simp only [cond_false]
              by_cases ha0 : a = 0
              · subst ha0
                rw [if_neg (by simp)]
                simp only [beq_self_eq_true, Bool.and_true]
                by_cases k2 : k = 2
                · subst k2; rfl
                · have e2 : (k == 2) = false := by simpa using k2
                  rw [e2, if_neg k2]
                  by_cases k4 : k = 4
                  · subst k4; rfl
                  · have e4 : (k == 4) = false := by simpa using k4
                    rw [e4, if_neg k4]
                    rfl
              · have ea : (a == 0) = false := by simpa using ha0
                rw [ea, if_pos ha0]
                simp only [Bool.and_false, cond_false]
        · have eb : (b == 0) = false := by simpa using hb0
          rw [eb, if_pos hb0]
          simp only [Bool.and_false, cond_false]
    · rw [decide_eq_false hb]
      unfold dtx
      rw [if_neg (fun h => hb h.2.2)]
      rfl
  · rw [decide_eq_false ha]
    unfold dtx
    rw [if_neg (fun h => ha ⟨h.1, h.2.1⟩)]
    rfl
theorem deed_val (k a b : Int) : s_DeedText_f (k, a, b) = some (dtx k a b) ∧ i_DeedText_f (k, a, b) = some (dtx k a b) ∧ (dtx k a b).size ≤ 20 := by
  obtain ⟨s, h1, h2, h3⟩ := deedText_same k a b
  have h4 := sdeed_val k a b
  rw [h1] at h4
  have h5 := Option.some.inj h4
  subst h5
  exact ⟨h1, h2, h3⟩
/-- Numerals below a hundred: without spaces, and what their digits come to. -/
theorem it_d : (List.range 100).all (fun a => decide ((32 : UInt8) ∉ (itoaS (a : Int)).data.toList) && decide ((10 : UInt8) ∉ (itoaS (a : Int)).data.toList) && decide (1 ≤ (itoaS (a : Int)).data.toList.length ∧ (itoaS (a : Int)).data.toList.length ≤ 2) && decide (if (itoaS (a : Int)).data.toList.length = 1 then (48 ≤ ((itoaS (a : Int)).data.toList.getD 0 0).toNat ∧ ((itoaS (a : Int)).data.toList.getD 0 0).toNat ≤ 57 ∧ dig ((itoaS (a : Int)).data.toList.getD 0 0) = (a : Int)) else (48 ≤ ((itoaS (a : Int)).data.toList.getD 0 0).toNat ∧ ((itoaS (a : Int)).data.toList.getD 0 0).toNat ≤ 57 ∧ ((itoaS (a : Int)).data.toList.getD 0 0).toNat ≠ 48 ∧ 48 ≤ ((itoaS (a : Int)).data.toList.getD 1 0).toNat ∧ ((itoaS (a : Int)).data.toList.getD 1 0).toNat ≤ 57 ∧ 10 * dig ((itoaS (a : Int)).data.toList.getD 0 0) + dig ((itoaS (a : Int)).data.toList.getD 1 0) = (a : Int)))) = true := by kernel_rfl
theorem it_l {a : Int} (h0 : 0 ≤ a) (h1 : a ≤ 99) : (32 : UInt8) ∉ (itoaS a).data.toList ∧ (10 : UInt8) ∉ (itoaS a).data.toList ∧ ((∃ x, (itoaS a).data.toList = [x] ∧ 48 ≤ x.toNat ∧ x.toNat ≤ 57 ∧ dig x = a) ∨ ∃ x y, (itoaS a).data.toList = [x, y] ∧ 48 ≤ x.toNat ∧ x.toNat ≤ 57 ∧ x.toNat ≠ 48 ∧ 48 ≤ y.toNat ∧ y.toNat ≤ 57 ∧ 10 * dig x + dig y = a) := by
  obtain ⟨m, rfl⟩ : ∃ m : Nat, a = m := ⟨a.toNat, by omega⟩
  have h2 := List.all_eq_true.1 it_d m (List.mem_range.2 (by omega))
  simp only [Bool.and_eq_true, decide_eq_true_eq] at h2
  obtain ⟨⟨⟨h3, h4⟩, h5⟩, h6⟩ := h2
  refine ⟨h3, h4, ?_⟩
  generalize (itoaS (m : Int)).data.toList = l at h5 h6
  match l, h5, h6 with
  | [x], _, h6 => exact .inl ⟨x, rfl, by simpa using h6⟩
  | [x, y], _, h6 => exact .inr ⟨x, y, rfl, by simpa using h6⟩
theorem digits_itoa {a : Int} (h0 : 0 ≤ a) (h1 : a ≤ 99) : s_l1Digits_f (itoaS a) = some a := by
  obtain ⟨_, _, h⟩ := it_l h0 h1
  rw [← of_data (itoaS a)]
  rcases h with ⟨x, e, a1, a2, a3⟩ | ⟨x, y, e, a1, a2, a3, a4, a5, a6⟩
  · rw [e, digits_one, if_pos ⟨a1, a2⟩, a3]
  · have hd : dig x = (x.toNat : Int) - 48 := rfl
    rw [e, s_l1Digits_f_eq, ofL_size, l1In_val, Option.bind_some, show (!decide (1 ≤ (([x, y] : List UInt8).length : Int) ∧ (([x, y] : List UInt8).length : Int) ≤ 6)) = false from rfl, cond_false, cnd_t (show (1 : Int) < (([x, y] : List UInt8).length : Int) by simp), if_pos (by simp)]
    rw [show List.getD (ByteArray.data (ofL [x, y])).toList (0 : Int).toNat 0 = x from rfl, beq_f (by omega)]
    have s1 := digits_step (L := [x, y]) (k := 0) (by simp) (by simp) (n := 0) (by omega) (by omega)
    have s2 := digits_step (L := [x, y]) (k := 1) (by simp) (by simp) (n := 10 * 0 + dig x) (by omega) (by omega)
    have s3 := digits_end (L := [x, y]) (n := 10 * (10 * 0 + dig x) + dig y)
    refine (s1.trans (if_pos ⟨a1, a2⟩)).trans ((s2.trans (if_pos ⟨a4, a5⟩)).trans (s3.trans ?_))
    rw [Int.mul_zero, Int.zero_add, a6]
end FN

/-! Deeds read: the program's and the reference's answer. -/
namespace FN
open Go
theorem beq_b {a b : ByteArray} {α : Type} {x y : α} : cond (ByteArray.toList a == ByteArray.toList b) x y = if a = b then x else y := by
  rw [toL, toL]
  by_cases h : a = b
  · rw [if_pos h, h]; simp
  · rw [if_neg h]
    have : (a.data.toList == b.data.toList) = false := by
      rw [beq_eq_false_iff_ne]
      intro e
      exact h (ba_ext e)
    rw [this]; rfl
theorem nbeq_b {a b : ByteArray} {α : Type} {x y : α} : cond (!(ByteArray.toList a == ByteArray.toList b)) x y = if a = b then y else x := by
  rw [show cond (!(ByteArray.toList a == ByteArray.toList b)) x y = cond (ByteArray.toList a == ByteArray.toList b) y x by cases (ByteArray.toList a == ByteArray.toList b) <;> rfl, beq_b]
def idx (w : ByteArray) : Int := if w = str10 then 0 else if w = str11 then 1 else if w = str4 then 2 else if w = str12 then 3 else if w = str5 then 4 else -1
abbrev wds : List ByteArray := [str10, str11, str4, str12, str5]
theorem index_val (w : ByteArray) : x_slices_Index_string_string_f (wds, w) = some (idx w) := by
  have w0 : IntKind.i64.wrap (0 + 1) = 1 := by decide
  have w1 : IntKind.i64.wrap (1 + 1) = 2 := by decide
  have w2 : IntKind.i64.wrap (2 + 1) = 3 := by decide
  have w3 : IntKind.i64.wrap (3 + 1) = 4 := by decide
  have w4 : IntKind.i64.wrap (4 + 1) = 5 := by decide
  have hl : (List.length wds : Int) = 5 := rfl
  rw [x_slices_Index_string_string_f_eq, hl]
  unfold idx
  rw [x_slices_Index_string_string_l0_eq, cnd_t (by omega), if_pos (by rw [hl]; omega), show List.getD wds (0 : Int).toNat ByteArray.empty = str10 from rfl, beq_b, w0]
  by_cases h : w = str10
  · rw [if_pos h, if_pos h]
  rw [if_neg h, if_neg h, x_slices_Index_string_string_l0_eq, cnd_t (by omega), if_pos (by rw [hl]; omega), show List.getD wds (1 : Int).toNat ByteArray.empty = str11 from rfl, beq_b, w1]
  by_cases h : w = str11
  · rw [if_pos h, if_pos h]
  rw [if_neg h, if_neg h, x_slices_Index_string_string_l0_eq, cnd_t (by omega), if_pos (by rw [hl]; omega), show List.getD wds (2 : Int).toNat ByteArray.empty = str4 from rfl, beq_b, w2]
  by_cases h : w = str4
  · rw [if_pos h, if_pos h]
  rw [if_neg h, if_neg h, x_slices_Index_string_string_l0_eq, cnd_t (by omega), if_pos (by rw [hl]; omega), show List.getD wds (3 : Int).toNat ByteArray.empty = str12 from rfl, beq_b, w3]
  by_cases h : w = str12
  · rw [if_pos h, if_pos h]
  rw [if_neg h, if_neg h, x_slices_Index_string_string_l0_eq, cnd_t (by omega), if_pos (by rw [hl]; omega), show List.getD wds (4 : Int).toNat ByteArray.empty = str5 from rfl, beq_b, w4]
  by_cases h : w = str5
  · rw [if_pos h, if_pos h]
  rw [if_neg h, if_neg h, x_slices_Index_string_string_l0_eq, cnd_f (by omega)]
theorem idx_rng (w : ByteArray) : -1 ≤ idx w ∧ idx w ≤ 4 := by
  unfold idx
  repeat' split
  all_goals omega
abbrev noD : Int × Int × Int × Bool := (0, 0, 0, false)
theorem atoi_val {w : ByteArray} (h : w.size ≤ 281474976710656) : x_strconv_Atoi_f w = some (atoiV w, ()) := if_pos h
theorem atoi_d : (List.range 100).all (fun a => decide (atoiV (itoaS (a : Int)) = (a : Int))) = true := by kernel_rfl
theorem atoi_itoa {a : Int} (h0 : 0 ≤ a) (h1 : a ≤ 99) : atoiV (itoaS a) = a := by
  obtain ⟨m, rfl⟩ : ∃ m : Nat, a = m := ⟨a.toNat, by omega⟩
  have := List.all_eq_true.1 atoi_d m (List.mem_range.2 (by omega))
  simpa using this
theorem i_j1 (S : ByteArray) (y1 y2 y3 k a b : Int) : i_ReadDeed_j1 S y1 y2 y3 k a b = some (if dtx k a b = S then (k, a, b, true) else noD) := by
  rw [i_ReadDeed_j1_eq, (deed_val k a b).2.1, Option.bind_some, nbeq_b]
  split <;> rfl
/-- A part's place. -/
theorem gW {W : List (List UInt8)} {i : Nat} {p : List UInt8} (h : W[i]? = some p) : List.getD (W.map ofL) ((i : Int)).toNat ByteArray.empty = ofL p := by
  rw [Int.toNat_natCast, List.getD_eq_getElem?_getD, List.getElem?_map, h]; rfl
def prt (W : List (List UInt8)) (i : Nat) : ByteArray := ofL (W.getD i [])
theorem gW' {W : List (List UInt8)} {i : Nat} (h : i < W.length) : List.getD (W.map ofL) ((i : Int)).toNat ByteArray.empty = prt W i := by
  rw [gW (List.getElem?_eq_getElem h)]
  unfold prt
  rw [List.getD_eq_getElem?_getD, List.getElem?_eq_getElem h]; rfl
/-- What the program makes of the parts. -/
def iA (W : List (List UInt8)) : Int := if 1 < W.length then atoiV (prt W 1) else 0
def iB (W : List (List UInt8)) : Int := if 2 < W.length then atoiV (prt W 2) else 0
def iOf (S : ByteArray) (W : List (List UInt8)) : Int × Int × Int × Bool :=
  if idx (prt W 0) < 0 then noD else if 3 < W.length then noD else if dtx (idx (prt W 0)) (iA W) (iB W) = S then (idx (prt W 0), iA W, iB W, true) else noD
theorem prt_size {L : List UInt8} {i : Nat} (hi : i < (cutL 32 L).length) (hL : L.length ≤ 4294967280) : (prt (cutL 32 L) i).size ≤ 281474976710656 := by
  unfold prt
  rw [ofL_size, List.getD_eq_getElem?_getD, List.getElem?_eq_getElem hi]
  have := cutL_word 32 L _ (List.getElem_mem hi)
  show ((cutL 32 L)[i]).length ≤ _
  omega
theorem kindOf {r : Int} (h0 : 0 ≤ r) (h1 : r ≤ 4) : List.getD ([0, 1, 2, 3, 4] : List Int) (r : Int).toNat 0 = r := by
  obtain rfl | rfl | rfl | rfl | rfl : r = 0 ∨ r = 1 ∨ r = 2 ∨ r = 3 ∨ r = 4 := by omega
  all_goals rfl
theorem i_val (L : List UInt8) (hL : L.length ≤ 4294967280) : i_ReadDeed_f (ofL L) = some (iOf (ofL L) (cutL 32 L)) := by
  have hne : 0 < (cutL 32 L).length := List.length_pos_iff.2 (cutL_ne 32 L)
  have hlen := cutL_len 32 L
  have hj0 : ∀ k a : Int, (cutL 32 L).length ≤ 3 → i_ReadDeed_j0 (ofL L) ((cutL 32 L).map ofL) 0 0 0 k a 0 = some (if dtx k a (iB (cutL 32 L)) = ofL L then (k, a, iB (cutL 32 L), true) else noD) := by
    intro k a h3
    rw [i_ReadDeed_j0_eq, List.length_map]
    unfold iB
    by_cases h2 : 2 < (cutL 32 L).length
    · rw [cnd_t (by omega), if_pos (by omega), show List.getD ((cutL 32 L).map ofL) (2 : Int).toNat ByteArray.empty = prt (cutL 32 L) 2 from gW' h2, atoi_val (prt_size h2 hL), Option.bind_some, i_j1, if_pos h2]
    · rw [cnd_f (by omega), i_j1, if_neg h2]
  rw [i_ReadDeed_f_eq, show x_strings_Split_f (ofL L, str1) = _ from split_val L 32 hL, Option.bind_some, List.length_map, if_pos (by omega), show List.getD ((cutL 32 L).map ofL) (0 : Int).toNat ByteArray.empty = prt (cutL 32 L) 0 from gW' hne, index_val, Option.bind_some]
  unfold iOf
  have hr := idx_rng (prt (cutL 32 L) 0)
  by_cases h0 : idx (prt (cutL 32 L) 0) < 0
  · rw [cnd_t h0, if_pos h0]
  rw [cnd_f h0, if_neg h0]
  by_cases h3 : 3 < (cutL 32 L).length
  · rw [cnd_t (by omega), if_pos h3]
  rw [cnd_f (by omega), if_neg h3, if_pos (show (0 : Int) ≤ idx (prt (cutL 32 L) 0) ∧ idx (prt (cutL 32 L) 0) < (List.length ([0, 1, 2, 3, 4] : List Int) : Int) from ⟨by omega, by show _ < (5 : Int); omega⟩), kindOf (by omega) hr.2]
  by_cases h1 : 1 < (cutL 32 L).length
  · rw [cnd_t (by omega), if_pos (by omega), show List.getD ((cutL 32 L).map ofL) (1 : Int).toNat ByteArray.empty = prt (cutL 32 L) 1 from gW' h1, atoi_val (prt_size h1 hL), Option.bind_some, hj0 _ _ (by omega), show iA (cutL 32 L) = atoiV (prt (cutL 32 L) 1) from if_pos h1]
  · rw [cnd_f (by omega), hj0 _ _ (by omega), show iA (cutL 32 L) = 0 from if_neg h1]
end FN

namespace FN
open Go
theorem szD (s : ByteArray) : s.size = s.data.toList.length := by rw [Array.length_toList]; rfl
abbrev Dd3 := Int × Int × Int
theorem gD3 {l : List Dd3} (i : Nat) : List.getD l ((i : Int)).toNat (0, 0, 0) = l.getD i (0, 0, 0) := by simp
theorem dtx_cut {k a b : Int} (h : dtx k a b ≠ ByteArray.empty) :
    (k = 0 ∧ (0 ≤ a ∧ a ≤ 99) ∧ (0 ≤ b ∧ b ≤ 99) ∧ cutL 32 (dtx k a b).data.toList = [str10.data.toList, (itoaS a).data.toList, (itoaS b).data.toList]) ∨
    (k = 1 ∧ b = 0 ∧ (0 ≤ a ∧ a ≤ 99) ∧ cutL 32 (dtx k a b).data.toList = [str11.data.toList, (itoaS a).data.toList]) ∨
    (k = 3 ∧ b = 0 ∧ (0 ≤ a ∧ a ≤ 99) ∧ cutL 32 (dtx k a b).data.toList = [str12.data.toList, (itoaS a).data.toList]) ∨
    (k = 2 ∧ a = 0 ∧ b = 0 ∧ cutL 32 (dtx k a b).data.toList = [str4.data.toList]) ∨
    (k = 4 ∧ a = 0 ∧ b = 0 ∧ cutL 32 (dtx k a b).data.toList = [str5.data.toList]) := by
  unfold dtx at h ⊢
  by_cases hr : 0 ≤ a ∧ a ≤ 99 ∧ 0 ≤ b ∧ b ≤ 99
  · rw [if_pos hr] at h ⊢
    obtain ⟨nA, _, _⟩ := it_l (a := a) (by omega) (by omega)
    obtain ⟨nB, _, _⟩ := it_l (a := b) (by omega) (by omega)
    by_cases k0 : k = 0
    · refine .inl ⟨k0, ⟨by omega, by omega⟩, ⟨by omega, by omega⟩, ?_⟩
      rw [if_pos k0, ba_app, ba_app, ba_app]
      have e : str0.data.toList ++ (itoaS a).data.toList ++ str1.data.toList ++ (itoaS b).data.toList = str10.data.toList ++ 32 :: ((itoaS a).data.toList ++ 32 :: (itoaS b).data.toList) := by
        rw [show str0.data.toList = str10.data.toList ++ [32] from rfl, show str1.data.toList = [32] from rfl]
        simp
      rw [e, cutL_sep (by decide), cutL_sep nA, cutL_one nB]
    · rw [if_neg k0] at h ⊢
      by_cases b0 : b ≠ 0
      · rw [if_pos b0] at h; exact absurd rfl h
      · have b0' : b = 0 := by omega
        rw [if_neg b0] at h ⊢
        by_cases k1 : k = 1
        · refine .inr (.inl ⟨k1, b0', ⟨by omega, by omega⟩, ?_⟩)
          rw [if_pos k1, ba_app]
          have e : str2.data.toList ++ (itoaS a).data.toList = str11.data.toList ++ 32 :: (itoaS a).data.toList := by
            rw [show str2.data.toList = str11.data.toList ++ [32] from rfl]
            simp
          rw [e, cutL_sep (by decide), cutL_one nA]
        · rw [if_neg k1] at h ⊢
          by_cases k3 : k = 3
          · refine .inr (.inr (.inl ⟨k3, b0', ⟨by omega, by omega⟩, ?_⟩))
            rw [if_pos k3, ba_app]
            have e : str3.data.toList ++ (itoaS a).data.toList = str12.data.toList ++ 32 :: (itoaS a).data.toList := by
              rw [show str3.data.toList = str12.data.toList ++ [32] from rfl]
              simp
            rw [e, cutL_sep (by decide), cutL_one nA]
          · rw [if_neg k3] at h ⊢
            by_cases a0 : a ≠ 0
            · rw [if_pos a0] at h; exact absurd rfl h
            · have a0' : a = 0 := by omega
              rw [if_neg a0] at h ⊢
              by_cases k2 : k = 2
              · exact .inr (.inr (.inr (.inl ⟨k2, a0', b0', by rw [if_pos k2]; decide⟩)))
              · rw [if_neg k2] at h ⊢
                by_cases k4 : k = 4
                · exact .inr (.inr (.inr (.inr ⟨k4, a0', b0', by rw [if_pos k4]; decide⟩)))
                · rw [if_neg k4] at h; exact absurd rfl h
  · rw [if_neg hr] at h; exact absurd rfl h
theorem idx_words : idx str10 = 0 ∧ idx str11 = 1 ∧ idx str4 = 2 ∧ idx str12 = 3 ∧ idx str5 = 4 ∧ idx ByteArray.empty = -1 := by
  refine ⟨?_, ?_, ?_, ?_, ?_, ?_⟩ <;> decide
theorem i_back {k a b : Int} (h : dtx k a b ≠ ByteArray.empty) : i_ReadDeed_f (dtx k a b) = some (k, a, b, true) := by
  have hs := (deed_val k a b).2.2
  have hv := i_val (dtx k a b).data.toList (by rw [← szD]; omega)
  rw [of_data] at hv
  rw [hv]
  obtain ⟨x0, x1, x2, x3, x4, _⟩ := idx_words
  rcases dtx_cut h with ⟨rfl, ha, hb, hc⟩ | ⟨rfl, rfl, ha, hc⟩ | ⟨rfl, rfl, ha, hc⟩ | ⟨rfl, rfl, rfl, hc⟩ | ⟨rfl, rfl, rfl, hc⟩
  · rw [hc]
    unfold iOf iA iB
    rw [show prt [str10.data.toList, (itoaS a).data.toList, (itoaS b).data.toList] 0 = str10 from of_data str10, show prt [str10.data.toList, (itoaS a).data.toList, (itoaS b).data.toList] 1 = itoaS a from of_data _, show prt [str10.data.toList, (itoaS a).data.toList, (itoaS b).data.toList] 2 = itoaS b from of_data _, x0, atoi_itoa ha.1 ha.2, atoi_itoa hb.1 hb.2]
    simp
  · rw [hc]
    unfold iOf iA iB
    rw [show prt [str11.data.toList, (itoaS a).data.toList] 0 = str11 from of_data str11, show prt [str11.data.toList, (itoaS a).data.toList] 1 = itoaS a from of_data _, x1, atoi_itoa ha.1 ha.2]
    simp
  · rw [hc]
    unfold iOf iA iB
    rw [show prt [str12.data.toList, (itoaS a).data.toList] 0 = str12 from of_data str12, show prt [str12.data.toList, (itoaS a).data.toList] 1 = itoaS a from of_data _, x3, atoi_itoa ha.1 ha.2]
    simp
  · rw [hc]
    unfold iOf iA iB
    rw [show prt [str4.data.toList] 0 = str4 from of_data str4, x2]
    simp
  · rw [hc]
    unfold iOf iA iB
    rw [show prt [str5.data.toList] 0 = str5 from of_data str5, x4]
    simp
theorem l2_val (S : ByteArray) (l : List Dd3) (hl : l.length ≤ 100) : ∀ i, i ≤ l.length → (s_ReadDeed_l2 S (i : Int) 0 0 0 l = some noD ∧ ∀ j, i ≤ j → j < l.length → S = ByteArray.empty ∨ dtx (l.getD j (0, 0, 0)).1 (l.getD j (0, 0, 0)).2.1 (l.getD j (0, 0, 0)).2.2 ≠ S) ∨ ∃ k a b, s_ReadDeed_l2 S (i : Int) 0 0 0 l = some (k, a, b, true) ∧ dtx k a b = S ∧ S ≠ ByteArray.empty := by
  refine advN ?_ fun i hi ih => ?_
  · refine .inl ⟨?_, fun j h1 h2 => by omega⟩
    rw [s_ReadDeed_l2_eq, cnd_f (by omega)]
  · rw [s_ReadDeed_l2_eq, cnd_t (by omega), nbeq_b, w1 hi (by omega)]
    by_cases hS : S = ByteArray.empty
    · rw [if_pos hS]
      rcases ih with ⟨h1, h2⟩ | ⟨k, a, b, h1, h2, h3⟩
      · exact .inl ⟨h1, fun j _ _ => .inl hS⟩
      · exact absurd hS h3
    · rw [if_neg hS, if_pos (inN hi), gD3, (deed_val _ _ _).1, Option.bind_some, beq_b, if_pos (inN hi)]
      by_cases hd : dtx (l.getD i (0, 0, 0)).1 (l.getD i (0, 0, 0)).2.1 (l.getD i (0, 0, 0)).2.2 = S
      · rw [if_pos hd]
        exact .inr ⟨_, _, _, rfl, hd, hS⟩
      · rw [if_neg hd]
        rcases ih with ⟨h1, h2⟩ | h
        · refine .inl ⟨h1, fun j h3 h4 => ?_⟩
          by_cases e : j = i
          · rw [e]; exact .inr hd
          · exact h2 j (by omega) h4
        · exact .inr h
theorem s_digits (w : ByteArray) : ∃ v : Int, s_l1Digits_f w = some v := by
  rw [← of_data w]
  by_cases h : w.data.toList.length = 1
  · obtain ⟨a, ha⟩ : ∃ a, w.data.toList = [a] := by
      match w.data.toList, h with
      | [a], _ => exact ⟨a, rfl⟩
    rw [ha, digits_one]
    exact ⟨_, rfl⟩
  · obtain ⟨v, e, _⟩ := digits_other h
    exact ⟨v, e⟩
theorem mem_idx {l : List Dd3} {d : Dd3} (h : d ∈ l) : ∃ j, j < l.length ∧ l.getD j (0, 0, 0) = d := by
  obtain ⟨j, hj⟩ := List.getElem?_of_mem h
  obtain ⟨h1, h2⟩ := List.getElem?_eq_some_iff.1 hj
  exact ⟨j, h1, by rw [List.getD_eq_getElem?_getD, hj]; rfl⟩
/-- The reference goes through a list in which each deed of this text is. -/
theorem s_list (L : List UInt8) (hL : L.length ≤ 1099511627776) : ∃ l : List Dd3, l.length ≤ 5 ∧ s_ReadDeed_f (ofL L) = s_ReadDeed_l2 (ofL L) 0 0 0 0 l ∧ ∀ k a b, dtx k a b = ofL L → ofL L ≠ ByteArray.empty → (k, a, b) ∈ l := by
  have hlen := cutL_len 32 L
  have hfind : ∀ k a b, dtx k a b = ofL L → ofL L ≠ ByteArray.empty → (k = 2 ∧ a = 0 ∧ b = 0) ∨ (k = 4 ∧ a = 0 ∧ b = 0) ∨ ((cutL 32 L).length = 2 ∧ (k = 1 ∨ k = 3) ∧ b = 0 ∧ s_l1Digits_f (prt (cutL 32 L) 1) = some a) ∨ ((cutL 32 L).length = 3 ∧ k = 0 ∧ s_l1Digits_f (prt (cutL 32 L) 1) = some a ∧ s_l1Digits_f (prt (cutL 32 L) 2) = some b) := by
    intro k a b he hn
    have hL' : (dtx k a b).data.toList = L := by rw [he]; rfl
    have hne : dtx k a b ≠ ByteArray.empty := by rw [he]; exact hn
    rcases dtx_cut hne with ⟨h1, ha, hb, hc⟩ | ⟨h1, h2, ha, hc⟩ | ⟨h1, h2, ha, hc⟩ | ⟨h1, h2, h3, hc⟩ | ⟨h1, h2, h3, hc⟩
    · rw [hL'] at hc
      rw [hc]
      refine .inr (.inr (.inr ⟨rfl, h1, ?_, ?_⟩))
      · rw [show prt [str10.data.toList, (itoaS a).data.toList, (itoaS b).data.toList] 1 = itoaS a from of_data _]; exact digits_itoa ha.1 ha.2
      · rw [show prt [str10.data.toList, (itoaS a).data.toList, (itoaS b).data.toList] 2 = itoaS b from of_data _]; exact digits_itoa hb.1 hb.2
    · rw [hL'] at hc
      rw [hc]
      refine .inr (.inr (.inl ⟨rfl, .inl h1, h2, ?_⟩))
      rw [show prt [str11.data.toList, (itoaS a).data.toList] 1 = itoaS a from of_data _]; exact digits_itoa ha.1 ha.2
    · rw [hL'] at hc
      rw [hc]
      refine .inr (.inr (.inl ⟨rfl, .inr h1, h2, ?_⟩))
      rw [show prt [str12.data.toList, (itoaS a).data.toList] 1 = itoaS a from of_data _]; exact digits_itoa ha.1 ha.2
    · exact .inl ⟨h1, h2, h3⟩
    · exact .inr (.inl ⟨h1, h2, h3⟩)
  rw [s_ReadDeed_f_eq, show s_l1Cut_f (ofL L, (32 : Int)) = _ from cut_val L 32 hL, Option.bind_some, List.length_map]
  by_cases h2 : (cutL 32 L).length = 2
  · obtain ⟨v, hv⟩ := s_digits (prt (cutL 32 L) 1)
    rw [beq_t (by omega), if_pos (by omega), show List.getD ((cutL 32 L).map ofL) (1 : Int).toNat ByteArray.empty = prt (cutL 32 L) 1 from gW' (i := 1) (show 1 < (cutL 32 L).length by omega), hv, Option.bind_some, if_pos (by simp), s_ReadDeed_j0_eq, List.length_map, beq_f (by omega), s_ReadDeed_j1_eq]
    refine ⟨_, by simp, rfl, fun k a b he hn => ?_⟩
    rcases hfind k a b he hn with ⟨h1, h3, h4⟩ | ⟨h1, h3, h4⟩ | ⟨_, h1, h3, h4⟩ | ⟨h1, _⟩
    · subst h1; subst h3; subst h4; simp
    · subst h1; subst h3; subst h4; simp
    · rw [hv] at h4
      have := Option.some.inj h4
      subst this; subst h3
      rcases h1 with rfl | rfl <;> simp
    · omega
  · rw [beq_f (by omega), s_ReadDeed_j0_eq, List.length_map]
    by_cases h3 : (cutL 32 L).length = 3
    · obtain ⟨v, hv⟩ := s_digits (prt (cutL 32 L) 1)
      obtain ⟨u, hu⟩ := s_digits (prt (cutL 32 L) 2)
      rw [beq_t (by omega), if_pos (by omega), if_pos (by omega), show List.getD ((cutL 32 L).map ofL) (1 : Int).toNat ByteArray.empty = prt (cutL 32 L) 1 from gW' (i := 1) (show 1 < (cutL 32 L).length by omega), hv, Option.bind_some, show List.getD ((cutL 32 L).map ofL) (2 : Int).toNat ByteArray.empty = prt (cutL 32 L) 2 from gW' (i := 2) (show 2 < (cutL 32 L).length by omega), hu, Option.bind_some, if_pos (by simp), s_ReadDeed_j1_eq]
      refine ⟨_, by simp, rfl, fun k a b he hn => ?_⟩
      rcases hfind k a b he hn with ⟨h1, h4, h5⟩ | ⟨h1, h4, h5⟩ | ⟨h1, _⟩ | ⟨_, h1, h4, h5⟩
      · subst h1; subst h4; subst h5; simp
      · subst h1; subst h4; subst h5; simp
      · omega
      · rw [hv] at h4
        rw [hu] at h5
        have e1 := Option.some.inj h4
        have e2 := Option.some.inj h5
        subst e1; subst e2; subst h1
        simp
    · rw [beq_f (by omega), s_ReadDeed_j1_eq]
      refine ⟨_, by simp, rfl, fun k a b he hn => ?_⟩
      rcases hfind k a b he hn with ⟨h1, h4, h5⟩ | ⟨h1, h4, h5⟩ | ⟨h1, _⟩ | ⟨h1, _⟩
      · subst h1; subst h4; subst h5; simp
      · subst h1; subst h4; subst h5; simp
      · omega
      · omega
/-- Both read alike: the deed whose text it is, or none. -/
theorem deed_same (L : List UInt8) (hL : L.length ≤ 4294967280) : ∃ r, i_ReadDeed_f (ofL L) = some r ∧ s_ReadDeed_f (ofL L) = some r ∧ (r = noD ∧ (∀ k a b, dtx k a b = ofL L → ofL L = ByteArray.empty) ∨ ∃ k a b, r = (k, a, b, true) ∧ dtx k a b = ofL L ∧ ofL L ≠ ByteArray.empty) := by
  obtain ⟨l, hl, e1, hm⟩ := s_list L (by omega)
  have hs := l2_val (ofL L) l (by omega) 0 (by omega)
  by_cases h : ∃ k a b, dtx k a b = ofL L ∧ ofL L ≠ ByteArray.empty
  · obtain ⟨k, a, b, h1, h2⟩ := h
    have hi := i_back (k := k) (a := a) (b := b) (by rw [h1]; exact h2)
    rw [h1] at hi
    refine ⟨(k, a, b, true), hi, ?_, .inr ⟨k, a, b, rfl, h1, h2⟩⟩
    rcases hs with ⟨h3, h4⟩ | ⟨k', a', b', h3, h4, h5⟩
    · obtain ⟨j, hj, hd⟩ := mem_idx (hm k a b h1 h2)
      rcases h4 j (by omega) hj with h6 | h6
      · exact absurd h6 h2
      · rw [hd] at h6
        exact absurd h1 h6
    · have hi' := i_back (k := k') (a := a') (b := b') (by rw [h4]; exact h5)
      rw [h4, hi] at hi'
      rw [e1]
      exact h3.trans hi'.symm
  · have hno : ∀ k a b, dtx k a b = ofL L → ofL L = ByteArray.empty := fun k a b h1 => Classical.byContradiction fun h2 => h ⟨k, a, b, h1, h2⟩
    refine ⟨noD, ?_, ?_, .inl ⟨rfl, hno⟩⟩
    · rw [i_val L hL]
      have key : iOf (ofL L) (cutL 32 L) = noD := by
       unfold iOf
       split
       · rfl
       · split
         · rfl
         · split
           · rename_i h1 _ h2
             have h3 := hno _ _ _ h2
             have h4 : L = [] := by
               have := congrArg (fun s : ByteArray => s.data.toList) h3
               exact this
             subst h4
             rw [show prt (cutL 32 []) 0 = ByteArray.empty from rfl, idx_words.2.2.2.2.2] at h1
             exact absurd (show (-1 : Int) < 0 by omega) h1
           · rfl
      rw [key]
    · rw [e1]
      rcases hs with ⟨h3, _⟩ | ⟨k', a', b', h3, h4, h5⟩
      · exact h3
      · exact absurd (hno _ _ _ h4) h5
end FN

/-! Desks: the reference's deeds answer always. -/
namespace FN
open Go
abbrev Pl := List Int × Int × List Int
def smP (n : Nat) (p : Pl) : Prop := p.1.length ≤ n ∧ p.2.2.length ≤ n
theorem gP {l : List Pl} (i : Nat) : List.getD l ((i : Int)).toNat ([], 0, []) = l.getD i ([], 0, []) := by simp
theorem getD_mem {α : Type} {l : List α} {i : Nat} {d : α} (h : i < l.length) : l.getD i d ∈ l := by
  rw [List.getD_eq_getElem?_getD, List.getElem?_eq_getElem h]; exact List.getElem_mem h
def PlPp (p : Pl) : Prop := PlP p.1 p.2.1 p.2.2
instance (p : Pl) : Decidable (PlPp p) := inferInstanceAs (Decidable (PlP _ _ _))
def DkP (a : List Int) (k : Int) (b : List Int) (l : List Pl) : Prop := (∀ p ∈ l, PlPp p) ∧ PlP a k b ∧ l.length ≤ 8
instance (a : List Int) (k : Int) (b : List Int) (l : List Pl) : Decidable (DkP a k b l) := inferInstanceAs (Decidable (_ ∧ _))
theorem sdesk (a : List Int) (k : Int) (b : List Int) (l : List Pl) (hb : b.length ≤ 4611686018427387904) (hl : l.length ≤ 4611686018427387904) (hs : ∀ p ∈ l, smP 4611686018427387904 p) : s_DeskOk_f (a, k, b, l) = some (decide (DkP a k b l)) := by
  apply Tells.val
  rw [s_DeskOk_f_eq]
  have hj : Tells (s_DeskOk_j1 a k b l) (PlP a k b ∧ l.length ≤ 8) := by
    rw [s_DeskOk_j1_eq, spl _ _ _ hb, Option.bind_some]
    by_cases c : PlP a k b
    · rw [decide_eq_true c]; exact Tells.dec.iff ⟨fun h => ⟨c, by omega⟩, fun h => by omega⟩
    · rw [decide_eq_false c]; exact Tells.no fun h => c h.1
  have main : ∀ i, i ≤ l.length → Tells (s_DeskOk_l0 (i : Int) a k b l) ((∀ j, i ≤ j → j < l.length → PlPp (l.getD j ([], 0, []))) ∧ (PlP a k b ∧ l.length ≤ 8)) := by
    refine advN ?_ fun i hi ih => ?_
    · refine (Tells.eq ?_ hj).iff ⟨fun h => ⟨fun j h1 h2 => by omega, h⟩, fun h => h.2⟩
      rw [s_DeskOk_l0_eq, cnd_f (by omega)]
    · have hm := hs _ (getD_mem (d := ([], 0, [])) hi)
      rw [s_DeskOk_l0_eq, cnd_t (by omega), if_pos (inN hi), gP, spl _ _ _ hm.2, Option.bind_some, w1 hi (by omega)]
      by_cases c : PlPp (l.getD i ([], 0, []))
      · rw [decide_eq_true (show PlP (l.getD i ([], 0, [])).1 (l.getD i ([], 0, [])).2.1 (l.getD i ([], 0, [])).2.2 from c)]
        refine ih.iff ⟨fun h => ⟨fun j h1 h2 => ?_, h.2⟩, fun h => ⟨fun j h1 h2 => h.1 j (by omega) h2, h.2⟩⟩
        by_cases e : j = i
        · rw [e]; exact c
        · exact h.1 j (by omega) h2
      · rw [decide_eq_false (show ¬ PlP (l.getD i ([], 0, [])).1 (l.getD i ([], 0, [])).2.1 (l.getD i ([], 0, [])).2.2 from c)]
        exact Tells.no fun h => c (h.1 i (Nat.le_refl i) hi)
  refine (main 0 (by omega)).iff ⟨fun h => ⟨fun p hp => ?_, h.2⟩, fun h => ⟨fun j _ hj => h.1 _ (getD_mem hj), h.2⟩⟩
  obtain ⟨j, hj, rfl⟩ := List.getElem_of_mem hp
  have := h.1 j (by omega) hj
  rwa [List.getD_eq_getElem?_getD, List.getElem?_eq_getElem hj] at this
theorem l15Place_val (a : List Int) (k : Int) (b : List Int) (ha : a.length ≤ 1000000) (hb : b.length ≤ 1000000) : s_l15Place_f (a, k, b) = some (a, k, b) := by
  rw [s_l15Place_f_eq, if_pos (by simp; omega), if_pos (by simp; omega)]
  rfl
theorem PlP.sm {a : List Int} {k : Int} {b : List Int} (h : PlP a k b) : a.length ≤ 6 ∧ b.length ≤ 6 := ⟨h.1.hi, h.2.1.2.2.2.2⟩
theorem copy_loop1 (a : List Int) (k : Int) (b : List Int) (l : List Pl) (y5 : Int) (hl : l.length ≤ 100) (hs : ∀ p ∈ l, PlPp p) : ∀ i, i ≤ l.length → s_l15Copy_l1 (i : Int) a k b l y5 k a b (l.take i) = some (a, k, b, l) := by
  refine advN ?_ fun i hi ih => ?_
  · rw [s_l15Copy_l1_eq, cnd_f (by omega), List.take_length]
  · have hm := PlP.sm (hs _ (getD_mem (d := ([], 0, [])) hi))
    rw [s_l15Copy_l1_eq, cnd_t (by omega), if_pos (inN hi), gP, l15Place_val _ _ _ (by omega) (by omega), Option.bind_some, if_pos (by simp; omega), w1 hi (by omega)]
    have e : l.take (i + 1) = l.take i ++ [((l.getD i ([], 0, [])).1, (l.getD i ([], 0, [])).2.1, (l.getD i ([], 0, [])).2.2)] := by
      rw [List.take_succ_eq_append_getElem hi, List.getD_eq_getElem?_getD, List.getElem?_eq_getElem hi]; rfl
    rw [← e]
    exact ih
theorem l15Copy_val {a : List Int} {k : Int} {b : List Int} {l : List Pl} (h : DkP a k b l) : s_l15Copy_f (a, k, b, l) = some (a, k, b, l) := by
  have hm := PlP.sm h.2.1
  have hl := h.2.2
  rw [s_l15Copy_f_eq, l15Place_val _ _ _ (by omega) (by omega), Option.bind_some]
  simp only
  rw [s_l15Copy_l0_eq]
  by_cases c : 0 < l.length
  · have hm := PlP.sm (h.1 _ (getD_mem (d := ([], 0, [])) c))
    have hg : List.getD l (0 : Int).toNat ([], 0, []) = l.getD 0 ([], 0, []) := rfl
    rw [cnd_t (by omega), if_pos ⟨by omega, by omega⟩, hg, l15Place_val _ _ _ (by omega) (by omega), Option.bind_some, if_pos (by simp)]
    have e : l.take 1 = [] ++ [((l.getD 0 ([], 0, [])).1, (l.getD 0 ([], 0, [])).2.1, (l.getD 0 ([], 0, [])).2.2)] := by
      rw [List.take_succ_eq_append_getElem c, List.getD_eq_getElem?_getD, List.getElem?_eq_getElem c]; rfl
    rw [← e]
    exact copy_loop1 a k b l 0 (by omega) h.1 1 (by omega)
  · have : l = [] := List.eq_nil_of_length_eq_zero (by omega)
    subst this
    rw [cnd_f (by simp)]
/-- It answers a place, not too long. -/
def Tot3 (o : Option (List Int × Int × List Int)) : Prop := ∃ z κ st, o = some (z, κ, st) ∧ st.length ≤ 100
theorem Tot3.cnd {c : Bool} {x y : Option (List Int × Int × List Int)} (h : Tot3 x) (k : Tot3 y) : Tot3 (cond c x y) := by cases c; exact k; exact h
theorem Tot3.condd {p : Prop} [Decidable p] {x y : Option (List Int × Int × List Int)} (h : p → Tot3 x) (k : ¬ p → Tot3 y) : Tot3 (cond (decide p) x y) := by
  by_cases c : p
  · rw [decide_eq_true c]; exact h c
  · rw [decide_eq_false c]; exact k c
theorem Tot3.ite {p : Prop} [Decidable p] {x y : Option (List Int × Int × List Int)} (hp : p) (h : Tot3 x) : Tot3 (if p then x else y) := by rw [if_pos hp]; exact h
theorem step_tot {a : List Int} {k : Int} {b : List Int} (h : PlP a k b) : ∃ z, s_l3Step_f (a, k, b) = some z ∧ z.length ≤ 100 := by
  have hm := PlP.sm h
  have hk := h.2.1.2.1
  have he := h.2.2
  have first : ∀ i, i ≤ b.length → ∀ x : Int, (∀ x : Int, ∃ z, s_l3Step_j1 a k b x = some z ∧ z.length ≤ 100) → ∃ z, s_l3Step_l0 a k b x (i : Int) = some z ∧ z.length ≤ 100 := by
    refine advN ?_ fun i hi ih => ?_
    · intro x hx
      rw [s_l3Step_l0_eq, cnd_f (by omega)]
      exact hx x
    · intro x hx
      rw [s_l3Step_l0_eq, cnd_t (by omega), if_pos (inN hi), w1 hi (by omega)]
      cases (List.getD b ((i : Int)).toNat 0 == 1) with
      | true => rw [cond_true, if_neg (by omega)]; exact ih _ hx
      | false => rw [cond_false]; exact ih _ hx
  have second : ∀ (x : Int) i, i ≤ b.length → ∀ y : List Int, y.length = i → ∃ z, s_l3Step_l2 a k b x (i : Int) y = some z ∧ z.length ≤ 100 := by
    intro x
    refine advN ?_ fun i hi ih => ?_
    · intro y hy
      rw [s_l3Step_l2_eq, cnd_f (by omega)]
      exact ⟨y, rfl, by omega⟩
    · intro y hy
      rw [s_l3Step_l2_eq, cnd_t (by omega), if_pos (inN hi), w1 hi (by omega)]
      cases (decide (0 < List.getD b ((i : Int)).toNat 0)) with
      | true => rw [cond_true, if_neg (by omega), if_pos (by simp; omega)]; exact ih _ (by simp; omega)
      | false =>
        rw [cond_false, if_pos ⟨by omega, by omega⟩]
        cases (Go.bits .and IntKind.i64 (List.getD a ((i : Int)).toNat 0) x != 0) with
        | true => rw [cond_true, if_pos (by simp; omega)]; exact ih _ (by simp; omega)
        | false => rw [cond_false, if_pos (by simp; omega)]; exact ih _ (by simp; omega)
  rw [s_l3Step_f_eq]
  refine first 0 (by omega) 0 fun x => ?_
  rw [s_l3Step_j1_eq]
  exact second x 0 (by omega) [] rfl
/-- The parts of what a deed makes. -/
theorem tail_tot {a : List Int} {k : Int} {b z : List Int} (hb : b.length ≤ 100) (hz : z.length ≤ 100) (c2 c3 : Bool) (A : Int) : Tot3 (cond c2 (some (a, k, z)) (cond c3 (some (a, A, b)) (some ([], 0, [])))) := by
  cases c2 with
  | true => exact ⟨_, _, _, rfl, hz⟩
  | false => cases c3 with
    | true => exact ⟨_, _, _, rfl, hb⟩
    | false => exact ⟨_, _, _, rfl, by simp⟩
theorem light_tot {a : List Int} {k : Int} {b : List Int} {t : Option (List Int × Int × List Int)} {n : Int} (hb : b.length ≤ 100) (hn : n = (b.length : Int)) (ht : Tot3 t) (c1 : Bool) (A : Int) : Tot3 (cond c1 (cond (decide (0 ≤ A ∧ A ≤ n - 1)) (if (0 : Int) ≤ A ∧ A < (b.length : Int) then (cond (List.getD b (A : Int).toNat 0 == 0) (if (0 : Int) ≤ A ∧ A < (b.length : Int) then (some (a, k, List.set b (A : Int).toNat 1)) else none) t) else none) t) t) := by
  cases c1 with
  | false => exact ht
  | true =>
    rw [cond_true]
    refine Tot3.condd (fun h => ?_) (fun _ => ht)
    have h2 : (0 : Int) ≤ A ∧ A < (b.length : Int) := ⟨h.1, by omega⟩
    rw [if_pos h2, if_pos h2]
    exact Tot3.cnd ⟨_, _, _, rfl, by rw [List.length_set]; exact hb⟩ ht
theorem made_tot {a : List Int} {k : Int} {b : List Int} (h : PlP a k b) (K A B : Int) : Tot3 (s_l15Made_f (a, k, b, K, A, B)) := by
  have hm := PlP.sm h
  have he := h.2.2
  have hlo := h.1.lo
  obtain ⟨z, hz, hz'⟩ := step_tot h
  have hW : IntKind.i64.wrap ((List.length a : Int) - 1) = (a.length : Int) - 1 := i64w (by omega) (by omega)
  have tl : ∀ c2 c3 : Bool, Tot3 (cond c2 (some (a, k, z)) (cond c3 (some (a, A, b)) (some ([], 0, [])))) := fun c2 c3 => tail_tot (by omega) hz' c2 c3 A
  have lt : ∀ c1 c2 c3 : Bool, Tot3 (cond c1 (cond (decide (0 ≤ A ∧ A ≤ (a.length : Int) - 1)) (if (0 : Int) ≤ A ∧ A < (b.length : Int) then (cond (List.getD b (A : Int).toNat 0 == 0) (if (0 : Int) ≤ A ∧ A < (b.length : Int) then (some (a, k, List.set b (A : Int).toNat 1)) else none) (cond c2 (some (a, k, z)) (cond c3 (some (a, A, b)) (some ([], 0, []))))) else none) (cond c2 (some (a, k, z)) (cond c3 (some (a, A, b)) (some ([], 0, []))))) (cond c2 (some (a, k, z)) (cond c3 (some (a, A, b)) (some ([], 0, []))))) := fun c1 c2 c3 => light_tot (by omega) (by omega) (tl c2 c3) c1 A
  rw [s_l15Made_f_eq, l15Place_val _ _ _ (by omega) (by omega), Option.bind_some, l1In_val, Option.bind_some, l1In_val, Option.bind_some, hz, Option.bind_some, hW]
  generalize (K == 1 && (A == A && (B == 0 && true))) = c1
  generalize (K == 2 && (A == 0 && (B == 0 && true))) = c2
  generalize (K == 3 && (A == A && (B == 0 && true))) = c3
  generalize (K == 0 && (A == A && (B == B && true))) = c0
  have hlt := lt c1 c2 c3
  cases c0 with
  | false => rw [cond_false]; exact hlt
  | true =>
    rw [cond_true]
    refine Tot3.condd (fun hA => ?_) (fun _ => hlt)
    refine Tot3.condd (fun hB => ?_) (fun _ => hlt)
    refine Tot3.cnd ?_ hlt
    have h1 : (0 : Int) ≤ A ∧ A < (a.length : Int) := ⟨hA.1, by omega⟩
    have h2 : (0 : Int) ≤ B ∧ B < (a.length : Int) := ⟨hB.1, by omega⟩
    rw [if_pos h1, if_neg (by omega), if_pos h1, List.length_set, if_pos h2, if_neg (by omega), if_pos h2]
    exact ⟨_, _, _, rfl, show b.length ≤ 100 by omega⟩
end FN

namespace FN
open Go
/-- It answers a desk. -/
def Tot5 (o : Option (List Int × Int × List Int × List Pl × Bool)) : Prop := ∃ a k b l t, o = some (a, k, b, l, t) ∧ DkP a k b l
theorem Tot5.cnd {c : Bool} {x y : Option (List Int × Int × List Int × List Pl × Bool)} (h : Tot5 x) (k : Tot5 y) : Tot5 (cond c x y) := by cases c; exact k; exact h
end FN

