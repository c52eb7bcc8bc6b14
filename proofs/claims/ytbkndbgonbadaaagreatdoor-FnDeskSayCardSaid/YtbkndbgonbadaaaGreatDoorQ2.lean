/- Texts of the proof, joined: parts -/
import Derived.Test.YtbkndbgonbadaaaGreatDoorQ1
import Derived.Test.YtbkndbgonbadaaaGreatDoorJ1
import Derived.Test.YtbkndbgonbadaaaGreatDoorJ2
import Derived.Test.YtbkndbgonbadaaaGreatDoorJ3
import Derived.Test.YtbkndbgonbadaaaGreatDoorK0
set_option linter.unusedVariables false
set_option linter.unusedSimpArgs false
set_option linter.unusedSectionVars false
namespace FN
open Go
/-- The first i numbers, one behind the other. -/
def dgs (st : List Int) : Nat → ByteArray
  | 0 => ByteArray.empty
  | i + 1 => dgs st i ++ itoaS (st.getD i 0)
theorem dg_pos : (List.range 100).all (fun n => decide (0 < (itoaS (n : Int)).size)) = true := by kernel_rfl
theorem itoa_pos {n : Int} (h0 : 0 ≤ n) (h1 : n < 100) : 0 < (itoaS n).size := by
  obtain ⟨m, rfl⟩ : ∃ m : Nat, n = m := ⟨n.toNat, by omega⟩
  simpa using List.all_eq_true.1 dg_pos m (List.mem_range.2 (by omega))
theorem dgs_size {st : List Int} (hs : ∀ j, j < st.length → 0 ≤ st.getD j 0 ∧ st.getD j 0 < 100) : ∀ i, i ≤ st.length → (dgs st i).size ≤ 2 * i
  | 0, _ => by simp [dgs]
  | i + 1, h => by
    have h1 := dgs_size hs i (by omega)
    have h2 := itoa_size (hs i (by omega)).1 (hs i (by omega)).2
    rw [dgs, ByteArray.size_append]
    omega
theorem empty_toList {a : ByteArray} (h : 0 < a.size) : (ByteArray.toList a == ByteArray.toList ByteArray.empty) = false := by
  rw [beq_eq_false_iff_ne]
  intro e
  have h1 : a.toList.length = (ByteArray.empty).toList.length := by rw [e]
  have h2 : a.toList.length = a.size := by rw [ByteArray.toList_eq]; exact Array.length_toList
  have h3 : (ByteArray.empty).toList.length = 0 := by rw [ByteArray.toList_eq]; rfl
  omega
/-- The pairs' row and the pairs' text. -/
structure PR (prs : List ByteArray) (y : ByteArray) (m : Nat) : Prop where
  eq : joinS prs str14 = y
  pos : prs ≠ [] → 0 < y.size
  len : prs.length ≤ m
  sz : y.size ≤ 10 * prs.length
theorem z14 : ByteArray.size str14 = 1 := rfl
theorem z15 : ByteArray.size str15 = 1 := rfl
theorem z1' : ByteArray.size str1 = 1 := rfl
section
variable {net st : List Int} {kd : Int} (h : PlP net kd st)
include h
theorem st_rng : ∀ j, j < st.length → 0 ≤ st.getD j 0 ∧ st.getD j 0 < 100 := fun j hj => ⟨(h.2.1.1 j hj).1, by have := (h.2.1.1 j hj).2; have := h.2.1.2.2.1; omega⟩
/-- The last part. -/
theorem i_tail (acc : ByteArray) (hacc : acc.size ≤ 1000) : ∀ i, i ≤ st.length → i_PlaceText_l4 (acc ++ dgs st i) st (st.length : Int) (i : Int) = some (acc ++ dgs st st.length) := by
  have hst := st_rng h
  have hl : st.length ≤ 6 := h.2.1.2.2.2.2
  refine advN ?_ fun i hi ih => ?_
  · rw [i_PlaceText_l4_eq, cnd_f (by omega)]
  · have h2 := hst i hi
    have h3 := itoa_size h2.1 h2.2
    have h4 := dgs_size hst i (by omega)
    rw [i_PlaceText_l4_eq, cnd_t (by omega), if_pos (inN hi), gN, itoa_val h2.1 h2.2, Option.bind_some, if_pos (by rw [ByteArray.size_append]; omega), w1 hi (by omega)]
    rw [ByteArray.append_assoc]
    exact ih
theorem fin_same (y : ByteArray) (hy : y.size ≤ 900) (n : Nat) (hn : n = net.length) : s_PlaceText_j4 y (dgs st st.length) net kd st = some ((((((itoaS (net.length : Int) ++ str1) ++ y) ++ str1) ++ itoaS kd) ++ str1) ++ dgs st st.length) := by
  have hst := st_rng h
  have hl : st.length ≤ 6 := h.2.1.2.2.2.2
  have hnl : net.length ≤ 6 := h.1.hi
  have hk := h.2.1.2.1
  have hk' := h.2.1.2.2.1
  have a1 := itoa_size (n := (net.length : Int)) (by omega) (by omega)
  have a2 := itoa_size (n := kd) (by omega) (by omega)
  have a3 := dgs_size hst st.length (Nat.le_refl _)
  have z1 := z1'
  rw [s_PlaceText_j4_eq, num_val (by omega) (by omega), Option.bind_some, if_pos (by omega), if_pos (by simp only [ByteArray.size_append]; omega), if_pos (by simp only [ByteArray.size_append]; omega), num_val (by omega) (by omega), Option.bind_some, if_pos (by simp only [ByteArray.size_append]; omega), if_pos (by simp only [ByteArray.size_append]; omega), if_pos (by simp only [ByteArray.size_append]; omega)]
theorem fin_i (prs : List ByteArray) (hp : prs.length ≤ 100) (hy : (joinS prs str14).size ≤ 900) : i_PlaceText_j3 net kd st prs = some ((((((itoaS (net.length : Int) ++ str1) ++ joinS prs str14) ++ str1) ++ itoaS kd) ++ str1) ++ dgs st st.length) := by
  have hnl : net.length ≤ 6 := h.1.hi
  have hk := h.2.1.2.1
  have hk' := h.2.1.2.2.1
  have a1 := itoa_size (n := (net.length : Int)) (by omega) (by omega)
  have a2 := itoa_size (n := kd) (by omega) (by omega)
  have z1 := z1'
  rw [i_PlaceText_j3_eq, itoa_val (by omega) (by omega), Option.bind_some, if_pos (by omega), x_strings_Join_f_eq, if_pos ⟨by omega, by omega⟩, Option.bind_some, if_pos (by simp only [ByteArray.size_append]; omega), if_pos (by simp only [ByteArray.size_append]; omega), itoa_val (by omega) (by omega), Option.bind_some, if_pos (by simp only [ByteArray.size_append]; omega), if_pos (by simp only [ByteArray.size_append]; omega)]
  have := i_tail h (((((itoaS (net.length : Int) ++ str1) ++ joinS prs str14) ++ str1) ++ itoaS kd) ++ str1) (by simp only [ByteArray.size_append]; omega) 0 (by omega)
  rw [dgs, ByteArray.append_empty] at this
  exact this
theorem end_same (prs : List ByteArray) (y : ByteArray) (r : PR prs y 60) : ∃ t, s_PlaceText_j2 y (dgs st st.length) net kd st = some t ∧ i_PlaceText_j2 net kd st prs = some t := by
  rw [s_PlaceText_j2_eq, i_PlaceText_j2_eq]
  by_cases hp : prs = []
  · subst hp
    have hy : y = ByteArray.empty := r.eq.symm.trans (joinS_nil _)
    subst hy
    rw [show (ByteArray.toList ByteArray.empty == ByteArray.toList ByteArray.empty) = true from by simp, cond_true, show (((List.length ([] : List ByteArray)) : Int) == 0) = true from rfl, cond_true, if_pos (by simp)]
    have e1 := fin_same h str15 (by rw [z15]; omega) _ rfl
    have e2 := fin_i h [str15] (by simp) (by rw [joinS_one, z15]; omega)
    rw [joinS_one] at e2
    exact ⟨_, e1, e2⟩
  · have hpos : 0 < prs.length := List.length_pos_iff.2 hp
    have hl := r.len
    have hs := r.sz
    rw [empty_toList (r.pos hp), cond_false, show (((List.length prs : Int)) == 0) = false by rw [beq_eq_false_iff_ne]; omega, cond_false]
    have e1 := fin_same h y (by omega) _ rfl
    have e2 := fin_i h prs (by omega) (by rw [r.eq]; omega)
    rw [r.eq] at e2
    exact ⟨_, e1, e2⟩
theorem row_same (i : Nat) (hi : i < net.length) (ho : ∀ prs y, PR prs y (7 * (i + 1)) → ∃ t, s_PlaceText_l0 y (dgs st (i + 1)) ((i + 1 : Nat) : Int) net kd st = some t ∧ i_PlaceText_l0 net (net.length : Int) ((i + 1 : Nat) : Int) net kd st prs = some t) :
    ∀ k, k ≤ net.length → ∀ prs y, PR prs y (7 * i + k) → ∃ t, s_PlaceText_l1 y (dgs st (i + 1)) (i : Int) (k : Int) net kd st = some t ∧ i_PlaceText_l1 (i : Int) (net.getD i 0) (k : Int) net (net.length : Int) (i : Int) net kd st prs = some t := by
  have hnl : net.length ≤ 6 := h.1.hi
  have z := z14
  refine advN ?_ fun k hk ih => ?_
  · intro prs y r
    rw [s_PlaceText_l1_eq, i_PlaceText_l1_eq, cnd_f (by omega), cnd_f (by omega), w1 hi (by omega)]
    exact ho prs y ⟨r.eq, r.pos, by have := r.len; omega, r.sz⟩
  · intro prs y r
    have hl := r.len
    have hs := r.sz
    have hx := (h.1.rng i hi).1
    rw [s_PlaceText_l1_eq, i_PlaceText_l1_eq, cnd_t (by omega), cnd_t (by omega), if_pos (inN hi), if_neg (show ¬ ((k : Nat) : Int) < 0 by omega), if_neg (show ¬ ((k : Nat) : Int) < 0 by omega), gN, bit_and _ (show k ≤ 64 by omega), bit_mod hx (show k ≤ 64 by omega), w1 hk (by omega)]
    rcases bt01 (net.getD i 0) k with hb | hb
    · rw [hb, show ((0 : Int) == 0) = true from rfl, show ((0 : Int) == 1) = false from rfl, cond_true, cond_false]
      exact ih prs y ⟨r.eq, r.pos, by omega, hs⟩
    · rw [hb, show ((1 : Int) == 0) = false from rfl, show ((1 : Int) == 1) = true from rfl, cond_true, cond_false, itoa_val (by omega) (by omega), Option.bind_some, itoa_val (by omega) (by omega), Option.bind_some]
      have a1 := itoa_size (n := (i : Int)) (by omega) (by omega)
      have a2 := itoa_size (n := (k : Int)) (by omega) (by omega)
      have p1 := itoa_pos (n := (i : Int)) (by omega) (by omega)
      rw [if_pos (show (itoaS (i : Int)).size + (itoaS (k : Int)).size ≤ 9223372036854775807 by omega), if_pos (show (List.length prs + List.length ([(itoaS (i : Int) ++ itoaS (k : Int))] : List ByteArray)) * 16 ≤ 140737488355328 by simp; omega)]
      have j3 : ∀ y' : ByteArray, y'.size ≤ 1000 → s_PlaceText_j3 y' (dgs st (i + 1)) (i : Int) (k : Int) net kd st = s_PlaceText_l1 ((y' ++ itoaS (i : Int)) ++ itoaS (k : Int)) (dgs st (i + 1)) (i : Int) ((k + 1 : Nat) : Int) net kd st := fun y' hy' => by
        rw [s_PlaceText_j3_eq, num_val (by omega) (by omega), Option.bind_some, if_pos (by omega), num_val (by omega) (by omega), Option.bind_some, if_pos (by simp only [ByteArray.size_append]; omega), w1 hk (by omega)]
      by_cases hp : prs = []
      · subst hp
        have hy : y = ByteArray.empty := r.eq.symm.trans (joinS_nil _)
        subst hy
        rw [show (!(ByteArray.toList ByteArray.empty == ByteArray.toList ByteArray.empty)) = false from by simp, cond_false, j3 _ (by simp)]
        refine ih _ _ ⟨?_, fun _ => ?_, by simp; omega, ?_⟩
        · rw [List.nil_append, joinS_one, ByteArray.empty_append]
        · simp only [ByteArray.size_append]; omega
        · simp only [ByteArray.size_append, List.nil_append, List.length_cons, List.length_nil]; simp; omega
      · rw [empty_toList (r.pos hp), Bool.not_false, cond_true, if_pos (show y.size + ByteArray.size str14 ≤ 9223372036854775807 by omega), j3 _ (by simp only [ByteArray.size_append]; omega)]
        refine ih _ _ ⟨?_, fun _ => ?_, by simp; omega, ?_⟩
        · rw [joinS_snoc hp, r.eq, ByteArray.append_assoc, ByteArray.append_assoc, ByteArray.append_assoc]
        · simp only [ByteArray.size_append]; omega
        · simp only [ByteArray.size_append, List.length_append, List.length_cons, List.length_nil]; omega
theorem all_same : ∀ i, i ≤ net.length → ∀ prs y, PR prs y (7 * i) → ∃ t, s_PlaceText_l0 y (dgs st i) (i : Int) net kd st = some t ∧ i_PlaceText_l0 net (net.length : Int) (i : Int) net kd st prs = some t := by
  have hnl : net.length ≤ 6 := h.1.hi
  have he := h.2.2
  have hst := st_rng h
  refine advN ?_ fun i hi ih => ?_
  · intro prs y r
    rw [s_PlaceText_l0_eq, i_PlaceText_l0_eq, cnd_f (by omega), cnd_f (by omega), he]
    exact end_same h prs y ⟨r.eq, r.pos, by have := r.len; omega, r.sz⟩
  · intro prs y r
    have hi' : i < st.length := by omega
    have h2 := hst i hi'
    have a1 := itoa_size h2.1 h2.2
    have a3 := dgs_size hst i (by omega)
    rw [s_PlaceText_l0_eq, i_PlaceText_l0_eq, cnd_t (by omega), cnd_t (by omega), if_pos (inN hi'), if_pos (inN hi), gN, gN, num_val h2.1 h2.2, Option.bind_some, if_pos (by omega), w1 hi (by omega)]
    exact row_same h i hi ih (i + 1) (by omega) prs y ⟨r.eq, r.pos, by have := r.len; omega, r.sz⟩
end
theorem placeText_same (net : List Int) (kd : Int) (st : List Int) (hs : st.length ≤ 4611686018427387904) : ∃ t, s_PlaceText_f (net, kd, st) = some t ∧ i_PlaceText_f (net, kd, st) = some t := by
  rw [s_PlaceText_f_eq, i_PlaceText_f_eq, spl net kd st hs, ipl net kd st hs, Option.bind_some, Option.bind_some]
  by_cases h : PlP net kd st
  · rw [decide_eq_true h]
    exact all_same h 0 (by omega) [] _ ⟨joinS_nil _, fun h => absurd rfl h, by simp, by simp⟩
  · rw [decide_eq_false h]
    exact ⟨_, rfl, rfl⟩
end FN

/-! Places read. -/
namespace FN
open Go
abbrev orb (z : List Int) (a b : Int) : List Int := List.set z (a : Int).toNat (Go.bits .or IntKind.i64 (List.getD z (a : Int).toNat 0) (IntKind.i64.wrap (1 * 2 ^ min (b : Int).toNat IntKind.i64.bits)))
def stepP (z : List Int) (a b : Int) : List Int := orb (orb z a b) b a
theorem stepP_len (z : List Int) (a b : Int) : (stepP z a b).length = z.length := by simp [stepP, orb]
def pairsF (n : Int) : List (List UInt8) → List Int → Option (List Int)
  | [], z => some z
  | [x, y] :: ps, z => if 0 ≤ dig x ∧ dig x < n ∧ 0 ≤ dig y ∧ dig y < n then pairsF n ps (stepP z (dig x) (dig y)) else none
  | _ :: _, _ => none
abbrev Wl (w0 w1 w2 w3 : List UInt8) : List ByteArray := [ofL w0, ofL w1, ofL w2, ofL w3]
abbrev bad : List Int × Int × List Int × Bool := ([], 0, [], false)
theorem gR {rs : List (List UInt8)} {i : Nat} {p : List UInt8} (h : rs[i]? = some p) : List.getD (rs.map ofL) ((i : Int)).toNat ByteArray.empty = ofL p := by
  rw [Int.toNat_natCast, List.getD_eq_getElem?_getD, List.getElem?_map, h]; rfl
theorem two_bytes (x y : UInt8) : List.getD (ByteArray.data (ofL [x, y])).toList (0 : Int).toNat 0 = x ∧ List.getD (ByteArray.data (ofL [x, y])).toList (1 : Int).toNat 0 = y := ⟨rfl, rfl⟩
/-- The text of a place, by whom it is one. -/
noncomputable def ptx (z : List Int) (k : Int) (st : List Int) : ByteArray := (i_PlaceText_f (z, k, st)).getD ByteArray.empty
theorem ptx_val (z : List Int) (k : Int) (st : List Int) (hs : st.length ≤ 4611686018427387904) : i_PlaceText_f (z, k, st) = some (ptx z k st) ∧ s_PlaceText_f (z, k, st) = some (ptx z k st) := by
  obtain ⟨t, h1, h2⟩ := placeText_same z k st hs
  have : ptx z k st = t := by unfold ptx; rw [h2]; rfl
  rw [this]
  exact ⟨h2, h1⟩
/-- The last look. -/
noncomputable def finP (S : ByteArray) (z : List Int) (k : Int) (st : List Int) : List Int × Int × List Int × Bool := if ptx z k st = S then (z, k, st, true) else bad
theorem beq_bytes {a b : ByteArray} {α : Type} {x y : α} : cond (!(ByteArray.toList a == ByteArray.toList b)) x y = if a = b then y else x := by
  rw [toL, toL]
  by_cases h : a = b
  · rw [if_pos h, h]; simp
  · rw [if_neg h]
    have : (a.data.toList == b.data.toList) = false := by
      rw [beq_eq_false_iff_ne]
      intro e
      exact h (ba_ext e)
    rw [this]; rfl
section
variable {S : ByteArray} {w0 w1 w2 w3 : List UInt8}
theorem i_fin (k : Int) (z st : List Int) (hs : st.length ≤ 4611686018427387904) : (Option.bind (i_PlaceText_f (z, k, st)) fun r1 => (cond ((!(ByteArray.toList r1 == ByteArray.toList S))) (some (([] : List Int), (0 : Int), ([] : List Int), false)) (some (z, k, st, true)))) = some (finP S z k st) := by
  rw [(ptx_val z k st hs).1, Option.bind_some, beq_bytes]
  unfold finP
  split <;> rfl
theorem stD {j : Nat} (hj : j < w3.length) : IntKind.i64.wrap (IntKind.i64.wrap ((List.getD (ByteArray.data (ofL w3)).toList ((j : Int)).toNat 0).toNat : Int) - 48) = dig w3[j] := by
  rw [dgt hj, dW]
theorem map_take {j : Nat} (hj : j < w3.length) : (w3.take (j + 1)).map dig = (w3.take j).map dig ++ [dig w3[j]] := by
  rw [List.take_succ_eq_append_getElem hj, List.map_append]; rfl
theorem i_state (hw : w3.length ≤ 1099511627776) (k0 k : Int) (z : List Int) : ∀ j, j ≤ w3.length → 1 ≤ j → i_ReadPlace_l5 S (Wl w0 w1 w2 w3) (w3.length : Int) (j : Int) k0 k z ((w3.take j).map dig) = some (finP S z k (w3.map dig)) := by
  refine advN ?_ fun j hj ih => ?_
  · intro _
    rw [i_ReadPlace_l5_eq, cnd_f (by omega), i_ReadPlace_j8_eq, List.take_length]
    exact i_fin k z _ (by simp; omega)
  · intro h1
    rw [i_ReadPlace_l5_eq, cnd_t (by omega), if_pos (by simp), show List.getD (Wl w0 w1 w2 w3) (3 : Int).toNat ByteArray.empty = ofL w3 from rfl, ofL_size, if_pos (inN hj), stD hj, if_pos (by simp; omega), FN.w1 hj (by omega), ← map_take hj]
    exact ih (by omega)
theorem i_state0 (hw : w3.length ≤ 1099511627776) (k0 k : Int) (z : List Int) : i_ReadPlace_j1 S (Wl w0 w1 w2 w3) k0 k z = some (finP S z k (w3.map dig)) := by
  rw [i_ReadPlace_j1_eq, if_pos (by simp), show List.getD (Wl w0 w1 w2 w3) (3 : Int).toNat ByteArray.empty = ofL w3 from rfl, ofL_size, i_ReadPlace_l3_eq]
  by_cases h : 0 < w3.length
  · have := stD (j := 0) h
    rw [cnd_t (by omega), if_pos (by simp), show List.getD (Wl w0 w1 w2 w3) (3 : Int).toNat ByteArray.empty = ofL w3 from rfl, ofL_size, if_pos ⟨by omega, by omega⟩, show IntKind.i64.wrap (IntKind.i64.wrap ((List.getD (ByteArray.data (ofL w3)).toList (0 : Int).toNat 0).toNat : Int) - 48) = dig w3[0] from this, if_pos (by simp), show IntKind.i64.wrap ((0 : Int) + 1) = ((1 : Nat) : Int) from rfl]
    have e : (w3.take 1).map dig = [] ++ [dig w3[0]] := map_take h
    rw [← e]
    exact i_state hw k0 k z 1 (by omega) (by omega)
  · have h0 : w3 = [] := List.eq_nil_of_length_eq_zero (by omega)
    subst h0
    rw [cnd_f (by simp), i_ReadPlace_j6_eq]
    exact i_fin k z [] (by simp)
theorem drop_at {rs : List (List UInt8)} {i : Nat} (hi : i < rs.length) : ∃ p, rs[i]? = some p ∧ rs.drop i = p :: rs.drop (i + 1) := ⟨rs[i], List.getElem?_eq_getElem hi, List.drop_eq_getElem_cons hi⟩
theorem i_pairs (hw : w3.length ≤ 1099511627776) {n : Int} (hn : n ≤ 6) {rs : List (List UInt8)} (hrs : rs.length ≤ 1099511627776) (k0 k : Int) : ∀ i, i ≤ rs.length → ∀ z : List Int, (z.length : Int) = n →
    i_ReadPlace_l0 S (Wl w0 w1 w2 w3) n (rs.map ofL) (rs.length : Int) (i : Int) k0 k z = some (match pairsF n (rs.drop i) z with | some z' => finP S z' k (w3.map dig) | none => bad) := by
  refine advN ?_ fun i hi ih => ?_
  · intro z hz
    rw [i_ReadPlace_l0_eq, cnd_f (by omega), List.drop_length, i_state0 hw]
    rfl
  · intro z hz
    obtain ⟨p, hp, hd⟩ := drop_at hi
    rw [i_ReadPlace_l0_eq, cnd_t (by omega), if_pos (by rw [List.length_map]; exact inN hi), gR hp, ofL_size, hd]
    match p with
    | [] => rw [bne_t (by simp)]; rfl
    | [_] => rw [bne_t (by simp)]; rfl
    | _ :: _ :: _ :: _ => rw [bne_t (by simp; omega)]; rfl
    | [x, y] =>
      rw [bne_f (by simp), if_pos (by simp), if_pos (by simp), (two_bytes x y).1, (two_bytes x y).2, dW, dW, i_ReadPlace_j2_eq]
      unfold pairsF
      by_cases h1 : dig x < 0
      · rw [cnd_t h1, if_neg (by omega)]
      rw [cnd_f h1]
      by_cases h2 : n ≤ dig x
      · rw [cnd_t h2, if_neg (by omega)]
      rw [cnd_f h2]
      by_cases h3 : dig y < 0
      · rw [cnd_t h3, if_neg (by omega)]
      rw [cnd_f h3]
      by_cases h4 : n ≤ dig y
      · rw [cnd_t h4, if_neg (by omega)]
      rw [cnd_f h4, if_pos ⟨by omega, by omega, by omega, by omega⟩, i_ReadPlace_j4_eq, if_pos ⟨by omega, by omega⟩, if_neg h3, if_pos ⟨by omega, by omega⟩, i_ReadPlace_j7_eq, if_pos (by rw [List.length_set]; omega), if_neg h1, if_pos (by rw [List.length_set]; omega), FN.w1 hi (by omega)]
      exact ih (stepP z (dig x) (dig y)) (by rw [stepP_len]; exact hz)
end
/-- What is read, before the last look. -/
def rdP (L : List UInt8) : Option (List Int × Int × List Int) := match cutL 32 L with
  | [[a], w1, [k], w3] => if 1 ≤ dig a ∧ dig a ≤ 6 then (if w1 = [46] then some (List.replicate (dig a).toNat 0) else pairsF (dig a) (cutL 44 w1) (List.replicate (dig a).toNat 0)).map fun z => (z, dig k, w3.map dig) else none
  | _ => none
noncomputable def readP (L : List UInt8) : List Int × Int × List Int × Bool := match rdP L with
  | some (z, k, st) => finP (ofL L) z k st
  | none => bad
theorem cutL_word (c : UInt8) : ∀ l : List UInt8, ∀ a ∈ cutL c l, a.length ≤ l.length
  | [], a, h => by simp [cutL] at h; simp [h]
  | x :: l, a, h => by
    have ih := cutL_word c l
    by_cases hx : x = c
    · subst hx
      rw [cutL_eq] at h
      rcases List.mem_cons.1 h with h | h
      · subst h; simp
      · have := ih a h; simp; omega
    · rw [cutL_neq hx] at h
      cases hz : cutL c l with
      | nil => exact absurd hz (cutL_ne c l)
      | cons y ys =>
        rw [hz] at h ih
        simp only [preL, List.mem_cons] at h
        rcases h with h | h
        · subst h
          have := ih y (by simp)
          simp; omega
        · have := ih a (by simp [h]); simp; omega
theorem rdP_none {L : List UInt8} (h : ∀ a w1 k w3, cutL 32 L ≠ [[a], w1, [k], w3]) : rdP L = none := by
  unfold rdP
  split
  · rename_i a w1 k w3 e
    exact absurd e (h a w1 k w3)
  · rfl
theorem readP_none {L : List UInt8} (h : ∀ a w1 k w3, cutL 32 L ≠ [[a], w1, [k], w3]) : readP L = bad := by
  unfold readP
  rw [rdP_none h]
theorem readP_some {L : List UInt8} {a k : UInt8} {w1 w3 : List UInt8} (h : cutL 32 L = [[a], w1, [k], w3]) : readP L = if 1 ≤ dig a ∧ dig a ≤ 6 then (match (if w1 = [46] then some (List.replicate (dig a).toNat 0) else pairsF (dig a) (cutL 44 w1) (List.replicate (dig a).toNat 0)) with | some z' => finP (ofL L) z' (dig k) (w3.map dig) | none => bad) else bad := by
  unfold readP rdP
  rw [h]
  simp only
  by_cases c : 1 ≤ dig a ∧ dig a ≤ 6
  · rw [if_pos c, if_pos c]
    generalize (if w1 = [46] then some (List.replicate (dig a).toNat 0) else pairsF (dig a) (cutL 44 w1) (List.replicate (dig a).toNat 0)) = o
    cases o <;> rfl
  · rw [if_neg c, if_neg c]
theorem four {α : Type} {l : List α} (h : l.length = 4) : ∃ a b c d, l = [a, b, c, d] := by
  match l, h with
  | [a, b, c, d], _ => exact ⟨a, b, c, d, rfl⟩
theorem single {w : List UInt8} (h : w.length = 1) : ∃ a, w = [a] := by
  match w, h with
  | [a], _ => exact ⟨a, rfl⟩
theorem g0 (w0 w1 w2 w3 : List UInt8) : List.getD (Wl w0 w1 w2 w3) (0 : Int).toNat ByteArray.empty = ofL w0 := rfl
theorem g1 (w0 w1 w2 w3 : List UInt8) : List.getD (Wl w0 w1 w2 w3) (1 : Int).toNat ByteArray.empty = ofL w1 := rfl
theorem g2 (w0 w1 w2 w3 : List UInt8) : List.getD (Wl w0 w1 w2 w3) (2 : Int).toNat ByteArray.empty = ofL w2 := rfl
theorem b0 (a : UInt8) : List.getD (ByteArray.data (ofL [a])).toList (0 : Int).toNat 0 = a := rfl
theorem i_read (L : List UInt8) (hL : L.length ≤ 1048577) : i_ReadPlace_f (ofL L) = some (readP L) := by
  rw [i_ReadPlace_f_eq, show x_strings_Split_f (ofL L, str1) = _ from split_val L 32 (by omega), Option.bind_some, List.length_map]
  by_cases h4 : (cutL 32 L).length = 4
  · obtain ⟨w0, w1, w2, w3, hws⟩ := four h4
    have hw3 : w3.length ≤ L.length := cutL_word 32 L w3 (by rw [hws]; simp)
    have hw1 : w1.length ≤ L.length := cutL_word 32 L w1 (by rw [hws]; simp)
    have hr1 := cutL_len 44 w1
    rw [bne_f (by rw [h4]; rfl), hws, show List.map ofL [w0, w1, w2, w3] = Wl w0 w1 w2 w3 from rfl, if_pos (by simp), g0, ofL_size]
    by_cases h0 : w0.length = 1
    · obtain ⟨a, rfl⟩ := single h0
      rw [bne_f (by simp), if_pos (by simp), g2, ofL_size]
      by_cases h2 : w2.length = 1
      · obtain ⟨k, rfl⟩ := single h2
        rw [bne_f (by simp), readP_some hws, if_pos (by simp), if_pos (by simp), b0, dW]
        by_cases c1 : dig a < 1
        · rw [cnd_t c1, if_neg (by omega)]
        rw [cnd_f c1]
        by_cases c2 : 6 < dig a
        · rw [cnd_t c2, if_neg (by omega)]
        rw [cnd_f c2, if_pos (show 1 ≤ dig a ∧ dig a ≤ 6 by omega), if_pos (by simp), if_pos (by simp), b0, dW, if_pos ⟨by omega, by omega, by omega⟩, if_pos (by simp), g1, beq_bytes]
        by_cases c3 : w1 = [46]
        · subst c3
          rw [if_pos rfl, if_pos (show ofL [46] = str15 from rfl), i_state0 (by omega)]
        · rw [if_neg c3, if_neg (show ¬ ofL w1 = str15 from fun e => c3 (ofL_inj (b := [46]) e)), if_pos (by simp), show x_strings_Split_f (ofL w1, str14) = _ from split_val w1 44 (by omega), Option.bind_some, List.length_map]
          have := i_pairs (S := ofL L) (w0 := [a]) (w1 := w1) (w2 := [k]) (w3 := w3) (by omega) (n := dig a) (by omega) (rs := cutL 44 w1) (by omega) 0 (dig k) 0 (by omega) (List.replicate (dig a).toNat 0) (by rw [List.length_replicate]; omega)
          rw [List.drop_zero] at this
          exact this
      · rw [bne_t (by omega), readP_none fun a' w1' k' w3' e => by rw [hws] at e; injection e with _ e; injection e with _ e; injection e with e _; rw [e] at h2; exact h2 rfl]
    · rw [bne_t (by omega), readP_none fun a' w1' k' w3' e => by rw [hws] at e; injection e with e _; rw [e] at h0; exact h0 rfl]
  · rw [bne_t (by omega), readP_none fun a w1 k w3 e => h4 (by rw [e]; rfl)]
end FN

/-! The text of a place, told; and read back. -/
namespace FN
open Go
theorem ext_of_getD {a b : List Int} (h : a.length = b.length) (he : ∀ j, j < a.length → a.getD j 0 = b.getD j 0) : a = b := by
  apply List.ext_getElem h
  intro i h1 h2
  have := he i h1
  simpa [List.getD_eq_getElem?_getD, List.getElem?_eq_getElem h1, List.getElem?_eq_getElem h2] using this
theorem itoa_d : (List.range 10).all (fun a => decide ((itoaS (a : Int)).data.toList = [UInt8.ofNat (48 + a)]) && decide (dig (UInt8.ofNat (48 + a)) = (a : Int)) && decide ((UInt8.ofNat (48 + a)).toNat = 48 + a)) = true := by kernel_rfl
theorem itoa_l {a : Nat} (h : a < 10) : (itoaS (a : Int)).data.toList = [UInt8.ofNat (48 + a)] ∧ dig (UInt8.ofNat (48 + a)) = (a : Int) ∧ (UInt8.ofNat (48 + a)).toNat = 48 + a := by
  have h1 := List.all_eq_true.1 itoa_d a (List.mem_range.2 h)
  simp only [Bool.and_eq_true, decide_eq_true_eq] at h1
  exact ⟨h1.1.1, h1.1.2, h1.2⟩
theorem or_d : (List.range 64).all (fun x => (List.range 6).all fun k => decide (0 ≤ Go.bits .or IntKind.i64 (x : Int) (2 ^ k) ∧ Go.bits .or IntKind.i64 (x : Int) (2 ^ k) < 64) && (List.range 6).all fun b => decide (bt (Go.bits .or IntKind.i64 (x : Int) (2 ^ k)) b = if b = k then 1 else bt (x : Int) b)) = true := by kernel_rfl
theorem or_l {x : Int} (h0 : 0 ≤ x) (h1 : x < 64) {k : Nat} (hk : k < 6) : (0 ≤ Go.bits .or IntKind.i64 x (2 ^ k) ∧ Go.bits .or IntKind.i64 x (2 ^ k) < 64) ∧ ∀ b, b < 6 → bt (Go.bits .or IntKind.i64 x (2 ^ k)) b = if b = k then 1 else bt x b := by
  obtain ⟨m, rfl⟩ : ∃ m : Nat, x = m := ⟨x.toNat, by omega⟩
  have h2 := List.all_eq_true.1 or_d m (List.mem_range.2 (by omega))
  have h3 := List.all_eq_true.1 h2 k (List.mem_range.2 hk)
  simp only [Bool.and_eq_true, decide_eq_true_eq] at h3
  refine ⟨h3.1, fun b hb => ?_⟩
  have h4 := List.all_eq_true.1 h3.2 b (List.mem_range.2 hb)
  simpa using h4
theorem ext6 {x y : Int} (h0 : 0 ≤ x) (h1 : x < 64) (h2 : 0 ≤ y) (h3 : y < 64) (h : ∀ b, b < 6 → bt x b = bt y b) : x = y := by
  have e0 := h 0 (by omega); have e1 := h 1 (by omega); have e2 := h 2 (by omega); have e3 := h 3 (by omega); have e4 := h 4 (by omega); have e5 := h 5 (by omega)
  simp only [bt] at e0 e1 e2 e3 e4 e5
  omega
theorem pairsF_app (n : Int) : ∀ (ps qs : List (List UInt8)) (z : List Int), pairsF n (ps ++ qs) z = (pairsF n ps z).bind (pairsF n qs)
  | [], _, _ => rfl
  | p :: ps, qs, z => by
    match p with
    | [] => rfl
    | [_] => rfl
    | _ :: _ :: _ :: _ => rfl
    | [x, y] =>
      simp only [List.cons_append, pairsF]
      split
      · exact pairsF_app n ps qs _
      · rfl
/-- The pairs that were told are those ahead of (i, k). -/
def ahead (i k a b : Nat) : Prop := min a b < i ∨ (min a b = i ∧ max a b < k)
instance (i k a b : Nat) : Decidable (ahead i k a b) := inferInstanceAs (Decidable (_ ∨ _))
structure Inv (net : List Int) (prs : List ByteArray) (y : ByteArray) (z : List Int) (i k : Nat) : Prop where
  pr : PR prs y (7 * i + k)
  fold : pairsF (net.length : Int) (prs.map (·.data.toList)) (List.replicate net.length 0) = some z
  fm : ∀ p ∈ prs, ∃ a b, a < 6 ∧ b < 6 ∧ p.data.toList = [UInt8.ofNat (48 + a), UInt8.ofNat (48 + b)]
  zl : z.length = net.length
  zr : ∀ a, a < net.length → 0 ≤ z.getD a 0 ∧ z.getD a 0 < 64
  zb : ∀ a, a < net.length → ∀ b, b < 6 → bt (z.getD a 0) b = if ahead i k a b then bt (net.getD a 0) b else 0
theorem orb_at {z : List Int} {a b : Nat} (hb : b ≤ 60) (ha : a < z.length) (c : Nat) : (orb z (a : Int) (b : Int)).getD c 0 = if c = a then Go.bits .or IntKind.i64 (z.getD a 0) (2 ^ b) else z.getD c 0 := by
  unfold orb
  rw [sh1 (by omega), Int.toNat_natCast]
  simp only [List.getD_eq_getElem?_getD]
  by_cases h : c = a
  · subst h; rw [if_pos rfl, List.getElem?_set_self ha]; rfl
  · rw [if_neg h, List.getElem?_set_ne (Ne.symm h)]
section
variable {net st : List Int} {kd : Int} (h : PlP net kd st)
include h
theorem net_hi {a b : Nat} (ha : a < net.length) (hb : net.length ≤ b) : bt (net.getD a 0) b = 0 := by
  have hr := h.1.rng a ha
  have hp : (2 : Int) ^ net.length ≤ 2 ^ b := by exact_mod_cast Nat.pow_le_pow_right (show 0 < 2 by omega) hb
  unfold bt
  rw [Int.ediv_eq_zero_of_lt hr.1 (by omega)]
  rfl
theorem net64 {a : Nat} (ha : a < net.length) : 0 ≤ net.getD a 0 ∧ net.getD a 0 < 64 := by
  have hr := h.1.rng a ha
  have := (pow6 h.1.hi).1
  omega
theorem inv_start {prs : List ByteArray} {y : ByteArray} {z : List Int} {i : Nat} (r : Inv net prs y z i 0) : Inv net prs y z i (i + 1) := by
  refine ⟨⟨r.pr.eq, r.pr.pos, by have := r.pr.len; omega, r.pr.sz⟩, r.fold, r.fm, r.zl, r.zr, fun a ha b hb => ?_⟩
  rw [r.zb a ha b hb]
  by_cases c : a = i ∧ b = i
  · obtain ⟨rfl, rfl⟩ := c
    rw [if_neg (by unfold ahead; omega), if_pos (by unfold ahead; omega), h.1.self _ ha]
  · have : ahead i 0 a b ↔ ahead i (i + 1) a b := by unfold ahead; omega
    simp only [this]
theorem inv_end {prs : List ByteArray} {y : ByteArray} {z : List Int} {i : Nat} (r : Inv net prs y z i net.length) : Inv net prs y z (i + 1) 0 := by
  have hn := h.1.hi
  refine ⟨⟨r.pr.eq, r.pr.pos, by have := r.pr.len; omega, r.pr.sz⟩, r.fold, r.fm, r.zl, r.zr, fun a ha b hb => ?_⟩
  rw [r.zb a ha b hb]
  by_cases hb' : b < net.length
  · have : ahead i net.length a b ↔ ahead (i + 1) 0 a b := by unfold ahead; omega
    simp only [this]
  · rw [net_hi h ha (by omega)]
    simp
theorem inv_skip {prs : List ByteArray} {y : ByteArray} {z : List Int} {i k : Nat} (hi : i < net.length) (hik : i < k) (hk : k < net.length) (h0 : bt (net.getD i 0) k = 0) (r : Inv net prs y z i k) : Inv net prs y z i (k + 1) := by
  refine ⟨⟨r.pr.eq, r.pr.pos, by have := r.pr.len; omega, r.pr.sz⟩, r.fold, r.fm, r.zl, r.zr, fun a ha b hb => ?_⟩
  rw [r.zb a ha b hb]
  by_cases c : (a = i ∧ b = k) ∨ (a = k ∧ b = i)
  · have e : bt (net.getD a 0) b = 0 := by
      rcases c with ⟨rfl, rfl⟩ | ⟨rfl, rfl⟩
      · exact h0
      · rw [h.1.sym _ ha _ hi]; exact h0
    rw [e]; simp
  · have : ahead i k a b ↔ ahead i (k + 1) a b := by unfold ahead; omega
    simp only [this]
theorem inv_take {prs : List ByteArray} {y y' : ByteArray} {z : List Int} {i k : Nat} (hi : i < net.length) (hik : i < k) (hk : k < net.length) (h1 : bt (net.getD i 0) k = 1) (r : Inv net prs y z i k) (hp : PR (prs ++ [itoaS (i : Int) ++ itoaS (k : Int)]) y' (7 * i + (k + 1))) :
    Inv net (prs ++ [itoaS (i : Int) ++ itoaS (k : Int)]) y' (stepP z (i : Int) (k : Int)) i (k + 1) := by
  have hn := h.1.hi
  obtain ⟨l1, d1, _⟩ := itoa_l (a := i) (by omega)
  obtain ⟨l2, d2, _⟩ := itoa_l (a := k) (by omega)
  have hl : (itoaS (i : Int) ++ itoaS (k : Int)).data.toList = [UInt8.ofNat (48 + i), UInt8.ofNat (48 + k)] := by rw [ba_app, l1, l2]; rfl
  have g : ∀ c, (stepP z (i : Int) (k : Int)).getD c 0 = if c = k then Go.bits .or IntKind.i64 (z.getD k 0) (2 ^ i) else if c = i then Go.bits .or IntKind.i64 (z.getD i 0) (2 ^ k) else z.getD c 0 := fun c => by
    unfold stepP
    have hz := r.zl
    rw [orb_at (z := orb z (i : Int) (k : Int)) (a := k) (b := i) (by omega) (by rw [List.length_set]; omega) c, orb_at (z := z) (a := i) (b := k) (by omega) (by omega) k, orb_at (z := z) (a := i) (b := k) (by omega) (by omega) c, if_neg (show ¬ k = i by omega)]
  have oi := or_l (r.zr i hi).1 (r.zr i hi).2 (k := k) (by omega)
  have ok := or_l (r.zr k hk).1 (r.zr k hk).2 (k := i) (by omega)
  refine ⟨hp, ?_, fun p hp => ?_, by rw [stepP_len]; exact r.zl, fun a ha => ?_, fun a ha b hb => ?_⟩
  · rw [List.map_append, pairsF_app, r.fold, Option.bind_some, List.map_cons, List.map_nil, hl, pairsF, d1, d2, if_pos ⟨by omega, by omega, by omega, by omega⟩]
    rfl
  · rcases List.mem_append.1 hp with hp | hp
    · exact r.fm p hp
    · have : p = itoaS (i : Int) ++ itoaS (k : Int) := by simpa using hp
      rw [this]
      exact ⟨i, k, by omega, by omega, hl⟩
  · rw [g]
    split
    · exact ok.1
    · split
      · exact oi.1
      · exact r.zr a ha
  · rw [g]
    by_cases ca : a = k
    · rw [if_pos ca, ok.2 b hb]
      by_cases cb : b = i
      · rw [if_pos cb, ca, cb, if_pos (by unfold ahead; omega), h.1.sym k hk i hi, h1]
      · rw [if_neg cb, r.zb k hk b hb, ca]
        have : ahead i k k b ↔ ahead i (k + 1) k b := by unfold ahead; omega
        simp only [this]
    · rw [if_neg ca]
      by_cases ci : a = i
      · rw [if_pos ci, oi.2 b hb]
        by_cases cb : b = k
        · rw [if_pos cb, ci, cb, if_pos (by unfold ahead; omega), h1]
        · rw [if_neg cb, r.zb i hi b hb, ci]
          have : ahead i k i b ↔ ahead i (k + 1) i b := by unfold ahead; omega
          simp only [this]
      · rw [if_neg ci, r.zb a ha b hb]
        have : ahead i k a b ↔ ahead i (k + 1) a b := by unfold ahead; omega
        simp only [this]
def GoalT (net st : List Int) (kd : Int) (o : Option ByteArray) : Prop := ∃ prs y z, Inv net prs y z net.length 0 ∧ o = s_PlaceText_j2 y (dgs st st.length) net kd st
theorem row_val (i : Nat) (hi : i < net.length) (ho : ∀ prs y z, Inv net prs y z (i + 1) 0 → GoalT net st kd (s_PlaceText_l0 y (dgs st (i + 1)) ((i + 1 : Nat) : Int) net kd st)) :
    ∀ k, k ≤ net.length → i < k → ∀ prs y z, Inv net prs y z i k → GoalT net st kd (s_PlaceText_l1 y (dgs st (i + 1)) (i : Int) (k : Int) net kd st) := by
  have hnl : net.length ≤ 6 := h.1.hi
  have z := z14
  refine advN ?_ fun k hk ih => ?_
  · intro _ prs y z r
    rw [s_PlaceText_l1_eq, cnd_f (by omega), w1 hi (by omega)]
    exact ho prs y z (inv_end h r)
  · intro hik prs y z' r
    have hl := r.pr.len
    have hs := r.pr.sz
    have hx := (h.1.rng i hi).1
    rw [s_PlaceText_l1_eq, cnd_t (by omega), if_pos (inN hi), if_neg (show ¬ ((k : Nat) : Int) < 0 by omega), gN, bit_mod hx (show k ≤ 64 by omega), w1 hk (by omega)]
    rcases bt01 (net.getD i 0) k with hb | hb
    · rw [hb, show ((0 : Int) == 0) = true from rfl, cond_true]
      exact ih (by omega) prs y z' (inv_skip h hi hik hk hb r)
    · rw [hb, show ((1 : Int) == 0) = false from rfl, cond_false]
      have a1 := itoa_size (n := (i : Int)) (by omega) (by omega)
      have a2 := itoa_size (n := (k : Int)) (by omega) (by omega)
      have p1 := itoa_pos (n := (i : Int)) (by omega) (by omega)
      have j3 : ∀ y' : ByteArray, y'.size ≤ 1000 → s_PlaceText_j3 y' (dgs st (i + 1)) (i : Int) (k : Int) net kd st = s_PlaceText_l1 ((y' ++ itoaS (i : Int)) ++ itoaS (k : Int)) (dgs st (i + 1)) (i : Int) ((k + 1 : Nat) : Int) net kd st := fun y' hy' => by
        rw [s_PlaceText_j3_eq, num_val (by omega) (by omega), Option.bind_some, if_pos (by omega), num_val (by omega) (by omega), Option.bind_some, if_pos (by simp only [ByteArray.size_append]; omega), w1 hk (by omega)]
      by_cases hp : prs = []
      · subst hp
        have hy : y = ByteArray.empty := r.pr.eq.symm.trans (joinS_nil _)
        subst hy
        rw [show (!(ByteArray.toList ByteArray.empty == ByteArray.toList ByteArray.empty)) = false from by simp, cond_false, j3 _ (by simp)]
        refine ih (by omega) _ _ _ (inv_take h hi hik hk hb r ⟨?_, fun _ => ?_, by simp; omega, ?_⟩)
        · rw [List.nil_append, joinS_one, ByteArray.empty_append]
        · simp only [ByteArray.size_append]; omega
        · simp only [ByteArray.size_append, List.nil_append, List.length_cons, List.length_nil]; simp; omega
      · rw [empty_toList (r.pr.pos hp), Bool.not_false, cond_true, if_pos (show y.size + ByteArray.size str14 ≤ 9223372036854775807 by omega), j3 _ (by simp only [ByteArray.size_append]; omega)]
        refine ih (by omega) _ _ _ (inv_take h hi hik hk hb r ⟨?_, fun _ => ?_, by simp; omega, ?_⟩)
        · rw [joinS_snoc hp, r.pr.eq, ByteArray.append_assoc, ByteArray.append_assoc, ByteArray.append_assoc]
        · simp only [ByteArray.size_append]; omega
        · simp only [ByteArray.size_append, List.length_append, List.length_cons, List.length_nil]; omega
theorem all_val : ∀ i, i ≤ net.length → ∀ prs y z, Inv net prs y z i 0 → GoalT net st kd (s_PlaceText_l0 y (dgs st i) (i : Int) net kd st) := by
  have hnl : net.length ≤ 6 := h.1.hi
  have he := h.2.2
  have hst := st_rng h
  refine advN ?_ fun i hi ih => ?_
  · intro prs y z r
    rw [s_PlaceText_l0_eq, cnd_f (by omega), he]
    exact ⟨prs, y, z, he ▸ r, rfl⟩
  · intro prs y z r
    have hi' : i < st.length := by omega
    have h2 := hst i hi'
    have a1 := itoa_size h2.1 h2.2
    have a3 := dgs_size hst i (by omega)
    rw [s_PlaceText_l0_eq, cnd_t (by omega), if_pos (inN hi'), gN, num_val h2.1 h2.2, Option.bind_some, if_pos (by omega), w1 hi (by omega)]
    exact row_val h i hi ih (i + 1) (by omega) (by omega) prs y z (inv_start h r)
theorem inv_last {prs : List ByteArray} {y : ByteArray} {z : List Int} (r : Inv net prs y z net.length 0) : z = net := by
  have hn := h.1.hi
  refine ext_of_getD r.zl fun a ha => ?_
  have ha' : a < net.length := by have := r.zl; omega
  refine ext6 (r.zr a ha').1 (r.zr a ha').2 (net64 h ha').1 (net64 h ha').2 fun b hb => ?_
  rw [r.zb a ha' b hb, if_pos (by unfold ahead; omega)]
omit h in
theorem inv_zero (hz : net.length ≤ 6) : Inv net [] ByteArray.empty (List.replicate net.length 0) 0 0 := by
  refine ⟨⟨joinS_nil _, fun h => absurd rfl h, by simp, by simp⟩, rfl, fun p hp => (by cases hp), by simp, fun a ha => ?_, fun a ha b hb => ?_⟩
  · have : (List.replicate net.length (0 : Int)).getD a 0 = 0 := by simp [List.getD_eq_getElem?_getD, ha]
    rw [this]; omega
  · have : (List.replicate net.length (0 : Int)).getD a 0 = 0 := by simp [List.getD_eq_getElem?_getD, ha]
    rw [this, if_neg (by unfold ahead; omega)]
    simp [bt]
end
/-- Bytes of joined pairs. -/
theorem cut_join : ∀ (prs : List ByteArray), prs ≠ [] → (∀ p ∈ prs, (44 : UInt8) ∉ p.data.toList) → cutL 44 (joinS prs str14).data.toList = prs.map (·.data.toList) := by
  have app : ∀ (l : List ByteArray) (t : List UInt8), (∀ p ∈ l, (44 : UInt8) ∉ p.data.toList) → ∀ x : List UInt8, (44 : UInt8) ∉ x → cutL 44 (x ++ Lib.joinTail [44] (l.map fun b => b.data.toList)) = x :: l.map fun b => b.data.toList := by
    intro l
    induction l with
    | nil => intro t _ x hx; simp [Lib.joinTail, cutL_one hx]
    | cons p l ih =>
      intro t hp x hx
      have := ih t (fun q hq => hp q (by simp [hq])) p.data.toList (hp p (by simp))
      have e : Lib.joinTail [44] ((p :: l).map fun b => b.data.toList) = 44 :: (p.data.toList ++ Lib.joinTail [44] (l.map fun b => b.data.toList)) := by simp [Lib.joinTail]
      rw [e, cutL_sep hx, this]
      rfl
  intro prs hne hp
  cases prs with
  | nil => exact absurd rfl hne
  | cons p l =>
    have := app l [] (fun q hq => hp q (by simp [hq])) p.data.toList (hp p (by simp))
    rw [List.map_cons, ← this]
    have e : (joinS (p :: l) str14).data.toList = Lib.join (p.data.toList :: l.map fun b => b.data.toList) [44] := rfl
    rw [e, Lib.join_cons]
end FN

