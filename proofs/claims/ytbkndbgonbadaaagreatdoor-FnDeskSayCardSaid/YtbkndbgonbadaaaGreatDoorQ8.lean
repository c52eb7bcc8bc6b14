/- Texts of the proof, joined: parts -/
import Derived.Test.YtbkndbgonbadaaaGreatDoorQ2
import Derived.Test.YtbkndbgonbadaaaGreatDoorQ5
import Derived.Test.YtbkndbgonbadaaaGreatDoorQ6
import Derived.Test.YtbkndbgonbadaaaGreatDoorQ7
import Derived.Test.YtbkndbgonbadaaaGreatDoorJ11
import Derived.Test.YtbkndbgonbadaaaGreatDoorJ12
import Derived.Test.YtbkndbgonbadaaaGreatDoorQ3
import Derived.Test.YtbkndbgonbadaaaGreatDoorQ4
import Derived.Test.YtbkndbgonbadaaaGreatDoorJ13
set_option linter.unusedVariables false
set_option linter.unusedSimpArgs false
set_option linter.unusedSectionVars false
/-! The text of a place is read as the place. -/
namespace FN
open Go
theorem szB (s : ByteArray) : s.size = s.data.toList.length := by rw [Array.length_toList]; rfl
def dgB (v : Int) : UInt8 := UInt8.ofNat (48 + v.toNat)
theorem dgB_l {v : Int} (h0 : 0 ≤ v) (h1 : v < 10) : (itoaS v).data.toList = [dgB v] ∧ dig (dgB v) = v ∧ (dgB v).toNat = 48 + v.toNat := by
  obtain ⟨m, rfl⟩ : ∃ m : Nat, v = m := ⟨v.toNat, by omega⟩
  exact itoa_l (by omega)
theorem no32 {v : Int} (h0 : 0 ≤ v) (h1 : v < 10) : (32 : UInt8) ≠ dgB v := fun e => by
  have h2 := (dgB_l h0 h1).2.2
  rw [← e] at h2
  have : (32 : UInt8).toNat = 32 := rfl
  omega
theorem dgs_data {st : List Int} (hs : ∀ j, j < st.length → 0 ≤ st.getD j 0 ∧ st.getD j 0 < 10) : ∀ i, i ≤ st.length → (dgs st i).data.toList = (st.take i).map dgB
  | 0, _ => rfl
  | i + 1, h => by
    have h1 := dgs_data hs i (by omega)
    have h2 := hs i (by omega)
    rw [dgs, ba_app, h1, (dgB_l h2.1 h2.2).1, List.take_succ_eq_append_getElem (show i < st.length by omega), List.map_append]
    have : st.getD i 0 = st[i] := by rw [List.getD_eq_getElem?_getD, List.getElem?_eq_getElem (by omega)]; rfl
    rw [this]; rfl
theorem mem_join {x : UInt8} : ∀ (prs : List ByteArray), x ∈ (joinS prs str14).data.toList → x = 44 ∨ ∃ p ∈ prs, x ∈ p.data.toList := by
  intro prs hx
  cases prs with
  | nil => cases hx
  | cons p l =>
    have e : (joinS (p :: l) str14).data.toList = Lib.join (p.data.toList :: l.map fun b => b.data.toList) [44] := rfl
    rw [e, Lib.join_cons, List.mem_append] at hx
    rcases hx with hx | hx
    · exact .inr ⟨p, by simp, hx⟩
    · simp only [Lib.joinTail, List.mem_flatten, List.mem_map] at hx
      obtain ⟨a, ⟨b, ⟨q, hq, rfl⟩, rfl⟩, h2⟩ := hx
      rw [List.mem_append] at h2
      rcases h2 with h2 | h2
      · exact .inl (by simpa using h2)
      · exact .inr ⟨q, by simp [hq], h2⟩
section
variable {net st : List Int} {kd : Int} (h : PlP net kd st)
include h
/-- The text: its middle part, and what is read of it. -/
theorem ptx_told : ∃ Y : List UInt8, (ptx net kd st).data.toList = [dgB net.length] ++ 32 :: (Y ++ 32 :: ([dgB kd] ++ 32 :: st.map dgB)) ∧ (32 : UInt8) ∉ Y ∧
    (if Y = [46] then some (List.replicate net.length 0) else pairsF (net.length : Int) (cutL 44 Y) (List.replicate net.length 0)) = some net ∧ Y.length ≤ 900 := by
  have hnl : net.length ≤ 6 := h.1.hi
  have hs : st.length ≤ 4611686018427387904 := by have := h.2.1.2.2.2.2; omega
  have hst : ∀ j, j < st.length → 0 ≤ st.getD j 0 ∧ st.getD j 0 < 10 := fun j hj => ⟨(h.2.1.1 j hj).1, by have := (h.2.1.1 j hj).2; have := h.2.1.2.2.1; omega⟩
  obtain ⟨prs, y, z, r, hG⟩ := all_val h 0 (by omega) [] ByteArray.empty _ (inv_zero hnl)
  have hz := inv_last h r
  subst hz
  have hf : s_PlaceText_f (z, kd, st) = s_PlaceText_j2 y (dgs st st.length) z kd st := by
    rw [s_PlaceText_f_eq, spl z kd st hs, Option.bind_some, decide_eq_true h]
    exact hG
  have hl := r.pr.len
  have hsz := r.pr.sz
  have hk := h.2.1.2.1
  have hk' := h.2.1.2.2.1
  have told : ∀ Y : ByteArray, Y.size ≤ 900 → s_PlaceText_j2 y (dgs st st.length) z kd st = s_PlaceText_j4 Y (dgs st st.length) z kd st → (ptx z kd st).data.toList = [dgB z.length] ++ 32 :: (Y.data.toList ++ 32 :: ([dgB kd] ++ 32 :: st.map dgB)) := by
    intro Y hY e
    have e1 : s_PlaceText_f (z, kd, st) = _ := (hf.trans e).trans (fin_same h Y hY _ rfl)
    rw [(ptx_val z kd st hs).2] at e1
    have e1 := Option.some.inj e1
    have d1 := (dgB_l (v := (z.length : Int)) (by omega) (by omega)).1
    have d2 := (dgB_l (v := kd) (by omega) (by omega)).1
    have d3 := dgs_data hst st.length (Nat.le_refl _)
    have d4 : str1.data.toList = [32] := rfl
    rw [e1, ba_app, ba_app, ba_app, ba_app, ba_app, ba_app, d1, d2, d3, d4, List.take_length]
    simp only [List.append_assoc, List.singleton_append, List.cons_append, List.nil_append]
  by_cases hp : prs = []
  · subst hp
    have hy : y = ByteArray.empty := r.pr.eq.symm.trans (joinS_nil _)
    subst hy
    refine ⟨[46], told str15 (by rw [z15]; omega) ?_, by decide, ?_, by simp⟩
    · rw [s_PlaceText_j2_eq, show (ByteArray.toList ByteArray.empty == ByteArray.toList ByteArray.empty) = true from by simp, cond_true]
    · rw [if_pos rfl]
      exact r.fold
  · have hpos : 0 < prs.length := List.length_pos_iff.2 hp
    have h44 : ∀ x : UInt8, x = 32 ∨ x = 44 → ∀ p ∈ prs, x ∉ p.data.toList := by
      intro x hx p hp hm
      obtain ⟨a, b, ha, hb, hl⟩ := r.fm p hp
      rw [hl] at hm
      have e1 := (itoa_l (a := a) (by omega)).2.2
      have e2 := (itoa_l (a := b) (by omega)).2.2
      have hx' : x.toNat ≤ 44 := by rcases hx with rfl | rfl <;> decide
      simp only [List.mem_cons, List.not_mem_nil, or_false] at hm
      rcases hm with rfl | rfl <;> omega
    refine ⟨y.data.toList, told y (by omega) ?_, ?_, ?_, by rw [show y.data.toList.length = y.size from by rw [Array.length_toList]; rfl]; omega⟩
    · rw [s_PlaceText_j2_eq, empty_toList (r.pr.pos hp), cond_false]
    · intro hm
      rw [← r.pr.eq] at hm
      rcases mem_join prs hm with h1 | ⟨p, hp, h1⟩
      · cases h1
      · exact h44 32 (.inl rfl) p hp h1
    · have hc : cutL 44 y.data.toList = prs.map (·.data.toList) := by
        rw [← r.pr.eq]
        exact cut_join prs hp (h44 44 (.inr rfl))
      rw [hc]
      have hne : y.data.toList ≠ [46] := by
        intro e
        rw [e] at hc
        have e2 : cutL 44 [46] = [[46]] := by decide
        rw [e2] at hc
        obtain ⟨p, l, rfl⟩ := List.exists_cons_of_ne_nil hp
        simp only [List.map_cons, List.cons.injEq] at hc
        obtain ⟨a, b, _, _, hl⟩ := r.fm p (by simp)
        rw [hl] at hc
        exact absurd hc.1 (by simp)
      rw [if_neg hne]
      exact r.fold
theorem ptx_cut : ∃ Y : List UInt8, cutL 32 (ptx net kd st).data.toList = [[dgB net.length], Y, [dgB kd], st.map dgB] ∧
    (if Y = [46] then some (List.replicate net.length 0) else pairsF (net.length : Int) (cutL 44 Y) (List.replicate net.length 0)) = some net ∧ (ptx net kd st).size ≤ 1000 := by
  have hnl : net.length ≤ 6 := h.1.hi
  have hk := h.2.1.2.1
  have hk' := h.2.1.2.2.1
  obtain ⟨Y, e1, e2, e3, e4⟩ := ptx_told h
  refine ⟨Y, ?_, e3, ?_⟩
  · have n1 : (32 : UInt8) ∉ [dgB (net.length : Int)] := by simpa using no32 (v := (net.length : Int)) (by omega) (by omega)
    have n2 : (32 : UInt8) ∉ [dgB kd] := by simpa using no32 (v := kd) (by omega) (by omega)
    have n3 : (32 : UInt8) ∉ st.map dgB := by
      intro hm
      obtain ⟨v, hv, e⟩ := List.mem_map.1 hm
      obtain ⟨i, hi⟩ := List.getElem?_of_mem hv
      obtain ⟨hl, hi⟩ := List.getElem?_eq_some_iff.1 hi
      have := h.2.1.1 i hl
      rw [List.getD_eq_getElem?_getD, List.getElem?_eq_getElem hl, hi] at this
      exact no32 (v := v) this.1 (by have := this.2; simp at this; omega) e.symm
    rw [e1, cutL_sep n1, cutL_sep e2, cutL_sep n2, cutL_one n3]
  · rw [szB, e1]
    have := h.2.1.2.2.2.2
    simp
    omega
theorem read_back : readP (ptx net kd st).data.toList = (net, kd, st, true) := by
  have hnl : net.length ≤ 6 := h.1.hi
  have hlo := h.1.lo
  have hk := h.2.1.2.1
  have hk' := h.2.1.2.2.1
  obtain ⟨Y, e1, e2, _⟩ := ptx_cut h
  have d1 := (dgB_l (v := (net.length : Int)) (by omega) (by omega)).2.1
  have d2 := (dgB_l (v := kd) (by omega) (by omega)).2.1
  have d3 : (st.map dgB).map dig = st := by
    rw [List.map_map]
    have : ∀ v ∈ st, (dig ∘ dgB) v = id v := by
      intro v hv
      obtain ⟨i, hi⟩ := List.getElem?_of_mem hv
      obtain ⟨hl, hi⟩ := List.getElem?_eq_some_iff.1 hi
      have := h.2.1.1 i hl
      rw [List.getD_eq_getElem?_getD, List.getElem?_eq_getElem hl, hi] at this
      exact (dgB_l (v := v) this.1 (by have := this.2; simp at this; omega)).2.1
    rw [List.map_congr_left this, List.map_id]
  have hc : (1 : Int) ≤ (net.length : Int) ∧ (net.length : Int) ≤ 6 := ⟨by omega, by omega⟩
  rw [readP_some e1, d1, d2, d3, if_pos hc, Int.toNat_natCast, e2]
  simp only
  unfold finP
  rw [of_data, if_pos rfl]
end
end FN

/-! The answers: the program's and the reference's alike. -/
namespace FN
open Go
theorem cut_sp : ∀ R : List UInt8, ((32 : UInt8) ∉ R ∧ Lib.index R [32] = -1) ∨ ∃ a S, R = a ++ 32 :: S ∧ (32 : UInt8) ∉ a ∧ Lib.index R [32] = (a.length : Int)
  | [] => .inl ⟨by simp, by simp [Lib.index]⟩
  | x :: R => by
    by_cases h : x = 32
    · subst h
      have hix : Lib.index (32 :: R) [32] = 0 := by rw [Lib.index]; simp [List.isPrefixOf]
      exact .inr ⟨[], R, rfl, by simp, hix⟩
    · have hp : ([32] : List UInt8).isPrefixOf (x :: R) = false := by simp [List.isPrefixOf, Ne.symm h]
      have hix : Lib.index (x :: R) [32] = if Lib.index R [32] == -1 then -1 else Lib.index R [32] + 1 := by rw [Lib.index, hp]; simp
      rcases cut_sp R with ⟨h1, h2⟩ | ⟨a, S, h1, h2, h3⟩
      · have hr : Lib.index (x :: R) [32] = -1 := by rw [hix, h2]; rfl
        exact .inl ⟨by simp [Ne.symm h, h1], hr⟩
      · have hr : Lib.index (x :: R) [32] = ((x :: a).length : Int) := by
          rw [hix, h3, if_neg (by rw [beq_iff_eq]; omega)]
          simp
        exact .inr ⟨x :: a, S, by rw [h1]; rfl, by simp [Ne.symm h, h2], hr⟩
theorem cut_none {L : List UInt8} (h : Lib.index L [32] = -1) : cut3 (ofL L) str1 = (ofL L, ofL [], false) := by
  unfold cut3
  have : Lib.cut (ofL L).data.toList str1.data.toList = (L, [], false) := by
    rw [ofL_data, show str1.data.toList = [32] from rfl]
    unfold Lib.cut
    rw [h]; rfl
  rw [this]; rfl
theorem cut_some {a S : List UInt8} (h : Lib.index (a ++ 32 :: S) [32] = (a.length : Int)) : cut3 (ofL (a ++ 32 :: S)) str1 = (ofL a, ofL S, true) := by
  unfold cut3
  have : Lib.cut (ofL (a ++ 32 :: S)).data.toList str1.data.toList = (a, S, true) := by
    rw [ofL_data, show str1.data.toList = [32] from rfl]
    unfold Lib.cut
    rw [h]
    simp
  rw [this]; rfl
theorem numOf_yes {S : List UInt8} (h : CanD S) (h6 : S.length ≤ 6) : numOfV (ofL S) = (valD 0 S, true) := by
  obtain ⟨h0, h1⟩ := can_len h
  have ha : Lib.atoiAll (ofL S).data.toList = .ok (valD 0 S) := by rw [ofL_data]; exact atoi_can h h6
  have hi : itoaG (valD 0 S) = ofL S := by
    obtain ⟨u, hu⟩ : ∃ u : Nat, valD 0 S = (u : Int) := ⟨(valD 0 S).toNat, by omega⟩
    have hc := can_dec h
    rw [hu] at hc ⊢
    rw [itoaG_eq, Lib.itoa_nonneg]
    rw [Int.toNat_natCast] at hc
    rw [hc]
  unfold numOfV
  rw [ha]
  simp only
  rw [if_pos hi, if_pos h0, decide_eq_true (h1.2 h6)]
theorem numOf_no {S : List UInt8} (h : ¬ (CanD S ∧ S.length ≤ 6)) : (numOfV (ofL S)).2 = false := by
  unfold numOfV
  cases ha : Lib.atoiAll (ofL S).data.toList with
  | ok v =>
    simp only
    by_cases hi : itoaG v = ofL S
    · rw [if_pos hi]
      by_cases h0 : 0 ≤ v
      · rw [if_pos h0]
        apply decide_eq_false
        intro h9
        obtain ⟨u, rfl⟩ : ∃ u : Nat, v = (u : Int) := ⟨v.toNat, by omega⟩
        rw [itoaG_eq, Lib.itoa_nonneg] at hi
        have hS := ofL_inj hi
        have hc := dec_can u
        rw [hS] at hc
        have hv := (dec_dig u).2.1
        rw [hS] at hv
        exact h ⟨hc, (can_len hc).2.1 (by omega)⟩
      · rw [if_neg h0]
    · rw [if_neg hi]
  | «syntax» => rfl
  | range => rfl
theorem can_no32 {S : List UInt8} (h : CanD S) : (32 : UInt8) ∉ S := fun hm => by
  have := h.2.1 32 hm
  exact absurd this (by decide)
/-- Both come to one text, which is not empty. -/
def Both (g g' : Option ByteArray) : Prop := ∃ t : ByteArray, g = some t ∧ g' = some t ∧ 0 < t.size
theorem Both.cond {c : Bool} {x y x' y' : Option ByteArray} (h1 : c = true → Both x x') (h2 : c = false → Both y y') : Both (cond c x y) (cond c x' y') := by
  cases c with
  | true => exact h1 rfl
  | false => exact h2 rfl
theorem Both.mk {t : ByteArray} (h : 0 < t.size) : Both (some t) (some t) := ⟨t, rfl, rfl, h⟩
theorem joinS_pos : ∀ {l : List Int}, l ≠ [] → 0 < (joinS (l.map itoaG) str14).size := by
  intro l
  refine rev_ind (P := fun l => l ≠ [] → 0 < (joinS (l.map itoaG) str14).size) (fun h => absurd rfl h) (fun l x _ _ => ?_) l
  have := itoaG_pos x
  rw [List.map_append, List.map_singleton]
  by_cases c : l = []
  · subst c
    rw [List.map_nil, List.nil_append, joinS_one]
    exact this
  · rw [joinS_snoc (by simpa using c), ByteArray.size_append]
    omega
theorem rowV_pos (l : List Int) : 0 < (rowV l).size := by
  unfold rowV
  split
  · decide
  · rename_i h; exact joinS_pos h
theorem rows_both {l : List Int} (hl : l.length ≤ 1000) (hv : ∀ v ∈ l, -1000000000 ≤ v ∧ v ≤ 1000000000) : i_rowText_f l = some (rowV l) ∧ s_l15Row_f l = some (rowV l) := ⟨i_row hl hv, s_row hl hv⟩
theorem get_mem {l : List Int} {lo hi : Int} (h : ∀ j, j < l.length → lo ≤ l.getD j 0 ∧ l.getD j 0 ≤ hi) : ∀ v ∈ l, lo ≤ v ∧ v ≤ hi := fun v hv => by
  obtain ⟨k, hk, rfl⟩ := List.getElem_of_mem hv
  have := h k hk
  rw [List.getD_eq_getElem?_getD, List.getElem?_eq_getElem hk] at this
  exact this
section
variable {a : List Int} {k : Int} {b : List Int} (h : PlP a k b)
include h
theorem ans_j0 (L : List UInt8) (hL : L.length ≤ 1099511627) : Both (i_answer_j0 (ofL L) (k == 3) a k b) (s_l15Answer_j0 (ofL L) a k b) := by
  have hm := PlP.sm h
  have hwhat : 0 < str44.size := by decide
  have hnone : 0 < str40.size := by decide
  have hcutS : s_l1Cut_f (ofL L, 32) = some ((cutL 32 L).map ofL) := cut_val L 32 (by omega)
  have hcutI : x_strings_Cut_f (ofL L, str1) = some (cut3 (ofL L) str1) := by
    unfold x_strings_Cut_f
    rw [if_pos (by rw [ofL_size]; omega)]
  have hnum : ∀ S : List UInt8, S.length ≤ L.length → i_numberOf_f (ofL S) = some (numOfV (ofL S)) := fun S hS => by
    unfold i_numberOf_f
    rw [if_pos (by rw [ofL_size]; omega)]
  rw [i_answer_j0_eq, s_l15Answer_j0_eq, hcutS, hcutI, Option.bind_some, Option.bind_some, List.length_map]
  rcases cut_sp L with ⟨h1, h2⟩ | ⟨w, S, h1, h2, h3⟩
  · rw [cut_none h2, cutL_one h1]
    simp only
    rw [hnum [] (by simp), Option.bind_some, numOf_no (S := []) (fun hh => hh.1.1 rfl), Bool.not_false, cond_true, bne_t (by simp)]
    exact .mk hwhat
  · subst h1
    have hlen : S.length ≤ (w ++ 32 :: S).length := by simp; omega
    rw [cut_some h3, cutL_sep h2]
    simp only
    rw [hnum S hlen, Option.bind_some]
    by_cases hc : CanD S ∧ S.length ≤ 6
    · have hv := can_len hc.1
      have hv9 := hv.2.2 hc.2
      have hcs : cutL 32 S = [S] := cutL_one (can_no32 hc.1)
      have g0 : List.getD ([ofL w, ofL S] : List ByteArray) (0 : Int).toNat ByteArray.empty = ofL w := rfl
      have g1 : List.getD ([ofL w, ofL S] : List ByteArray) (1 : Int).toNat ByteArray.empty = ofL S := rfl
      have in0 : (0 : Int) ≤ 0 ∧ (0 : Int) < (([w, S] : List (List UInt8)).length : Int) := by simp
      have in1 : (0 : Int) ≤ 1 ∧ (1 : Int) < (([w, S] : List (List UInt8)).length : Int) := by simp
      have h2l : ((([w, S] : List (List UInt8)).length : Nat) : Int) = 2 := rfl
      rw [numOf_yes hc.1 hc.2, hcs, bne_f h2l]
      simp only [List.map_cons, List.map_nil]
      rw [if_pos in1, if_pos in1, g0, g1, digits_val, if_pos hc, Option.bind_some, Option.bind_some, if_pos in0, cnd_f (show ¬ valD 0 S < 0 by omega), Bool.not_true, cond_false]
      generalize valD 0 S = n at hv hv9 ⊢
      have hn0 := hv.1
      refine .cond (fun _ => ?_) fun _ => .cond (fun _ => ?_) fun _ => .cond (fun _ => ?_) fun _ => .mk hwhat
      · obtain ⟨r, e1, e2, e3, e4⟩ := fired_val h hn0
        obtain ⟨f1, f2⟩ := rows_both (l := r) (by omega) fun v hv => by have := get_mem e4 v hv; omega
        rw [e1, e2, Option.bind_some, Option.bind_some, f1, f2]
        exact .mk (rowV_pos r)
      · by_cases c3 : k = 3
        · subst c3
          obtain ⟨r, e1, e2, e3, e4⟩ := turned_val h hn0
          obtain ⟨f1, f2⟩ := rows_both (l := r) (by omega) fun v hv => by have := get_mem e4 v hv; omega
          rw [show ((3 : Int) == 3) = true from rfl, show ((3 : Int) != 3) = false from rfl, Bool.not_true, cond_false, cond_false, e1, e2, Option.bind_some, Option.bind_some, f1, f2]
          exact .mk (rowV_pos r)
        · rw [beq_false_of_ne c3, bne_iff_ne.2 c3, Bool.not_false, cond_true, cond_true]
          exact .mk hnone
      · refine .cond (fun _ => .mk hnone) fun hlt => ?_
        have hlt' : n < (a.length : Int) := by
          have := of_decide_eq_false hlt
          omega
        obtain ⟨u, rfl⟩ : ∃ u : Nat, n = u := ⟨n.toNat, by omega⟩
        have hpw : 2 ^ u < 2 ^ a.length := Nat.pow_lt_pow_right (by omega) (by omega)
        obtain ⟨r, e1, _, e2, e3, e4, _⟩ := far_val h.1 (M := 2 ^ u) hpw
        have hcast : ((2 ^ u : Nat) : Int) = (2 : Int) ^ u := by push_cast; rfl
        rw [hcast] at e1 e2
        obtain ⟨f1, f2⟩ := rows_both (l := r) (by omega) fun v hv => by
          have := get_mem (lo := -1) (hi := 63) (fun j hj => e4 j (by omega)) v hv
          omega
        rw [if_neg (show ¬ (u : Int) < 0 by omega), if_neg (show ¬ (u : Int) < 0 by omega), sh1 (by omega), e1, e2, Option.bind_some, Option.bind_some, f1, f2]
        exact .mk (rowV_pos r)
    · rw [numOf_no hc, Bool.not_false, cond_true]
      by_cases c : ((ofL w :: (cutL 32 S).map ofL).length : Int) = 2
      · have hcs : cutL 32 S = [S] := by
          by_cases h32 : (32 : UInt8) ∈ S
          · exfalso
            obtain ⟨a1, S1, q1, q2, _⟩ := (cut_sp S).resolve_left fun hh => hh.1 h32
            rw [q1, cutL_sep q2] at c
            have := cutL_ne 32 S1
            have h0 : (cutL 32 S1).length ≠ 0 := fun e => this (List.eq_nil_of_length_eq_zero e)
            simp at c
            omega
          · exact cutL_one h32
        have g1 : List.getD ([ofL w, ofL S] : List ByteArray) (1 : Int).toNat ByteArray.empty = ofL S := rfl
        have in1 : (0 : Int) ≤ 1 ∧ (1 : Int) < (([w, S] : List (List UInt8)).length : Int) := by simp
        have h2l : ((([w, S] : List (List UInt8)).length : Nat) : Int) = 2 := rfl
        rw [hcs, bne_f h2l]
        simp only [List.map_cons, List.map_nil]
        rw [if_pos in1, g1, digits_val, if_neg hc, Option.bind_some, cnd_t (show (-1 : Int) < 0 by omega)]
        exact .mk hwhat
      · have c' : ((w :: cutL 32 S).length : Int) ≠ 2 := fun e => c (by simpa using e)
        rw [bne_t c']
        exact .mk hwhat
/-- All answers. -/
theorem ans_both (s : ByteArray) (hs : s.size ≤ 1099511627) : Both (i_answer_f (a, k, b, s)) (s_l15Answer_f (a, k, b, s)) := by
  have hm := PlP.sm h
  have hkk := h.2.1.2
  have hnone : 0 < str40.size := by decide
  rw [i_answer_f_eq, s_l15Answer_f_eq]
  have hne : ∀ x y : Bool, (x == y) = (x == y) := fun _ _ => rfl
  refine .cond (fun _ => ?_) fun _ => .cond (fun _ => ?_) fun _ => .cond (fun _ => ?_) fun _ => .cond (fun _ => ?_) fun _ => .cond (fun _ => ?_) fun _ => .cond (fun _ => ?_) fun _ => .cond (fun _ => ?_) fun _ => ?_
  · obtain ⟨e1, e2⟩ := ptx_val a k b (by omega)
    rw [e1, e2]
    refine .mk ?_
    obtain ⟨Y, hY, _⟩ := ptx_told h
    rw [szB, hY]
    simp
  · obtain ⟨r, r1, r2, e1, e2⟩ := ends_both h
    rw [e1, e2, Option.bind_some, Option.bind_some]
    refine .cond (fun _ => .mk (by decide)) fun hc => ?_
    have hr : ¬ r < 0 := of_decide_eq_false hc
    rw [itoaG_val (n := r) (by omega) (by omega), num_all (n := r) (by omega) (by omega), ← itoaG_eq]
    exact .mk (itoaG_pos r)
  · obtain ⟨i, n, h1, h2, e1, e2⟩ := loop_both h
    have z14 : str14.size = 1 := rfl
    have s1 := itoaG_size (n := (i : Int)) (by omega) (by omega)
    have s2 := itoaG_size (n := (n : Int) - (i : Int)) (by omega) (by omega)
    obtain ⟨f1, _⟩ := rows_both (l := [(i : Int), (n : Int) - (i : Int)]) (by simp) fun v hv => by
      rcases List.mem_cons.1 hv with e | hv
      · omega
      · rw [List.mem_singleton] at hv; omega
    have hrow : rowV [(i : Int), (n : Int) - (i : Int)] = itoaG (i : Int) ++ str14 ++ itoaG ((n : Int) - (i : Int)) := by
      unfold rowV
      rw [if_neg (by simp)]
      have := joinS_snoc (xs := [itoaG (i : Int)]) (by simp) (itoaG ((n : Int) - (i : Int))) str14
      rw [joinS_one] at this
      exact this
    rw [e1, e2, Option.bind_some, Option.bind_some]
    simp only
    rw [f1, num_all (n := (i : Int)) (by omega) (by omega), Option.bind_some, Option.bind_some, ← itoaG_eq, if_pos (show (itoaG (i : Int)).size + str14.size ≤ 9223372036854775807 by omega), num_all (n := (n : Int) - (i : Int)) (by omega) (by omega), Option.bind_some, ← itoaG_eq, if_pos (show (itoaG (i : Int) ++ str14).size + (itoaG ((n : Int) - (i : Int))).size ≤ 9223372036854775807 by rw [ByteArray.size_append]; omega), hrow]
    refine .mk ?_
    have := itoaG_pos (i : Int)
    rw [ByteArray.size_append, ByteArray.size_append]
    omega
  · obtain ⟨r, e1, e2, e3, e4⟩ := counts_val h.2.1
    obtain ⟨f1, f2⟩ := rows_both (l := r) (by omega) fun v hv => by have := e4 v hv; omega
    rw [e1, e2, Option.bind_some, Option.bind_some, f1, f2]
    exact .mk (rowV_pos r)
  · obtain ⟨r, e1, e2, e3, e4⟩ := parts_val h.1
    obtain ⟨f1, f2⟩ := rows_both (l := r) (by omega) fun v hv => by have := e4 v hv; omega
    rw [e1, e2, Option.bind_some, Option.bind_some, f1, f2]
    exact .mk (rowV_pos r)
  · by_cases c3 : k = 3
    · subst c3
      obtain ⟨r, ok, _, _, e1, e2, _⟩ := high_both h
      rw [show ((3 : Int) == 3) = true from rfl, show ((3 : Int) != 3) = false from rfl, Bool.not_true, cond_false, cond_false, e1, e2, Option.bind_some]
      exact .cond (fun _ => .mk (by decide)) fun _ => .mk (by decide)
    · rw [beq_false_of_ne c3, bne_iff_ne.2 c3, Bool.not_false, cond_true, cond_true]
      exact .mk hnone
  · by_cases c3 : k = 3
    · subst c3
      obtain ⟨r, ok, e1, e2, _, _, e3, e4⟩ := high_both h
      obtain ⟨f1, f2⟩ := rows_both (l := r) (by omega) fun v hv => by have := e4 v hv; omega
      rw [show ((3 : Int) == 3) = true from rfl, show ((3 : Int) != 3) = false from rfl, Bool.not_true, cond_false, cond_false, e1, e2, Option.bind_some, Option.bind_some]
      simp only
      rw [f1, f2]
      exact .mk (rowV_pos r)
    · rw [beq_false_of_ne c3, bne_iff_ne.2 c3, Bool.not_false, cond_true, cond_true]
      exact .mk hnone
  · have := ans_j0 h s.data.toList (by rw [Array.length_toList]; exact hs)
    rw [of_data] at this
    exact this
end
end FN

/-! Desks of the program: told, and copied. -/
namespace FN
open Go
theorem idesk (a : List Int) (k : Int) (b : List Int) (l : List Pl) (hb : b.length ≤ 4611686018427387904) (hl : l.length ≤ 4611686018427387904) (hs : ∀ p ∈ l, smP 4611686018427387904 p) : i_DeskOk_f (a, k, b, l) = some (decide (DkP a k b l)) := by
  apply Tells.val
  rw [i_DeskOk_f_eq]
  have hj : Tells (i_DeskOk_j1 a k b l) (PlP a k b ∧ l.length ≤ 8) := by
    rw [i_DeskOk_j1_eq, ipl _ _ _ hb, Option.bind_some]
    by_cases c : PlP a k b
    · rw [decide_eq_true c]; exact Tells.dec.iff ⟨fun h => ⟨c, by omega⟩, fun h => by omega⟩
    · rw [decide_eq_false c]; exact Tells.no fun h => c h.1
  have main : ∀ i, i ≤ l.length → Tells (i_DeskOk_l0 l (l.length : Int) (i : Int) a k b l) ((∀ j, i ≤ j → j < l.length → PlPp (l.getD j ([], 0, []))) ∧ (PlP a k b ∧ l.length ≤ 8)) := by
    refine advN ?_ fun i hi ih => ?_
    · refine (Tells.eq ?_ hj).iff ⟨fun h => ⟨fun j h1 h2 => by omega, h⟩, fun h => h.2⟩
      rw [i_DeskOk_l0_eq, cnd_f (by omega)]
    · have hm := hs _ (getD_mem (d := ([], 0, [])) hi)
      rw [i_DeskOk_l0_eq, cnd_t (by omega), if_pos (inN hi), gP, ipl _ _ _ hm.2, Option.bind_some, w1 hi (by omega)]
      by_cases c : PlPp (l.getD i ([], 0, []))
      · rw [decide_eq_true (show PlP (l.getD i ([], 0, [])).1 (l.getD i ([], 0, [])).2.1 (l.getD i ([], 0, [])).2.2 from c)]
        refine ih.iff ⟨fun h => ⟨fun j h1 h2 => ?_, h.2⟩, fun h => ⟨fun j h1 h2 => h.1 j (by omega) h2, h.2⟩⟩
        by_cases e : j = i
        · rw [e]; exact c
        · exact h.1 j (by omega) h2
      · rw [decide_eq_false (show ¬ PlP (l.getD i ([], 0, [])).1 (l.getD i ([], 0, [])).2.1 (l.getD i ([], 0, [])).2.2 from c)]
        exact Tells.no fun h => c (h.1 i (Nat.le_refl i) hi)
  refine (main 0 (by omega)).iff ⟨fun h => ⟨fun p hp => ?_, h.2⟩, fun h => ⟨fun j _ hj => h.1 _ (getD_mem hj), h.2⟩⟩
  obtain ⟨j, hj, rfl⟩ := List.getElem_of_mem hp
  have := h.1 j (by omega) hj
  rwa [List.getD_eq_getElem?_getD, List.getElem?_eq_getElem hj] at this
theorem clone_val (a : List Int) (h : a.length ≠ 0) (ha : a.length ≤ 1000000) : x_slices_Clone_int_int_f a = some a := by
  rw [x_slices_Clone_int_int_f_eq, if_pos ⟨rfl, h⟩, if_pos (by simp; omega)]
  rfl
theorem copyPlace_val (a : List Int) (k : Int) (b : List Int) (h : a.length ≠ 0) (h' : b.length ≠ 0) (ha : a.length ≤ 1000000) (hb : b.length ≤ 1000000) : i_copyPlace_f (a, k, b) = some (a, k, b) := by
  rw [i_copyPlace_f_eq, clone_val a h ha, Option.bind_some, clone_val b h' hb, Option.bind_some]
theorem copyPl {p : Pl} (h : PlPp p) : i_copyPlace_f (p.1, p.2.1, p.2.2) = some (p.1, p.2.1, p.2.2) := by
  have hm := PlP.sm h
  have h1 := h.1.lo
  have h2 := h.2.2
  exact copyPlace_val _ _ _ (by omega) (by omega) (by omega) (by omega)
theorem icopy_loop1 (a : List Int) (k : Int) (b : List Int) (l : List Pl) (y3 : Int) (hl : l.length ≤ 100) (hs : ∀ p ∈ l, PlPp p) : ∀ i, i ≤ l.length → i_copyDesk_l1 l (l.length : Int) (i : Int) y3 k a b (l.take i) = some (a, k, b, l) := by
  refine advN ?_ fun i hi ih => ?_
  · rw [i_copyDesk_l1_eq, cnd_f (by omega), List.take_length]
  · have hm := hs _ (getD_mem (d := ([], 0, [])) hi)
    rw [i_copyDesk_l1_eq, cnd_t (by omega), if_pos (inN hi), gP, copyPl hm, Option.bind_some, if_pos (by simp; omega), w1 hi (by omega)]
    have e : l.take (i + 1) = l.take i ++ [((l.getD i ([], 0, [])).1, (l.getD i ([], 0, [])).2.1, (l.getD i ([], 0, [])).2.2)] := by
      rw [List.take_succ_eq_append_getElem hi, List.getD_eq_getElem?_getD, List.getElem?_eq_getElem hi]; rfl
    rw [← e]
    exact ih
theorem icopy_val {a : List Int} {k : Int} {b : List Int} {l : List Pl} (h : DkP a k b l) : i_copyDesk_f (a, k, b, l) = some (a, k, b, l) := by
  have hl := h.2.2
  rw [i_copyDesk_f_eq, copyPl (p := (a, k, b)) h.2.1, Option.bind_some]
  simp only
  rw [i_copyDesk_l0_eq]
  by_cases c : 0 < l.length
  · have hm := h.1 _ (getD_mem (d := ([], 0, [])) c)
    have hg : List.getD l (0 : Int).toNat ([], 0, []) = l.getD 0 ([], 0, []) := rfl
    rw [cnd_t (by omega), if_pos ⟨by omega, by omega⟩, hg, copyPl hm, Option.bind_some, if_pos (by simp)]
    have e : l.take 1 = [] ++ [((l.getD 0 ([], 0, [])).1, (l.getD 0 ([], 0, [])).2.1, (l.getD 0 ([], 0, [])).2.2)] := by
      rw [List.take_succ_eq_append_getElem c, List.getD_eq_getElem?_getD, List.getElem?_eq_getElem c]; rfl
    rw [← e]
    exact icopy_loop1 a k b l 0 (by omega) h.1 1 (by omega)
  · have : l = [] := List.eq_nil_of_length_eq_zero (by omega)
    subst this
    rw [cnd_f (by simp)]
end FN

/-! What a deed makes of a place, as a value. -/
namespace FN
open Go
/-- The wire of two nodes, turned over. -/
noncomputable def flipV (a : List Int) (A B : Int) : List Int :=
  let z := List.set a A.toNat (Go.bits .xor IntKind.i64 (List.getD a A.toNat 0) (IntKind.i64.wrap (1 * 2 ^ min B.toNat IntKind.i64.bits)))
  List.set z B.toNat (Go.bits .xor IntKind.i64 (List.getD z B.toNat 0) (IntKind.i64.wrap (1 * 2 ^ min A.toNat IntKind.i64.bits)))
section
variable {a : List Int} {k : Int} {b : List Int} (h : PlP a k b)
include h
theorem made_eq (K A B : Int) : s_l15Made_f (a, k, b, K, A, B) =
    (let t2 : Option Pl := if K = 2 ∧ A = 0 ∧ B = 0 then some (a, k, stepV a k b) else if K = 3 ∧ B = 0 then some (a, A, b) else some ([], 0, [])
     let lt : Option Pl := if K = 1 ∧ B = 0 ∧ (0 ≤ A ∧ A < (a.length : Int)) ∧ b.getD A.toNat 0 = 0 then some (a, k, List.set b A.toNat 1) else t2
     if K = 0 ∧ (0 ≤ A ∧ A < (a.length : Int)) ∧ (0 ≤ B ∧ B < (a.length : Int)) ∧ A ≠ B then some (flipV a A B, k, b) else lt) := by
  have hm := PlP.sm h
  have he := h.2.2
  have hlo := h.1.lo
  have hW : IntKind.i64.wrap ((List.length a : Int) - 1) = (a.length : Int) - 1 := i64w (by omega) (by omega)
  rw [s_l15Made_f_eq, l15Place_val _ _ _ (by omega) (by omega), Option.bind_some, l1In_val, Option.bind_some, l1In_val, Option.bind_some, s_step h, Option.bind_some, hW]
  simp only [beq_self_eq_true, Bool.and_true, Bool.true_and, Option.bind_some]
  have e2 : (cond ((K == 2) && ((A == 0) && (B == 0))) (some (a, k, stepV a k b)) (cond ((K == 3) && (B == 0)) (some (a, A, b)) (some (([] : List Int), (0 : Int), ([] : List Int))))) =
      (if K = 2 ∧ A = 0 ∧ B = 0 then some (a, k, stepV a k b) else if K = 3 ∧ B = 0 then some (a, A, b) else some ([], 0, [])) := by
    by_cases c : K = 2 ∧ A = 0 ∧ B = 0
    · rw [if_pos c]; obtain ⟨rfl, rfl, rfl⟩ := c; rfl
    · rw [if_neg c]
      have : ((K == 2) && ((A == 0) && (B == 0))) = false := by
        apply Bool.eq_false_iff.2; intro hh; apply c; simpa using hh
      rw [this, cond_false]
      by_cases c' : K = 3 ∧ B = 0
      · rw [if_pos c']; obtain ⟨rfl, rfl⟩ := c'; rfl
      · rw [if_neg c']
        have : ((K == 3) && (B == 0)) = false := by
          apply Bool.eq_false_iff.2; intro hh; apply c'; simpa using hh
        rw [this, cond_false]
  rw [e2]
  generalize (if K = 2 ∧ A = 0 ∧ B = 0 then some (a, k, stepV a k b) else if K = 3 ∧ B = 0 then some (a, A, b) else some ([], 0, [])) = T2
  have e1 : (cond ((K == 1) && (B == 0)) (cond (decide (0 ≤ A ∧ A ≤ (a.length : Int) - 1)) (if (0 : Int) ≤ A ∧ A < (b.length : Int) then (cond (List.getD b A.toNat 0 == 0) (if (0 : Int) ≤ A ∧ A < (b.length : Int) then (some (a, k, List.set b A.toNat 1)) else none) T2) else none) T2) T2) =
      (if K = 1 ∧ B = 0 ∧ (0 ≤ A ∧ A < (a.length : Int)) ∧ b.getD A.toNat 0 = 0 then some (a, k, List.set b A.toNat 1) else T2) := by
    by_cases c : K = 1 ∧ B = 0
    · obtain ⟨rfl, rfl⟩ := c
      by_cases c1 : 0 ≤ A ∧ A < (a.length : Int)
      · rw [show ((1 : Int) == 1 && (0 : Int) == 0) = true from rfl, cond_true, cnd_t (by omega), if_pos (by omega), if_pos (by omega)]
        by_cases c2 : b.getD A.toNat 0 = 0
        · rw [beq_t c2, if_pos ⟨rfl, rfl, c1, c2⟩]
        · rw [beq_f c2, if_neg (fun hh => c2 hh.2.2.2)]
      · rw [show ((1 : Int) == 1 && (0 : Int) == 0) = true from rfl, cond_true, cnd_f (by omega), if_neg (fun hh => c1 hh.2.2.1)]
    · have : ((K == 1) && (B == 0)) = false := by
        apply Bool.eq_false_iff.2; intro hh; apply c; simpa using hh
      rw [this, cond_false, if_neg (fun hh => c ⟨hh.1, hh.2.1⟩)]
  rw [e1]
  generalize (if K = 1 ∧ B = 0 ∧ (0 ≤ A ∧ A < (a.length : Int)) ∧ b.getD A.toNat 0 = 0 then some (a, k, List.set b A.toNat 1) else T2) = LT
  by_cases c : K = 0
  · subst c
    rw [show ((0 : Int) == 0) = true from rfl, cond_true]
    by_cases hA : 0 ≤ A ∧ A < (a.length : Int)
    · rw [cnd_t (by omega)]
      by_cases hB : 0 ≤ B ∧ B < (a.length : Int)
      · rw [cnd_t (by omega)]
        by_cases hn : A ≠ B
        · rw [bne_t hn, if_pos hA, if_neg (by omega), if_pos hA, List.length_set, if_pos hB, if_neg (by omega), if_pos hB]
          simp only
          rw [if_pos ⟨trivial, hA, hB, hn⟩]
          rfl
        · rw [bne_f (by omega)]
          simp only
          rw [if_neg (fun hh => hn hh.2.2.2)]
      · rw [cnd_f (by omega)]
        simp only
        rw [if_neg (fun hh => hB hh.2.2.1)]
    · rw [cnd_f (by omega)]
      simp only
      rw [if_neg (fun hh => hA hh.2.1)]
  · rw [beq_f c, if_neg (fun hh => c hh.1)]
end
end FN

/-! Deeds: the program's and the reference's alike. -/
namespace FN
open Go
section
variable {a : List Int} {k : Int} {b : List Int} {l : List Pl} (h : DkP a k b l)
include h
/-- Behind what is made. -/
theorem do_made {K A B : Int} (hK : ¬ (K = 4 ∧ A = 0 ∧ B = 0 ∧ 0 < l.length)) {z : List Int} {κ : Int} {st : List Int} (hst : st.length ≤ 100)
    (hm : s_l15Made_f (a, k, b, K, A, B) = some (z, κ, st)) : s_DeskDo_f (a, k, b, l, K, A, B) = i_DeskDo_j4 a k b l 0 k κ a b l z st l := by
  have hp := PlP.sm h.2.1
  have hl := h.2.2
  have hsm : ∀ p ∈ l, smP 4611686018427387904 p := fun p hp => by have := PlP.sm (h.1 p hp); exact ⟨by omega, by omega⟩
  have hW : IntKind.i64.wrap ((List.length l : Int) - 1) = (l.length : Int) - 1 := i64w (by omega) (by omega)
  obtain ⟨t1, t1', t1''⟩ := placeText_same z κ st (by omega)
  obtain ⟨t2, t2', t2''⟩ := placeText_same a k b (by omega)
  rw [i_DeskDo_j4_eq, ipl z κ st (by omega), Option.bind_some, t1'', Option.bind_some, t2'', Option.bind_some]
  rw [s_DeskDo_f_eq, sdesk a k b l (by omega) (by omega) hsm, decide_eq_true h, Option.bind_some, Bool.not_true, cond_false, l15Copy_val h, Option.bind_some, hm, Option.bind_some]
  simp only [hW]
  rw [spl z κ st (by omega), Option.bind_some, t1', Option.bind_some, t2', Option.bind_some]
  have hlen : (l ++ ([(a, k, b)] : List (List Int × Int × List Int))).length = l.length + 1 := by simp
  have hmem : ∀ p ∈ l ++ ([(a, k, b)] : List (List Int × Int × List Int)), PlPp p := fun p hp => by
    rcases List.mem_append.1 hp with hp | hp
    · exact h.1 p hp
    · have : p = (a, k, b) := by simpa using hp
      rw [this]; exact h.2.1
  have main : (cond (!decide (PlP z κ st)) (some (a, k, b, l, false)) (cond (ByteArray.toList t1 == ByteArray.toList t2) (some (a, k, b, l, false)) (if (List.length l + List.length ([(a, k, b)] : List (List Int × Int × List Int))) * 56 ≤ 140737488355328 then (cond ((decide (8 < (List.length (l ++ ([(a, k, b)] : List (List Int × Int × List Int))) : Int)))) (if (0 : Int) ≤ 1 ∧ 1 ≤ (List.length (l ++ ([(a, k, b)] : List (List Int × Int × List Int))) : Int) then (s_DeskDo_j0 0 k (List.drop (1 : Int).toNat (List.take ((List.length (l ++ ([(a, k, b)] : List (List Int × Int × List Int))))) (l ++ ([(a, k, b)] : List (List Int × Int × List Int))))) κ z st) else none) (s_DeskDo_j1 0 k κ (l ++ ([(a, k, b)] : List (List Int × Int × List Int))) z st)) else none))) =
      (cond (!decide (PlP z κ st)) (some (a, k, b, l, false)) (cond (ByteArray.toList t1 == ByteArray.toList t2) (some (a, k, b, l, false)) (Option.bind (i_copyPlace_f (a, k, b)) fun r4 => (if (List.length l + List.length ([(r4.1, r4.2.1, r4.2.2)] : List (List Int × Int × List Int))) * 56 ≤ 140737488355328 then (cond ((decide (8 < (List.length (l ++ ([(r4.1, r4.2.1, r4.2.2)] : List (List Int × Int × List Int))) : Int)))) (if (0 : Int) ≤ 1 ∧ 1 ≤ (List.length (l ++ ([(r4.1, r4.2.1, r4.2.2)] : List (List Int × Int × List Int))) : Int) then (Option.bind (i_copyDesk_f (z, κ, st, (List.drop (1 : Int).toNat (List.take ((List.length (l ++ ([(r4.1, r4.2.1, r4.2.2)] : List (List Int × Int × List Int))))) (l ++ ([(r4.1, r4.2.1, r4.2.2)] : List (List Int × Int × List Int))))))) fun r5 => (some (r5.1, r5.2.1, r5.2.2.1, r5.2.2.2, true))) else none) (Option.bind (i_copyDesk_f (z, κ, st, (l ++ ([(r4.1, r4.2.1, r4.2.2)] : List (List Int × Int × List Int))))) fun r6 => (some (r6.1, r6.2.1, r6.2.2.1, r6.2.2.2, true)))) else none)))) := by
    by_cases hq : PlP z κ st
    · rw [decide_eq_true hq, Bool.not_true, cond_false, cond_false]
      cases (ByteArray.toList t1 == ByteArray.toList t2) with
      | true => rw [cond_true, cond_true]
      | false =>
        rw [cond_false, cond_false, copyPl (p := (a, k, b)) h.2.1, Option.bind_some]
        have h56 : (List.length l + List.length ([(a, k, b)] : List (List Int × Int × List Int))) * 56 ≤ 140737488355328 := by simp; omega
        have hin : (0 : Int) ≤ 1 ∧ 1 ≤ ((l.length + 1 : Nat) : Int) := ⟨by omega, by omega⟩
        simp only [if_pos h56, hlen, if_pos hin]
        by_cases c8 : (8 : Int) < ((l.length + 1 : Nat) : Int)
        · have hd : DkP z κ st (List.drop (1 : Int).toNat (List.take (l.length + 1) (l ++ ([(a, k, b)] : List (List Int × Int × List Int))))) := ⟨fun p hp' => hmem p (List.mem_of_mem_take (List.mem_of_mem_drop hp')), hq, by rw [List.length_drop, List.length_take, hlen, show (1 : Int).toNat = 1 from rfl]; omega⟩
          rw [cnd_t c8, cnd_t c8, s_DeskDo_j0_eq, icopy_val hd, Option.bind_some]
        · have hd : DkP z κ st (l ++ ([(a, k, b)] : List (List Int × Int × List Int))) := ⟨hmem, hq, by rw [hlen]; omega⟩
          rw [cnd_f c8, cnd_f c8, s_DeskDo_j1_eq, icopy_val hd, Option.bind_some]
    · rw [decide_eq_false hq, Bool.not_false, cond_true, cond_true]
  by_cases c4 : K = 4 ∧ A = 0 ∧ B = 0
  · obtain ⟨rfl, rfl, rfl⟩ := c4
    have : ¬ (0 : Int) < (l.length : Int) := fun hh => hK ⟨rfl, rfl, rfl, by omega⟩
    rw [show ((4 : Int) == 4 && ((0 : Int) == 0 && ((0 : Int) == 0 && true))) = true from rfl, cond_true, cnd_f this]
    exact main
  · have : (K == 4 && (A == 0 && (B == 0 && true))) = false := by
      apply Bool.eq_false_iff.2; intro hh; apply c4; simpa using hh
    rw [this, cond_false]
    exact main
end
end FN

namespace FN
open Go
section
variable {a : List Int} {k : Int} {b : List Int} {l : List Pl} (h : DkP a k b l)
include h
omit h in
theorem j5_no {z : List Int} {κ : Int} {st : List Int} (hst : st.length ≤ 100) (hn : ¬ PlP z κ st) : i_DeskDo_j4 a k b l 0 k κ a b l z st l = some (a, k, b, l, false) := by
  rw [i_DeskDo_j4_eq, ipl z κ st (by omega), Option.bind_some, decide_eq_false hn, Bool.not_false, cond_true]
omit h in
theorem no_zero : ¬ PlP [] 0 [] := fun h => by have := h.1.lo; simp at this
/-- What cannot be done. -/
theorem do_no {K A B : Int} (hK : ¬ (K = 4 ∧ A = 0 ∧ B = 0 ∧ 0 < l.length)) (hm : s_l15Made_f (a, k, b, K, A, B) = some ([], 0, [])) : s_DeskDo_f (a, k, b, l, K, A, B) = some (a, k, b, l, false) := by
  rw [do_made h hK (by simp) hm]
  exact j5_no (by simp) no_zero
/-- The program's, behind its tests of names. -/
theorem i_do_head (K A B : Int) : i_DeskDo_f (a, k, b, l, K, A, B) =
    if (K ≠ 0 ∧ B ≠ 0) ∨ ((K = 2 ∨ K = 4) ∧ A ≠ 0) then some (a, k, b, l, false) else i_DeskDo_j1 a k b l K A B 0 k k a b l a b l := by
  have hl := h.2.2
  have hb := PlP.sm h.2.1
  have hsm : ∀ p ∈ l, smP 4611686018427387904 p := fun p hp => by have := PlP.sm (h.1 p hp); exact ⟨by omega, by omega⟩
  rw [i_DeskDo_f_eq, idesk a k b l (by omega) (by omega) hsm, decide_eq_true h, Option.bind_some, Bool.not_true, cond_false, icopy_val h, Option.bind_some, Option.bind_some]
  simp only
  rw [i_DeskDo_j0_eq]
  by_cases k0 : K = 0
  · have n2 : K ≠ 2 := by omega
    have n4 : K ≠ 4 := by omega
    rw [bne_f k0, beq_f n2, beq_f n4, if_neg (by omega)]
  · rw [bne_t k0]
    by_cases b0 : B = 0
    · rw [bne_f b0]
      by_cases k2 : K = 2
      · rw [beq_t k2]
        by_cases a0 : A = 0
        · rw [bne_f a0, if_neg (by omega)]
        · rw [bne_t a0, if_pos (by omega)]
      · rw [beq_f k2]
        by_cases k4 : K = 4
        · rw [beq_t k4]
          by_cases a0 : A = 0
          · rw [bne_f a0, if_neg (by omega)]
          · rw [bne_t a0, if_pos (by omega)]
        · rw [beq_f k4, if_neg (by omega)]
    · rw [bne_t b0, if_pos (by omega)]
end
end FN

