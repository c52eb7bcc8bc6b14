/- Texts of the proof, joined: Plain laws of numbers and lists. -/
import Derived.Test.YtlpjnnepjlaclaaGreatDoorP0
set_option linter.unusedVariables false
set_option linter.unusedSimpArgs false
set_option linter.unusedSectionVars false
/-! The law FnExactStoreOpen. -/
namespace FN
open Go
theorem small_sz {d : Dk} (h : DkOk d) : (d.1.length : Int) + d.2.2.1.length ≤ 1000 ∧ szPl d.2.2.2 ≤ 1000 ∧ d.2.2.2.length ≤ 8 ∧ ∀ p ∈ d.2.2.2, smP 6 p := by
  have hm := PlP.sm h.2.1
  have h8 := h.2.2
  have hs : ∀ p ∈ d.2.2.2, smP 6 p := fun p hp => PlP.sm (h.1 p hp)
  have := szPl_le 6 d.2.2.2 hs
  exact ⟨by omega, by omega, h8, hs⟩
theorem eqDesk_self (a : List Int) (k : Int) (b : List Int) (l : List Pl) (ha : a.length ≤ 4611686018427387904) (hb : b.length ≤ 4611686018427387904) (hl : l.length ≤ 4611686018427387904) (hs : ∀ p ∈ l, smP 4611686018427387904 p) : w_eqDesk_f (a, k, b, l, a, k, b, l) = some true := by
  rw [eqDesk_val a k b l a k b l ha ha hb hb hl hs hs, decide_eq_true ⟨rfl, rfl, rfl, rfl⟩]
theorem mark_ok (a b : Nat) (S : Int) (ha : a ≤ 1048576) (hb : b ≤ 1048576) (h0 : 0 ≤ S) (h1 : S ≤ 4000000000000) : ((0 : Int) ≤ 1 ∧ 1 + (a : Int) ≤ 4611686018427387904) ∧ ((0 : Int) ≤ 1 + (a : Int) ∧ 1 + (a : Int) + (b : Int) ≤ 4611686018427387904) ∧ ((0 : Int) ≤ 1 + (a : Int) + (b : Int) ∧ 1 + (a : Int) + (b : Int) + S ≤ 4611686018427387904) ∧ ¬ (1 + (a : Int) + (b : Int) + S < 0) := by
  omega
section
variable {a b : ByteArray} {n : Int} (ha : a.size ≤ 1048577) (hb : b.size ≤ 1048577)
include ha hb
theorem jsB_val : i_ReadJournal_f b = some ((jsB b).1, ((jsB b).2 : Int)) ∧ s_ReadJournal_f b = some ((jsB b).1, ((jsB b).2 : Int)) := journal_bothB b hb
theorem opened_val (h : stOk a b n = true) : i_opened_f (a, b, n) = some ((opV a b).1, (opV a b).2.1, (opV a b).2.2.1, (opV a b).2.2.2) := by
  have hr := irun_val (newD_ok (plB_ok ha h)) (jsB b).1 (by have := (jsB_le b).2; omega)
  rw [i_opened_f_eq, i_readB a ha, Option.bind_some, (jsB_val ha hb).1, Option.bind_some]
  show Option.bind (i_doAll_f ((plB a).1, (plB a).2.1, (plB a).2.2, [], (jsB b).1)) _ = _
  rw [hr, Option.bind_some]
  rfl
theorem iopen_val : i_StoreOpen_f (a, b, n) = some (if stOk a b n = true then ((opV a b).1, (opV a b).2.1, (opV a b).2.2.1, (opV a b).2.2.2, true) else ([], 0, [], [], false)) := by
  rw [i_StoreOpen_f_eq, i_stOk a b n ha, Option.bind_some]
  cases h : stOk a b n with
  | false => rfl
  | true => rw [Bool.not_true, cond_false, opened_val ha hb h, Option.bind_some, if_pos rfl]
theorem sopen_val : s_StoreOpen_f (a, b, n) = some (if stOk a b n = true then ((opV a b).1, (opV a b).2.1, (opV a b).2.2.1, (opV a b).2.2.2, true) else ([], 0, [], [], false)) := by
  rw [s_StoreOpen_f_eq, s_stOk a b n ha, Option.bind_some]
  cases h : stOk a b n with
  | false => rfl
  | true =>
    have hr := srun_val (newD_ok (plB_ok ha h)) (jsB b).1 (by have := (jsB_le b).2; omega)
    rw [Bool.not_true, cond_false, s_readB a ha, Option.bind_some, (jsB_val ha hb).2, Option.bind_some]
    show Option.bind (s_l15Run_f ((plB a).1, (plB a).2.1, (plB a).2.2, [], (jsB b).1)) _ = _
    rw [hr, Option.bind_some, if_pos rfl]
    rfl
theorem both_open : ∃ (d : Dk) (t : Bool), s_StoreOpen_f (a, b, n) = some (d.1, d.2.1, d.2.2.1, d.2.2.2, t) ∧ i_StoreOpen_f (a, b, n) = some (d.1, d.2.1, d.2.2.1, d.2.2.2, t) ∧ (d.1.length : Int) + d.2.2.1.length ≤ 1000 ∧ szPl d.2.2.2 ≤ 1000 ∧ d.2.2.2.length ≤ 8 ∧ ∀ p ∈ d.2.2.2, smP 6 p := by
  rw [iopen_val ha hb, sopen_val ha hb]
  by_cases h : stOk a b n = true
  · rw [if_pos h]
    exact ⟨opV a b, true, rfl, rfl, small_sz (runV_ok (newD_ok (plB_ok ha h)) (jsB b).1)⟩
  · rw [if_neg h]
    exact ⟨([], 0, [], []), false, rfl, rfl, by simp, by simp [szPl], by simp, by simp⟩
end
theorem FnExactStoreOpen_true (x : Ts w_FnExactStoreOpen_sig.pc) (hw : WfTs w_FnExactStoreOpen_sig.pc x) : w_FnExactStoreOpen_f x = some true := by
  obtain ⟨a, b, n⟩ := x
  obtain ⟨ha, hb, _⟩ := hw
  rw [w_FnExactStoreOpen_f_eq]
  rcases szStore_val a b n ha hb with h | ⟨⟨v, h, hv⟩, h1, h2⟩
  · rw [h, Option.bind_some, cnd_t (show (-1 : Int) < 0 by omega)]
  · obtain ⟨d, t, e1, e2, d1, d2, d3, d4⟩ := both_open (a := a) (b := b) (n := n) (by omega) (by omega)
    have d5 := szPl_nn d.2.2.2
    have d4' : ∀ p ∈ d.2.2.2, smP 4611686018427387904 p := fun p hp => (d4 p hp).le (by omega)
    have eg := eqDesk_self d.1 d.2.1 d.2.2.1 d.2.2.2 (by omega) (by omega) (by omega) d4'
    have hh := heldDesk_val d.1 d.2.2.1 d.2.1 d.2.2.2 (by omega) (by omega) (by omega)
    rw [h, Option.bind_some, cnd_f (show ¬ (v : Int) < 0 by omega), w_toStore_f_eq, Option.bind_some]
    simp only
    rw [e1, Option.bind_some, Option.bind_some]
    simp only
    rw [e2, Option.bind_some]
    simp only
    rw [eg]
    simp only [Option.bind_some, Bool.not_true, cond_false, beq_self_eq_true]
    obtain ⟨n1, n2, n3, n4⟩ := mark_ok d.1.length d.2.2.1.length (szPl d.2.2.2) (by omega) (by omega) d5 (Int.le_trans d2 (by decide))
    rw [if_pos n1, if_pos n2, if_pos n3, hh]
    simp only [Option.bind_some]
    rw [cnd_f n4, bne_f rfl]
    try rw [cnd_f n4, bne_f rfl]
    rw [e2]
    simp only [Option.bind_some]
    rw [eg]
    simp
end FN
