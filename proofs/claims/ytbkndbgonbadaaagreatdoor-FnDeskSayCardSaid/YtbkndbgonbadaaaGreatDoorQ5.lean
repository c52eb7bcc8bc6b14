/- Texts of the proof, joined: parts -/
import Derived.Lib.AtoiTie
import Derived.Lib.AtoiAllCases
import Derived.Lib.ItoaMem
import Derived.Lib.ItoaLen
import Derived.Test.YtbkndbgonbadaaaGreatDoorQ1
import Derived.Test.YtbkndbgonbadaaaGreatDoorQ0
import Derived.Test.YtbkndbgonbadaaaGreatDoorQ4
import Derived.Test.YtbkndbgonbadaaaGreatDoorJ5
import Derived.Test.YtbkndbgonbadaaaGreatDoorJ7
set_option linter.unusedVariables false
set_option linter.unusedSimpArgs false
set_option linter.unusedSectionVars false
/-! Numerals of any length. -/
namespace FN
open Go
def isDig (x : UInt8) : Prop := 48 ≤ x.toNat ∧ x.toNat ≤ 57
instance (x : UInt8) : Decidable (isDig x) := inferInstanceAs (Decidable (_ ∧ _))
/-- What digits come to, behind n. -/
def valD (n : Int) (L : List UInt8) : Int := L.foldl (fun n x => 10 * n + dig x) n
theorem valD_cons (n : Int) (x : UInt8) (L : List UInt8) : valD n (x :: L) = valD (10 * n + dig x) L := rfl
theorem valD_app (n : Int) (L M : List UInt8) : valD n (L ++ M) = valD (valD n L) M := by simp [valD]
theorem dig_of {d : Nat} (h : d < 10) : isDig (UInt8.ofNat (48 + d)) ∧ dig (UInt8.ofNat (48 + d)) = (d : Int) := by
  have e : (UInt8.ofNat (48 + d)).toNat = 48 + d := by simp; omega
  constructor
  · exact ⟨by omega, by omega⟩
  · unfold dig; omega
theorem dec_dig (u : Nat) : (∀ x ∈ Lib.decDigits u, isDig x) ∧ valD 0 (Lib.decDigits u) = (u : Int) ∧ 1 ≤ (Lib.decDigits u).length := by
  induction u using Nat.strongRecOn with
  | _ u ih =>
    rw [Lib.decDigits]
    by_cases h : u < 10
    · rw [dif_pos h]
      obtain ⟨h1, h2⟩ := dig_of h
      refine ⟨fun x hx => ?_, ?_, by simp⟩
      · rw [List.mem_singleton] at hx; rw [hx]; exact h1
      · rw [valD_cons, h2]; simp [valD]
    · rw [dif_neg h]
      obtain ⟨i1, i2, i3⟩ := ih (u / 10) (by omega)
      obtain ⟨h1, h2⟩ := dig_of (Nat.mod_lt u (show 0 < 10 by omega))
      refine ⟨fun x hx => ?_, ?_, by simp⟩
      · rcases List.mem_append.1 hx with hx | hx
        · exact i1 x hx
        · rw [List.mem_singleton] at hx; rw [hx]; exact h1
      · rw [valD_app, i2, valD_cons, h2]
        simp only [valD, List.foldl_nil]
        omega
theorem dec_head (u : Nat) (h : 10 ≤ u) : ∃ x L, Lib.decDigits u = x :: L ∧ L ≠ [] ∧ x.toNat ≠ 48 := by
  induction u using Nat.strongRecOn with
  | _ u ih =>
    rw [Lib.decDigits, dif_neg (by omega)]
    by_cases c : u / 10 < 10
    · rw [Lib.decDigits_one c]
      obtain ⟨h1, h2⟩ := dig_of c
      exact ⟨_, _, rfl, by simp, by unfold dig at h2; omega⟩
    · obtain ⟨x, L, e, h1, h2⟩ := ih (u / 10) (by omega) (by omega)
      rw [e]
      exact ⟨x, L ++ _, rfl, by simp, h2⟩
theorem dig_rng {x : UInt8} (h : isDig x) : 0 ≤ dig x ∧ dig x ≤ 9 := by unfold dig; have := h.1; have := h.2; omega
theorem valD_rng {L : List UInt8} (h : ∀ x ∈ L, isDig x) : ∀ {n : Int}, 0 ≤ n → n * ((10 ^ L.length : Nat) : Int) ≤ valD n L ∧ valD n L + 1 ≤ (n + 1) * ((10 ^ L.length : Nat) : Int) := by
  induction L with
  | nil => intro n _; simp [valD]
  | cons x L ih =>
    intro n hn
    have hx := dig_rng (h x (by simp))
    obtain ⟨a1, a2⟩ := ih (fun y hy => h y (by simp [hy])) (n := 10 * n + dig x) (by omega)
    rw [valD_cons, List.length_cons, Nat.pow_succ]
    push_cast at a1 a2 ⊢
    have hp : (0 : Int) ≤ 10 ^ L.length := Int.pow_nonneg (by omega)
    have b1 : (10 * n) * 10 ^ L.length ≤ (10 * n + dig x) * (10 : Int) ^ L.length := Int.mul_le_mul_of_nonneg_right (by omega) hp
    have b2 : (10 * n + dig x + 1) * (10 : Int) ^ L.length ≤ (10 * n + 10) * 10 ^ L.length := Int.mul_le_mul_of_nonneg_right (by omega) hp
    have c1 : n * (10 ^ L.length * 10) = (10 * n) * (10 : Int) ^ L.length := by
      rw [Int.mul_comm ((10 : Int) ^ L.length) 10, ← Int.mul_assoc, Int.mul_comm n 10]
    have c2 : (n + 1) * (10 ^ L.length * 10) = (10 * n + 10) * (10 : Int) ^ L.length := by
      rw [Int.mul_comm ((10 : Int) ^ L.length) 10, ← Int.mul_assoc]
      congr 1
      omega
    exact ⟨by omega, by omega⟩
/-- A numeral without leading zeros. -/
def CanD (L : List UInt8) : Prop := L ≠ [] ∧ (∀ x ∈ L, isDig x) ∧ (1 < L.length → (L.headD 0).toNat ≠ 48)
instance (L : List UInt8) : Decidable (CanD L) := inferInstanceAs (Decidable (_ ∧ _ ∧ _))
theorem dec_can (u : Nat) : CanD (Lib.decDigits u) := by
  obtain ⟨h1, h2, h3⟩ := dec_dig u
  refine ⟨fun h => by rw [h] at h3; simp at h3, h1, fun h => ?_⟩
  by_cases c : u < 10
  · rw [Lib.decDigits_one c] at h; simp at h
  · obtain ⟨x, L, e, _, h5⟩ := dec_head u (by omega)
    rw [e]; exact h5
theorem valD_pos {x : UInt8} {L : List UInt8} (h : ∀ y ∈ x :: L, isDig y) (h0 : x.toNat ≠ 48) : ((10 ^ L.length : Nat) : Int) ≤ valD 0 (x :: L) := by
  have hx := h x (by simp)
  have hd : 1 ≤ dig x := by unfold dig; have := hx.1; omega
  have := (valD_rng (L := L) (fun y hy => h y (by simp [hy])) (n := 10 * 0 + dig x) (by omega)).1
  rw [valD_cons]
  have hp : (0 : Int) ≤ ((10 ^ L.length : Nat) : Int) := Int.natCast_nonneg _
  have b1 : 1 * ((10 ^ L.length : Nat) : Int) ≤ (10 * 0 + dig x) * ((10 ^ L.length : Nat) : Int) := Int.mul_le_mul_of_nonneg_right (by omega) hp
  omega
theorem can_dec {L : List UInt8} (h : CanD L) : Lib.decDigits (valD 0 L).toNat = L := by
  suffices H : ∀ n L, L.length = n → CanD L → Lib.decDigits (valD 0 L).toNat = L from H _ L rfl h
  intro n
  induction n with
  | zero => intro L hl hc; exact absurd (List.eq_nil_of_length_eq_zero hl) hc.1
  | succ n ih =>
    intro L hl hc
    obtain ⟨M, y, rfl⟩ : ∃ M y, L = M ++ [y] := ⟨L.dropLast, L.getLast hc.1, (List.dropLast_concat_getLast hc.1).symm⟩
    have hy := dig_rng (hc.2.1 y (by simp))
    rw [valD_app]
    have e1 : valD (valD 0 M) [y] = 10 * valD 0 M + dig y := rfl
    by_cases hM : M = []
    · subst hM
      rw [e1]
      have e2 : valD 0 ([] : List UInt8) = 0 := rfl
      rw [e2, Lib.decDigits_one (by omega)]
      have : 48 + (10 * 0 + dig y).toNat = y.toNat := by unfold dig at hy ⊢; omega
      rw [this]
      simp
    · have hcM : CanD M := by
        refine ⟨hM, fun x hx => hc.2.1 x (by simp [hx]), fun hl => ?_⟩
        have := hc.2.2 (by simp; omega)
        cases M with
        | nil => exact absurd rfl hM
        | cons x M => simpa using this
      have hi := ih M (by simpa using hl) hcM
      have hpos : 1 ≤ valD 0 M := by
        cases M with
        | nil => exact absurd rfl hM
        | cons x M =>
          have hx := hc.2.2 (by simp)
          have := valD_pos hcM.2.1 (by simpa using hx)
          have : 1 ≤ 10 ^ M.length := Nat.pow_pos (by omega)
          omega
      rw [e1, Lib.decDigits, dif_neg (by omega), show (10 * valD 0 M + dig y).toNat / 10 = (valD 0 M).toNat by omega, hi]
      have : 48 + (10 * valD 0 M + dig y).toNat % 10 = y.toNat := by unfold dig at hy ⊢; omega
      rw [this]
      simp
/-- Their lengths. -/
theorem can_len {L : List UInt8} (h : CanD L) : 0 ≤ valD 0 L ∧ (valD 0 L ≤ 999999 ↔ L.length ≤ 6) := by
  obtain ⟨a1, a2⟩ := valD_rng h.2.1 (n := 0) (by omega)
  refine ⟨by omega, fun hv => ?_, fun hl => ?_⟩
  · cases L with
    | nil => exact absurd rfl h.1
    | cons x L =>
      by_cases c : L = []
      · subst c; simp
      · have hx := h.2.2 (by simp; exact Nat.pos_of_ne_zero fun e => c (List.eq_nil_of_length_eq_zero e))
        have := valD_pos h.2.1 (by simpa using hx)
        rw [List.length_cons]
        by_cases hl : L.length + 1 ≤ 6
        · exact hl
        · have : (10 : Nat) ^ 6 ≤ 10 ^ L.length := Nat.pow_le_pow_right (by omega) (by omega)
          have e6 : (10 : Nat) ^ 6 = 1000000 := rfl
          omega
  · have : (10 : Nat) ^ L.length ≤ 10 ^ 6 := Nat.pow_le_pow_right (by omega) hl
    have e6 : (10 : Nat) ^ 6 = 1000000 := rfl
    omega
/-! l1Digits -/
theorem digits_run {L : List UInt8} (h6 : L.length ≤ 6) : ∀ k, k ≤ L.length → ∀ n : Int, 0 ≤ n → n + 1 ≤ ((10 ^ k : Nat) : Int) → s_l1Digits_l0 (ofL L) n (k : Int) = some (if ∀ x ∈ L.drop k, isDig x then valD n (L.drop k) else -1) := by
  refine advN ?_ fun k hk ih => ?_
  · intro n _ _
    rw [digits_end, List.drop_length, if_pos (fun x hx => by cases hx)]; rfl
  · intro n hn hn'
    have hp : (10 : Nat) ^ k ≤ 10 ^ 5 := Nat.pow_le_pow_right (by omega) (by omega)
    have e5 : (10 : Nat) ^ 5 = 100000 := rfl
    have hps : (10 : Nat) ^ (k + 1) = 10 ^ k * 10 := Nat.pow_succ 10 k
    rw [digits_step hk h6 hn (by omega), List.drop_eq_getElem_cons hk]
    by_cases hd : 48 ≤ L[k].toNat ∧ L[k].toNat ≤ 57
    · have hr := dig_rng (x := L[k]) hd
      rw [if_pos hd, ih (10 * n + dig L[k]) (by omega) (by omega), valD_cons]
      have : (∀ x ∈ L[k] :: L.drop (k + 1), isDig x) ↔ ∀ x ∈ L.drop (k + 1), isDig x := ⟨fun h x hx => h x (List.mem_cons_of_mem _ hx), fun h x hx => by
        rcases List.mem_cons.1 hx with e | hx
        · rw [e]; exact hd
        · exact h x hx⟩
      by_cases c : ∀ x ∈ L.drop (k + 1), isDig x
      · rw [if_pos c, if_pos (this.2 c)]
      · rw [if_neg c, if_neg (fun hh => c (this.1 hh))]
    · rw [if_neg hd, if_neg (fun hh => hd (hh _ (List.mem_cons_self ..)))]
theorem digits_val (L : List UInt8) : s_l1Digits_f (ofL L) = some (if CanD L ∧ L.length ≤ 6 then valD 0 L else -1) := by
  rw [s_l1Digits_f_eq, ofL_size, l1In_val, Option.bind_some]
  by_cases hl : 1 ≤ L.length ∧ L.length ≤ 6
  · rw [decide_eq_true (show 1 ≤ (L.length : Int) ∧ (L.length : Int) ≤ 6 by omega), Bool.not_true, cond_false]
    have hr : s_l1Digits_l0 (ofL L) 0 0 = some (if ∀ x ∈ L, isDig x then valD 0 L else -1) := by
      have := digits_run hl.2 0 (by omega) 0 (by omega) (by simp)
      rw [List.drop_zero] at this
      exact this
    have hne : L ≠ [] := fun e => by rw [e] at hl; simp at hl
    by_cases h2 : 2 ≤ L.length
    · have h0 : 0 < L.length := by omega
      have hg := dgt (L := L) (k := 0) h0
      have hh : (L.headD 0).toNat = L[0].toNat := by
        cases L with
        | nil => exact absurd rfl hne
        | cons x L => rfl
      rw [cnd_t (show (1 : Int) < (L.length : Int) by omega), if_pos (show (0 : Int) ≤ 0 ∧ (0 : Int) < (L.length : Int) by omega), show List.getD (ByteArray.data (ofL L)).toList ((0 : Int)).toNat 0 = L[0] from hg]
      by_cases c : L[0].toNat = 48
      · rw [beq_t (by omega), if_neg]
        rintro ⟨hc, _⟩
        exact hc.2.2 (by omega) (by omega)
      · rw [beq_f (by omega), hr]
        by_cases d : ∀ x ∈ L, isDig x
        · rw [if_pos d, if_pos ⟨⟨hne, d, fun _ => by omega⟩, hl.2⟩]
        · rw [if_neg d, if_neg fun hc => d hc.1.2.1]
    · rw [cnd_f (show ¬ (1 : Int) < (L.length : Int) by omega), hr]
      by_cases d : ∀ x ∈ L, isDig x
      · rw [if_pos d, if_pos ⟨⟨hne, d, fun h => by omega⟩, hl.2⟩]
      · rw [if_neg d, if_neg fun hc => d hc.1.2.1]
  · have hn : ¬ (CanD L ∧ L.length ≤ 6) := by
      rintro ⟨hc, h6⟩
      have : L.length ≠ 0 := fun e => hc.1 (List.eq_nil_of_length_eq_zero e)
      omega
    rw [decide_eq_false (show ¬ (1 ≤ (L.length : Int) ∧ (L.length : Int) ≤ 6) by omega), if_neg hn, Bool.not_false, cond_true]
/-! Atoi -/
theorem decFrom_val {L : List UInt8} (h : ∀ x ∈ L, isDig x) : ∀ n : Nat, ∃ m : Nat, Lib.decFrom n L = some m ∧ (m : Int) = valD (n : Int) L := by
  induction L with
  | nil => exact fun n => ⟨n, rfl, rfl⟩
  | cons x L ih =>
    intro n
    have hx := h x (by simp)
    obtain ⟨m, e1, e2⟩ := ih (fun y hy => h y (by simp [hy])) (n * 10 + (x.toNat - 48))
    refine ⟨m, ?_, ?_⟩
    · show (match Lib.digitVal x with | some d => Lib.decFrom (n * 10 + d) L | none => none) = some m
      rw [show Lib.digitVal x = some (x.toNat - 48) from if_pos hx]
      exact e1
    · rw [e2, valD_cons]
      congr 1
      unfold dig
      have := hx.1
      omega
theorem atoi_can {L : List UInt8} (h : CanD L) (h6 : L.length ≤ 6) : Lib.atoiAll L = .ok (valD 0 L) := by
  rw [Lib.atoiAll_short L (by omega)]
  obtain ⟨m, e1, e2⟩ := decFrom_val h.2.1 0
  have : Lib.atoi L = some (valD 0 L) := by
    cases L with
    | nil => exact absurd rfl h.1
    | cons x L =>
      have hx := h.2.1 x (by simp)
      have n1 : (x == 45) = false := by
        apply beq_false_of_ne
        intro e
        rw [e] at hx
        exact absurd hx (by decide)
      have n2 : (x == 43) = false := by
        apply beq_false_of_ne
        intro e
        rw [e] at hx
        exact absurd hx (by decide)
      show (if x == 45 then _ else if x == 43 then _ else (Lib.decNat (x :: L)).map fun (m : Nat) => (m : Int)) = _
      rw [n1, n2, if_neg (by simp), if_neg (by simp)]
      show (Lib.decFrom 0 (x :: L)).map _ = _
      rw [e1]
      show some (m : Int) = _
      rw [e2]
      rfl
  rw [this]
  rfl
/-! l1Number -/
theorem dg1_val {n : Int} (h0 : 0 ≤ n) (h1 : n < 10) : dg1 n = ofL (Lib.decDigits n.toNat) := by
  have := (dg_at h0 (by omega)).1
  rw [if_pos h1] at this
  exact this
theorem dgL_val {n : Int} (h0 : 0 ≤ n) : dgL n = ofL [UInt8.ofNat (48 + n.toNat % 10)] := by
  have e : Int.tmod n 10 = Int.tmod ((n.toNat % 10 : Nat) : Int) 10 := by
    rw [Int.tmod_eq_emod_of_nonneg h0, Int.tmod_eq_emod_of_nonneg (by omega)]; omega
  have hl : dgL n = dgL ((n.toNat % 10 : Nat) : Int) := by unfold dgL; rw [e]
  rw [hl]
  have hd : n.toNat % 10 < 10 := Nat.mod_lt _ (by omega)
  have : dgL ((n.toNat % 10 : Nat) : Int) = dg1 ((n.toNat % 10 : Nat) : Int) := by
    unfold dgL dg1
    rw [Int.tmod_eq_emod_of_nonneg (by omega), Int.emod_eq_of_lt (by omega) (by omega), if_neg (by omega)]
  rw [this, dg1_val (by omega) (by omega), Int.toNat_natCast, Lib.decDigits_one hd]
theorem num_gen : ∀ (u : Nat), u ≤ 1000000000000 → (Lib.decDigits u).length ≤ u + 1 ∧ (∃ k, s_l1Number_g k (u : Int) = some (ofL (Lib.decDigits u))) ∧ ∀ k r, s_l1Number_g k (u : Int) = some r → r = ofL (Lib.decDigits u) := by
  intro u
  induction u using Nat.strongRecOn with
  | _ u ih =>
    intro hu
    by_cases h : u < 10
    · have e := dg1_val (n := (u : Int)) (by omega) (by omega)
      rw [Int.toNat_natCast] at e
      refine ⟨by rw [Lib.decDigits_one h]; simp, ⟨1, by rw [num_low 0 (by omega), e]⟩, fun k r hk => ?_⟩
      cases k with
      | zero => rw [num_g0] at hk; cases hk
      | succ k => rw [num_low k (by omega), e] at hk; exact (Option.some.inj hk).symm
    · obtain ⟨i0, ⟨k0, i1⟩, i2⟩ := ih (u / 10) (by omega) (by omega)
      have hd : IntKind.i64.wrap (Int.tdiv (u : Int) 10) = ((u / 10 : Nat) : Int) := by
        rw [Int.tdiv_eq_ediv_of_nonneg (by omega), i64w (by omega) (by omega)]; omega
      have eL := dgL_val (n := (u : Int)) (by omega)
      rw [Int.toNat_natCast] at eL
      have hl : (Lib.decDigits u).length ≤ u + 1 := by rw [Lib.decDigits, dif_neg h]; simp; omega
      have he : ofL (Lib.decDigits (u / 10)) ++ dgL (u : Int) = ofL (Lib.decDigits u) := by
        rw [eL, ofL_app]
        congr 1
        rw [Lib.decDigits.eq_1 u, dif_neg h]
      have hsz : (ofL (Lib.decDigits (u / 10))).size + (dgL (u : Int)).size ≤ 9223372036854775807 := by
        rw [eL, ofL_size, ofL_size]; simp; omega
      have stp : ∀ k, s_l1Number_g (k + 1) (u : Int) = (s_l1Number_g k ((u / 10 : Nat) : Int)).bind fun b => if b.size + (dgL (u : Int)).size ≤ 9223372036854775807 then some (b ++ dgL (u : Int)) else none := by
        intro k
        rw [s_l1Number_g_eq, cnd_f (by omega), hd]
        rfl
      refine ⟨hl, ⟨k0 + 1, ?_⟩, fun k r hk => ?_⟩
      · rw [stp, i1, Option.bind_some, if_pos hsz, he]
      · cases k with
        | zero => rw [num_g0] at hk; cases hk
        | succ k =>
          rw [stp] at hk
          obtain ⟨b, hb, hk⟩ := Option.bind_eq_some_iff.1 hk
          rw [i2 k b hb, if_pos hsz, he] at hk
          exact (Option.some.inj hk).symm
theorem num_all {n : Int} (h0 : 0 ≤ n) (h1 : n ≤ 1000000000000) : s_l1Number_f n = some (ofL (Lib.itoa n)) := by
  obtain ⟨u, rfl⟩ : ∃ u : Nat, n = u := ⟨n.toNat, by omega⟩
  obtain ⟨_, a, b⟩ := num_gen u (by omega)
  rw [Lib.itoa_nonneg]
  exact lim_of a b
end FN

/-! Rows as texts; counts. -/
namespace FN
open Go
theorem itoaG_eq (n : Int) : itoaG n = ofL (Lib.itoa n) := rfl
theorem itoaG_val {n : Int} (h0 : -9223372036854775808 ≤ n) (h1 : n ≤ 9223372036854775807) : x_strconv_ItoaG_f n = some (itoaG n) := if_pos ⟨h0, h1⟩
theorem itoaG_size {n : Int} (h0 : -9223372036854775808 ≤ n) (h1 : n ≤ 9223372036854775807) : (itoaG n).size ≤ 21 := by
  rw [itoaG_eq, ofL_size]
  exact Lib.itoa_length_le n h0 h1
theorem itoaG_pos (n : Int) : 0 < (itoaG n).size := by
  rw [itoaG_eq, ofL_size]
  unfold Lib.itoa
  split
  · simp
  · exact (dec_dig n.toNat).2.2
theorem itoaG_neg {n : Int} (h : n < 0) : str48 ++ itoaG (-n) = itoaG n := by
  obtain ⟨u, rfl⟩ : ∃ u : Nat, n = -(u : Int) := ⟨n.natAbs, by omega⟩
  rw [Int.neg_neg, itoaG_eq, itoaG_eq, Lib.itoa_nonneg, Lib.itoa_neg u (by omega)]
  exact ofL_app [45] _
/-- Their texts, with commas. -/
def rowV (l : List Int) : ByteArray := if l = [] then str40 else joinS (l.map itoaG) str14
theorem rev_ind {P : List Int → Prop} (h0 : P []) (h1 : ∀ l x, P l → P (l ++ [x])) (l : List Int) : P l := by
  rw [← l.reverse_reverse]
  induction l.reverse with
  | nil => exact h0
  | cons x t ih => rw [List.reverse_cons]; exact h1 _ _ ih
theorem join_size : ∀ {l : List Int}, (∀ v ∈ l, -1000000000 ≤ v ∧ v ≤ 1000000000) → (joinS (l.map itoaG) str14).size ≤ 22 * l.length := by
  intro l
  refine rev_ind (P := fun l => (∀ v ∈ l, -1000000000 ≤ v ∧ v ≤ 1000000000) → (joinS (l.map itoaG) str14).size ≤ 22 * l.length) (fun _ => Nat.le_refl _) (fun l x ih => ?_) l
  · intro h
    have hx := h x (by simp)
    have hi := ih fun v hv => h v (by simp [hv])
    have hs := itoaG_size (n := x) (by omega) (by omega)
    have z14 : ByteArray.size str14 = 1 := rfl
    rw [List.map_append, List.map_singleton, List.length_append, List.length_singleton]
    by_cases c : l = []
    · subst c
      rw [List.map_nil, List.nil_append, joinS_one]
      omega
    · rw [joinS_snoc (by simpa using c), ByteArray.size_append, ByteArray.size_append]
      omega
theorem i_row_loop {l : List Int} (hl : l.length ≤ 1000) (hv : ∀ v ∈ l, -1000000000 ≤ v ∧ v ≤ 1000000000) : ∀ i, i ≤ l.length → i_rowText_l0 l (l.length : Int) (i : Int) ((l.take i).map itoaG) = some (joinS (l.map itoaG) str14) := by
  refine advN ?_ fun i hi ih => ?_
  · rw [i_rowText_l0_eq, cnd_f (by omega), List.take_length, x_strings_Join_f_eq, if_pos ⟨by rw [List.length_map]; omega, by have := join_size hv; omega⟩]
    rfl
  · have hx := hv (l.getD i 0) (by rw [List.getD_eq_getElem?_getD, List.getElem?_eq_getElem hi]; exact List.getElem_mem hi)
    rw [i_rowText_l0_eq, cnd_t (by omega), if_pos (inN hi), gN, itoaG_val (by omega) (by omega), Option.bind_some, if_pos (by simp; omega), w1 hi (by omega)]
    rw [List.take_succ_eq_append_getElem hi, List.map_append, List.map_singleton] at ih
    rw [show l.getD i 0 = l[i] by rw [List.getD_eq_getElem?_getD, List.getElem?_eq_getElem hi]; rfl]
    exact ih
theorem i_row {l : List Int} (hl : l.length ≤ 1000) (hv : ∀ v ∈ l, -1000000000 ≤ v ∧ v ≤ 1000000000) : i_rowText_f l = some (rowV l) := by
  rw [i_rowText_f_eq]
  unfold rowV
  by_cases c : l = []
  · subst c; rfl
  · have : l.length ≠ 0 := fun e => c (List.eq_nil_of_length_eq_zero e)
    rw [beq_f (by omega), if_neg c]
    exact i_row_loop hl hv 0 (by omega)
theorem s_row_loop {l : List Int} (hl : l.length ≤ 1000) (hv : ∀ v ∈ l, -1000000000 ≤ v ∧ v ≤ 1000000000) : ∀ i, i ≤ l.length → s_l15Row_l0 l (joinS ((l.take i).map itoaG) str14) (i : Int) = s_l15Row_j2 l (joinS (l.map itoaG) str14) := by
  have z14 : ByteArray.size str14 = 1 := rfl
  have z48 : ByteArray.size str48 = 1 := rfl
  refine advN ?_ fun i hi ih => ?_
  · rw [s_l15Row_l0_eq, cnd_f (by omega), List.take_length]
  · have hg : l.getD i 0 = l[i] := by rw [List.getD_eq_getElem?_getD, List.getElem?_eq_getElem hi]; rfl
    have hx := hv (l.getD i 0) (by rw [hg]; exact List.getElem_mem hi)
    have hsz : (joinS ((l.take i).map itoaG) str14).size ≤ 22 * 1000 := by
      have := join_size (l := l.take i) fun v hm => hv v (List.mem_of_mem_take hm)
      have h2 : (l.take i).length ≤ 1000 := by rw [List.length_take]; omega
      omega
    have hs := itoaG_size (n := l.getD i 0) (by omega) (by omega)
    have go : ∀ y : ByteArray, y.size ≤ 22 * 1000 + 1 → y ++ itoaG (l.getD i 0) = joinS ((l.take (i + 1)).map itoaG) str14 → s_l15Row_j1 l y (i : Int) = s_l15Row_j2 l (joinS (l.map itoaG) str14) := by
      intro y hy he
      rw [s_l15Row_j1_eq, if_pos (inN hi), gN]
      by_cases c : l.getD i 0 < 0
      · have e1 := itoaG_neg c
        have hs2 : (itoaG (-l.getD i 0)).size ≤ 21 := itoaG_size (by omega) (by omega)
        rw [cnd_t c, if_pos (by omega), if_pos (inN hi), i64w (by omega) (by omega), show 0 - l.getD i 0 = -l.getD i 0 by omega, num_all (by omega) (by omega), Option.bind_some, ← itoaG_eq, if_pos (by rw [ByteArray.size_append]; omega), w1 hi (by omega), ByteArray.append_assoc, e1, he]
        exact ih
      · rw [cnd_f c, if_pos (inN hi), num_all (by omega) (by omega), Option.bind_some, ← itoaG_eq, if_pos (by omega), w1 hi (by omega), he]
        exact ih
    have hlast : (l.take (i + 1)).map itoaG = (l.take i).map itoaG ++ [itoaG (l.getD i 0)] := by
      rw [List.take_succ_eq_append_getElem hi, List.map_append, List.map_singleton, hg]
    rw [s_l15Row_l0_eq, cnd_t (by omega)]
    by_cases c : 0 < i
    · have hne : (l.take i).map itoaG ≠ [] := fun e => by
        have := congrArg List.length e
        rw [List.length_map, List.length_take, List.length_nil] at this
        omega
      rw [cnd_t (show (0 : Int) < (i : Int) by omega), if_pos (by omega)]
      exact go _ (by rw [ByteArray.size_append]; omega) (by rw [hlast, joinS_snoc hne])
    · have c0 : i = 0 := by omega
      rw [cnd_f (show ¬ (0 : Int) < (i : Int) by omega)]
      refine go _ (by omega) ?_
      rw [hlast]
      subst c0
      rw [List.take_zero, List.map_nil, List.nil_append, joinS_one, joinS_nil]
      exact ba_ext (by simp)
theorem s_row {l : List Int} (hl : l.length ≤ 1000) (hv : ∀ v ∈ l, -1000000000 ≤ v ∧ v ≤ 1000000000) : s_l15Row_f l = some (rowV l) := by
  rw [s_l15Row_f_eq]
  refine (s_row_loop hl hv 0 (by omega)).trans ?_
  rw [s_l15Row_j2_eq]
  unfold rowV
  by_cases c : l = []
  · subst c; rfl
  · have : l.length ≠ 0 := fun e => c (List.eq_nil_of_length_eq_zero e)
    rw [beq_f (by omega), if_neg c]
/-! Counts. -/
theorem counts_loop {k : Int} {s : List Int} (h : StP k s) : ∀ i, i ≤ s.length → ∀ w : List Int, (w.length : Int) = k → (∀ v ∈ w, 0 ≤ v ∧ v ≤ (i : Int)) → ∃ r, i_CountsOf_l0 s (s.length : Int) (i : Int) w = some r ∧ s_CountsOf_l0 s (i : Int) w = some r ∧ (r.length : Int) = k ∧ ∀ v ∈ r, 0 ≤ v ∧ v ≤ 6 := by
  have hs := h.2.2.2.2
  refine advN ?_ fun i hi ih => ?_
  · intro w hw hv
    exact ⟨w, by rw [i_CountsOf_l0_eq, cnd_f (by omega)], by rw [s_CountsOf_l0_eq, cnd_f (by omega)], hw, fun v hm => by have := hv v hm; omega⟩
  · intro w hw hv
    have hr := h.1 i hi
    have hge : 0 ≤ w.getD (s.getD i 0).toNat 0 ∧ w.getD (s.getD i 0).toNat 0 ≤ (i : Int) := by
      have hlt : (s.getD i 0).toNat < w.length := by omega
      rw [List.getD_eq_getElem?_getD, List.getElem?_eq_getElem hlt]
      exact hv _ (List.getElem_mem hlt)
    obtain ⟨r, e1, e2, e3, e4⟩ := ih (w.set (s.getD i 0).toNat (w.getD (s.getD i 0).toNat 0 + 1)) (by simp [hw]) (fun v hm => by
      rcases List.mem_or_eq_of_mem_set hm with hm | hm
      · have := hv v hm; omega
      · rw [hm]; omega)
    refine ⟨r, ?_, ?_, e3, e4⟩
    · rw [i_CountsOf_l0_eq, cnd_t (by omega), if_pos (inN hi), gN, if_pos (by omega), if_pos (by omega), w1 hi (by omega), i64w (by omega) (by omega)]
      exact e1
    · rw [s_CountsOf_l0_eq, cnd_t (by omega), if_pos (inN hi), if_pos (inN hi), gN, if_pos (by omega), if_pos (by omega), w1 hi (by omega), i64w (by omega) (by omega)]
      exact e2
theorem counts_val {k : Int} {s : List Int} (h : StP k s) : ∃ r : List Int, i_CountsOf_f (k, s) = some r ∧ s_CountsOf_f (k, s) = some r ∧ (r.length : Int) = k ∧ ∀ v ∈ r, 0 ≤ v ∧ v ≤ 6 := by
  have hk := h.2
  obtain ⟨r, e1, e2, e3, e4⟩ := counts_loop h 0 (by omega) (List.replicate k.toNat 0) (by simp; omega) (fun v hv => by
    rw [List.eq_of_mem_replicate hv]; omega)
  refine ⟨r, ?_, ?_, e3, e4⟩
  · rw [i_CountsOf_f_eq, ist k s (by omega), decide_eq_true h, Option.bind_some, Bool.not_true, cond_false, if_pos ⟨by omega, by omega, by omega⟩]
    exact e1
  · rw [s_CountsOf_f_eq, sst k s (by omega), decide_eq_true h, Option.bind_some, Bool.not_true, cond_false, if_pos ⟨by omega, by omega, by omega⟩]
    exact e2
end FN

/-! The first repetition of a sequence of numbers. -/
namespace FN
open Go
structure RepAt (g : Nat → Int) (i n : Nat) : Prop where
  lt : i < n
  eq : g i = g n
  apart : ∀ a b, a < b → b < n → g a ≠ g b
theorem RepAt.uniq {g : Nat → Int} {i n i' n' : Nat} (h : RepAt g i n) (k : RepAt g i' n') : i = i' ∧ n = n' := by
  have hn : n = n' := by
    rcases Nat.lt_trichotomy n n' with hc | hc | hc
    · exact absurd h.eq (k.apart i n h.lt hc)
    · exact hc
    · exact absurd k.eq (h.apart i' n' k.lt hc)
  subst hn
  refine ⟨?_, rfl⟩
  rcases Nat.lt_trichotomy i i' with hc | hc | hc
  · exact absurd (h.eq.trans k.eq.symm) (h.apart i i' hc k.lt)
  · exact hc
  · exact absurd (k.eq.trans h.eq.symm) (h.apart i' i hc h.lt)
theorem pigeon : ∀ (N : Nat) (f : Nat → Nat), (∀ k, k ≤ N → f k < N) → ∃ a b, a < b ∧ b ≤ N ∧ f a = f b
  | 0, f, h => absurd (h 0 (Nat.le_refl 0)) (by omega)
  | N + 1, f, h => by
    by_cases hc : ∃ a, a ≤ N ∧ f a = f (N + 1)
    · obtain ⟨a, h1, h2⟩ := hc
      exact ⟨a, N + 1, by omega, Nat.le_refl _, h2⟩
    · have hne : ∀ a, a ≤ N → f a ≠ f (N + 1) := fun a ha e => hc ⟨a, ha, e⟩
      obtain ⟨a, b, h1, h2, h3⟩ := pigeon N (fun k => if f (N + 1) < f k then f k - 1 else f k) (fun k hk => by
        have h4 := h k (by omega)
        have h5 := hne k hk
        have h6 := h (N + 1) (Nat.le_refl _)
        show (if f (N + 1) < f k then f k - 1 else f k) < N
        split <;> omega)
      refine ⟨a, b, h1, by omega, ?_⟩
      have h4 := hne a (by omega)
      have h5 := hne b h2
      have h3' : (if f (N + 1) < f a then f a - 1 else f a) = (if f (N + 1) < f b then f b - 1 else f b) := h3
      split at h3' <;> split at h3' <;> omega
theorem RepAt.ex {g : Nat → Int} {N : Nat} (h : ∀ k, 0 ≤ g k ∧ g k < N) : ∃ i n, n ≤ N ∧ RepAt g i n := by
  obtain ⟨a, b, h1, h2, h3⟩ := pigeon N (fun k => (g k).toNat) (fun k _ => by have := h k; omega)
  have hab : g a = g b := by have := h a; have := h b; have h3' : (g a).toNat = (g b).toNat := h3; omega
  -- the least such b
  have key : ∀ m, m ≤ b → (∃ i n, n ≤ N ∧ RepAt g i n) ∨ ∀ x y, x < y → y < m → g x ≠ g y := by
    intro m
    induction m with
    | zero => exact fun _ => .inr fun x y _ hy => absurd hy (by omega)
    | succ m ih =>
      intro hm
      rcases ih (by omega) with h4 | h4
      · exact .inl h4
      · by_cases hc : ∃ i, i < m ∧ g i = g m
        · obtain ⟨i, h5, h6⟩ := hc
          exact .inl ⟨i, m, by omega, h5, h6, h4⟩
        · refine .inr fun x y hxy hy e => ?_
          by_cases hym : y = m
          · subst hym; exact hc ⟨x, hxy, e⟩
          · exact h4 x y hxy (by omega) e
  rcases key b (Nat.le_refl _) with h4 | h4
  · exact h4
  · exact ⟨a, b, h2, h1, hab, h4⟩
/-- One step later. -/
theorem RepAt.shift {g : Nat → Int} {i n : Nat} (hf : ∀ a b, g a = g b → g (a + 1) = g (b + 1)) (h : RepAt g i n) : RepAt (fun k => g (k + 1)) (i - 1) (if i = 0 then n else n - 1) := by
  have hlt := h.lt
  by_cases hi : i = 0
  · subst hi
    rw [if_pos rfl]
    refine ⟨h.lt, hf _ _ h.eq, fun a b hab hb => ?_⟩
    by_cases hc : b + 1 < n
    · exact h.apart (a + 1) (b + 1) (by omega) hc
    · have e : b + 1 = n := by omega
      show g (a + 1) ≠ g (b + 1)
      rw [e, ← h.eq]
      exact fun e => h.apart 0 (a + 1) (by omega) (by omega) e.symm
  · rw [if_neg hi]
    refine ⟨by omega, ?_, fun a b hab hb => h.apart (a + 1) (b + 1) (by omega) (by omega)⟩
    show g (i - 1 + 1) = g (n - 1 + 1)
    rw [show i - 1 + 1 = i by omega, show n - 1 + 1 = n by omega]
    exact h.eq
theorem loopG_val {num : List Int → Option Int} {step : List Int → Option (List Int)} {g : Nat → Int} {S : Nat → List Int} {i n : Nat} (hr : RepAt g i n) (hs : ∀ j, j < n → step (S j) = some (S (j + 1))) (hn : ∀ j, j ≤ n → num (S j) = some (g j)) (hb : ∀ j, 0 ≤ g j ∧ g j ≤ 4611686018427387904) (f : Nat) (hf : n < f) :
    loopG num step f [] (S 0) = some ((i : Int), (n : Int) - (i : Int)) := by
  have key : ∀ d j, n - j = d → j ≤ n → ∀ f, d < f → loopG num step f ((List.range j).map g) (S j) = some ((i : Int), (n : Int) - (i : Int)) := by
    intro d
    induction d with
    | zero =>
      intro j hd hj f hf
      have hjn : j = n := by omega
      subst hjn
      cases f with
      | zero => omega
      | succ f =>
        have hfi : ((List.range j).map g).findIdx? (· == g j) = some i := by
          rw [List.findIdx?_eq_some_iff_getElem]
          refine ⟨by simpa using hr.lt, by simp [hr.eq], fun k hk => ?_⟩
          have hkj : k < j := Nat.lt_trans hk hr.lt
          have := hr.apart k i hk hr.lt
          simp only [List.getElem_map, List.getElem_range, beq_iff_eq]
          rw [← hr.eq]
          simpa using this
        unfold loopG
        rw [hn j (Nat.le_refl j), Option.bind_some, if_pos (hb j)]
        simp only [hfi]
        simp
    | succ d ih =>
      intro j hd hj f hf
      have hjn : j < n := by omega
      cases f with
      | zero => omega
      | succ f =>
        have hfi : ((List.range j).map g).findIdx? (· == g j) = none := by
          rw [List.findIdx?_eq_none_iff]
          intro x hx
          obtain ⟨k, hk, rfl⟩ := List.mem_map.1 hx
          have := hr.apart k j (List.mem_range.1 hk) hjn
          simpa using this
        unfold loopG
        rw [hn j hj, Option.bind_some, if_pos (hb j)]
        simp only [hfi]
        rw [hs j hjn, Option.bind_some]
        have := ih (j + 1) (by omega) (by omega) f (by omega)
        rw [List.range_succ, List.map_append] at this
        exact this
  have := key (n - 0) 0 rfl (by omega) f (by omega)
  simpa using this
end FN

/-! A state's number; the states that come. -/
namespace FN
open Go
def numV (k : Int) (b : List Int) : Int := b.foldr (fun x n => n * k + x) 0
theorem numV_cons (k x : Int) (l : List Int) : numV k (x :: l) = numV k l * k + x := rfl
theorem numV_inj {k : Int} : ∀ {b b' : List Int}, b.length = b'.length → (∀ x ∈ b, 0 ≤ x ∧ x < k) → (∀ x ∈ b', 0 ≤ x ∧ x < k) → numV k b = numV k b' → b = b'
  | [], [], _, _, _, _ => rfl
  | [], _ :: _, h, _, _, _ => by simp at h
  | _ :: _, [], h, _, _, _ => by simp at h
  | x :: l, y :: m, h, h1, h2, e => by
    have hx := h1 x (by simp)
    have hy := h2 y (by simp)
    rw [numV_cons, numV_cons] at e
    have e1 : x = y := by
      have := congrArg (· % k) e
      simp only [Int.mul_add_emod_self_right] at this
      rwa [Int.emod_eq_of_lt hx.1 hx.2, Int.emod_eq_of_lt hy.1 hy.2] at this
    subst e1
    have e2 : numV k l * k = numV k m * k := by omega
    have e3 : numV k l = numV k m := Int.eq_of_mul_eq_mul_right (by omega) e2
    rw [numV_inj (b := l) (b' := m) (by simpa using h) (fun z hz => h1 z (by simp [hz])) (fun z hz => h2 z (by simp [hz])) e3]
theorem numV_bound {k : Int} (hk : 0 < k) : ∀ {b : List Int}, (∀ x ∈ b, 0 ≤ x ∧ x < k) → 0 ≤ numV k b ∧ numV k b + 1 ≤ k ^ b.length
  | [], _ => by simp [numV]
  | x :: l, h => by
    have hx := h x (by simp)
    obtain ⟨a1, a2⟩ := numV_bound hk (b := l) fun z hz => h z (by simp [hz])
    rw [numV_cons, List.length_cons, Int.pow_succ]
    have h1 : 0 ≤ numV k l * k := Int.mul_nonneg a1 (by omega)
    have h2 : (numV k l + 1) * k ≤ k ^ l.length * k := Int.mul_le_mul_of_nonneg_right a2 (by omega)
    rw [Int.add_mul, Int.one_mul] at h2
    omega
theorem StP.mem {k : Int} {s : List Int} (h : StP k s) : ∀ x ∈ s, 0 ≤ x ∧ x < k := by
  intro x hx
  obtain ⟨i, hi, rfl⟩ := List.getElem_of_mem hx
  have := h.1 i hi
  rwa [List.getD_eq_getElem?_getD, List.getElem?_eq_getElem hi] at this
theorem StP.num {k : Int} {s : List Int} (h : StP k s) : 0 ≤ numV k s ∧ numV k s < 15625 := by
  obtain ⟨a1, a2⟩ := numV_bound (by have := h.2.1; omega) h.mem
  refine ⟨a1, ?_⟩
  have h1 : k = 3 ∨ k = 4 ∨ k = 5 := by have := h.2; omega
  have h2 : s.length = 1 ∨ s.length = 2 ∨ s.length = 3 ∨ s.length = 4 ∨ s.length = 5 ∨ s.length = 6 := by have := h.2; omega
  have h3 : k ^ s.length ≤ 15625 := by
    rcases h1 with rfl | rfl | rfl <;> rcases h2 with e | e | e | e | e | e <;> rw [e] <;> decide
  omega
theorem numV_le {k : Int} {l : List Int} (h3 : 3 ≤ k) (h5 : k ≤ 5) (hl : l.length ≤ 6) (h : ∀ x ∈ l, 0 ≤ x ∧ x < k) : 0 ≤ numV k l ∧ numV k l < 15625 := by
  obtain ⟨a1, a2⟩ := numV_bound (by omega) h
  refine ⟨a1, ?_⟩
  have h1 : k = 3 ∨ k = 4 ∨ k = 5 := by omega
  have h2 : l.length = 0 ∨ l.length = 1 ∨ l.length = 2 ∨ l.length = 3 ∨ l.length = 4 ∨ l.length = 5 ∨ l.length = 6 := by omega
  have h3 : k ^ l.length ≤ 15625 := by
    rcases h1 with rfl | rfl | rfl <;> rcases h2 with e | e | e | e | e | e | e <;> rw [e] <;> decide
  omega
theorem num_loop {k : Int} {b : List Int} (h : StP k b) : ∀ m : Nat, m ≤ b.length → i_NumberOf_l0 k b (numV k (b.drop m)) ((m : Int) - 1) = some (numV k b)
  | 0, _ => by
    rw [i_NumberOf_l0_eq, cnd_f (by omega), List.drop_zero]
  | m + 1, hm => by
    have hd : b.drop m = b.getD m 0 :: b.drop (m + 1) := by
      rw [List.drop_eq_getElem_cons (by omega), List.getD_eq_getElem?_getD, List.getElem?_eq_getElem (by omega)]
      rfl
    have hk := h.2
    have hq := numV_le (l := b.drop (m + 1)) hk.1 hk.2.1 (by rw [List.length_drop]; omega) fun x hx => h.mem x (List.mem_of_mem_drop hx)
    have hx := h.1 m (by omega)
    have hmul : 0 ≤ numV k (b.drop (m + 1)) * k ∧ numV k (b.drop (m + 1)) * k ≤ 15625 * 5 := by
      refine ⟨Int.mul_nonneg hq.1 (by omega), ?_⟩
      exact Int.mul_le_mul (by omega) hk.2.1 (by omega) (by omega)
    have e1 : (((m + 1 : Nat) : Int) - 1) = (m : Int) := by omega
    rw [i_NumberOf_l0_eq, e1, cnd_t (by omega), if_pos ⟨by omega, by omega⟩, gN, i64w (n := numV k (b.drop (m + 1)) * k) (by omega) (by omega), i64w (n := numV k (b.drop (m + 1)) * k + b.getD m 0) (by omega) (by omega), i64w (n := (m : Int) - 1) (by omega) (by omega)]
    have := num_loop h m (by omega)
    rw [hd, numV_cons] at this
    exact this
theorem numOf_val {k : Int} {b : List Int} (h : StP k b) : i_NumberOf_f (k, b) = some (numV k b) := by
  have hl := h.2.2.2
  rw [i_NumberOf_f_eq, ist k b (by omega), Option.bind_some, decide_eq_true h, Bool.not_true, cond_false, i64w (by omega) (by omega)]
  have := num_loop h b.length (Nat.le_refl _)
  rw [List.drop_length] at this
  exact this
theorem stepV_ok {a : List Int} {k : Int} {b : List Int} (h : PlP a k b) : PlP a k (stepV a k b) := by
  have hl := stepV_len a k b
  refine ⟨h.1, ⟨fun i hi => ?_, h.2.1.2.1, h.2.1.2.2.1, by rw [hl]; exact h.2.1.2.2.2.1, by rw [hl]; exact h.2.1.2.2.2.2⟩, by rw [hl]; exact h.2.2⟩
  rw [hl] at hi
  rw [stepV_get h hi]
  have hb := h.2.1.1 i hi
  have hk := h.2.1.2.1
  unfold stepAt
  split
  · constructor
    · exact Int.tmod_nonneg _ (by omega)
    · exact Int.tmod_lt_of_pos _ (by omega)
  · split <;> omega
/-- The states that come. -/
noncomputable def stN (a : List Int) (k : Int) (b : List Int) : Nat → List Int
  | 0 => b
  | n + 1 => stepV a k (stN a k b n)
theorem stN_ok {a : List Int} {k : Int} {b : List Int} (h : PlP a k b) : ∀ n, PlP a k (stN a k b n) ∧ (stN a k b n).length = b.length
  | 0 => ⟨h, rfl⟩
  | n + 1 => ⟨stepV_ok (stN_ok h n).1, by rw [stN, stepV_len]; exact (stN_ok h n).2⟩
noncomputable def gN_ (a : List Int) (k : Int) (b : List Int) (n : Nat) : Int := numV k (stN a k b n)
theorem gN_next {a : List Int} {k : Int} {b : List Int} (h : PlP a k b) (i j : Nat) (e : gN_ a k b i = gN_ a k b j) : gN_ a k b (i + 1) = gN_ a k b (j + 1) := by
  have := numV_inj (by rw [(stN_ok h i).2, (stN_ok h j).2]) (stN_ok h i).1.2.1.mem (stN_ok h j).1.2.1.mem e
  show numV k (stepV a k (stN a k b i)) = numV k (stepV a k (stN a k b j))
  rw [this]
theorem gN_rep {a : List Int} {k : Int} {b : List Int} (h : PlP a k b) : ∃ i n, n ≤ 15625 ∧ RepAt (gN_ a k b) i n :=
  RepAt.ex (N := 15625) fun j => (stN_ok h j).1.2.1.num
theorem loop_val {a : List Int} {k : Int} {b : List Int} (h : PlP a k b) : ∃ i n, n ≤ 15625 ∧ RepAt (gN_ a k b) i n ∧ i_LoopOf_f (a, k, b) = some ((i : Int), (n : Int) - (i : Int)) := by
  obtain ⟨i, n, hn, hr⟩ := gN_rep h
  refine ⟨i, n, hn, hr, ?_⟩
  have hm := PlP.sm h
  rw [i_LoopOf_f_eq, iasked a k b (by omega), Option.bind_some, decide_eq_true h, cond_true]
  have key := fun f hf => loopG_val (num := fun s => i_NumberOf_f (k, s)) (step := fun s => i_needStep_f (a, k, (), s)) (g := gN_ a k b) (S := stN a k b) hr (fun j _ => i_step (stN_ok h j).1) (fun j _ => numOf_val (stN_ok h j).1.2.1) (fun j => by
    have := (stN_ok h j).1.2.1.num
    exact ⟨this.1, by have := this.2; show numV k (stN a k b j) ≤ _; omega⟩) f hf
  have e0 : stN a k b 0 = b := rfl
  rw [e0] at key
  have hf : n < 20000 := by omega
  generalize (20000 : Nat) = f at hf ⊢
  exact key f hf
end FN

/-! The hare and the tortoise. -/
namespace FN
open Go
section
variable {g : Nat → Int} {i n : Nat} (hf : ∀ a b, g a = g b → g (a + 1) = g (b + 1)) (h : RepAt g i n)
include hf h
theorem RepAt.per (a : Nat) (ha : i ≤ a) : g (a + (n - i)) = g a := by
  obtain ⟨d, rfl⟩ : ∃ d, a = i + d := ⟨a - i, by omega⟩
  have hlt := h.lt
  induction d with
  | zero =>
    show g (i + (n - i)) = g i
    rw [show i + (n - i) = n by omega]
    exact h.eq.symm
  | succ d ih =>
    have := hf _ _ (ih (by omega))
    rw [show i + (d + 1) + (n - i) = i + d + (n - i) + 1 by omega, show i + (d + 1) = i + d + 1 by omega]
    exact this
theorem RepAt.perN (a : Nat) (ha : i ≤ a) (k : Nat) : g (a + k * (n - i)) = g a := by
  induction k with
  | zero => rw [Nat.zero_mul, Nat.add_zero]
  | succ k ih => rw [Nat.add_mul, Nat.one_mul, ← Nat.add_assoc, h.per hf (a + k * (n - i)) (by omega), ih]
theorem RepAt.rest (a : Nat) (ha : i ≤ a) : g a = g (i + (a - i) % (n - i)) := by
  have hd : a = i + (a - i) % (n - i) + (a - i) / (n - i) * (n - i) := by
    have := Nat.mod_add_div (a - i) (n - i)
    rw [Nat.mul_comm] at this
    omega
  have := h.perN hf (i + (a - i) % (n - i)) (by omega) ((a - i) / (n - i))
  rw [← hd] at this
  exact this
theorem RepAt.eq_iff (a b : Nat) (hab : a ≤ b) : g a = g b ↔ a = b ∨ (i ≤ a ∧ (n - i) ∣ (b - a)) := by
  have hlt := h.lt
  have hpos : 0 < n - i := by omega
  have inj : ∀ x y, x < n → y < n → g x = g y → x = y := by
    intro x y hx hy e
    rcases Nat.lt_trichotomy x y with c | c | c
    · exact absurd e (h.apart x y c hy)
    · exact c
    · exact absurd e.symm (h.apart y x c hx)
  have hm : ∀ z, i + z % (n - i) < n := fun z => by have := Nat.mod_lt z hpos; omega
  constructor
  · intro e
    by_cases ha : i ≤ a
    · rw [h.rest hf a ha, h.rest hf b (by omega)] at e
      have e2 := inj _ _ (hm _) (hm _) e
      have e3 : (a - i) % (n - i) = (b - i) % (n - i) := by omega
      refine .inr ⟨ha, ?_⟩
      have e4 : (b - i) = (a - i) + (b - a) := by omega
      have h1 := Nat.sub_mod_eq_zero_of_mod_eq e3.symm
      rw [show b - i - (a - i) = b - a by omega] at h1
      exact Nat.dvd_of_mod_eq_zero h1
    · by_cases hb : i ≤ b
      · rw [h.rest hf b hb] at e
        have := inj a _ (by omega) (hm _) e
        omega
      · exact .inl (inj a b (by omega) (by omega) e)
  · rintro (rfl | ⟨ha, k, hk⟩)
    · rfl
    · have := h.perN hf a ha k
      rw [Nat.mul_comm, ← hk, show a + (b - a) = b by omega] at this
      exact this.symm
/-- Where both meet first. -/
theorem RepAt.meet : ∃ K, 1 ≤ K ∧ g K = g (2 * K) ∧ (∀ k, 1 ≤ k → k < K → g k ≠ g (2 * k)) ∧ (∀ b, g b = g (K + b) ↔ i ≤ b) := by
  have hlt := h.lt
  have hpos : 0 < n - i := by omega
  have hex : ∃ K, 1 ≤ K ∧ g K = g (2 * K) := by
    refine ⟨(i + 1) * (n - i), Nat.mul_pos (by omega) hpos, (h.eq_iff hf _ _ (by omega)).2 (.inr ⟨?_, ?_⟩)⟩
    · have : i + 1 ≤ (i + 1) * (n - i) := Nat.le_mul_of_pos_right _ hpos
      omega
    · rw [show 2 * ((i + 1) * (n - i)) - (i + 1) * (n - i) = (i + 1) * (n - i) by omega]
      exact Nat.dvd_mul_left _ _
  -- the least one
  have key : ∀ m, (∃ K, K < m ∧ 1 ≤ K ∧ g K = g (2 * K) ∧ ∀ k, 1 ≤ k → k < K → g k ≠ g (2 * k)) ∨ ∀ k, 1 ≤ k → k < m → g k ≠ g (2 * k) := by
    intro m
    induction m with
    | zero => exact .inr fun k _ hk => absurd hk (by omega)
    | succ m ih =>
      rcases ih with ⟨K, h1, h2, h3, h4⟩ | h1
      · exact .inl ⟨K, by omega, h2, h3, h4⟩
      · by_cases c : 1 ≤ m ∧ g m = g (2 * m)
        · exact .inl ⟨m, by omega, c.1, c.2, h1⟩
        · refine .inr fun k hk1 hk2 e => ?_
          by_cases hkm : k = m
          · subst hkm; exact c ⟨hk1, e⟩
          · exact h1 k hk1 (by omega) e
  obtain ⟨K0, a1, a2⟩ := hex
  rcases key (K0 + 1) with ⟨K, _, h2, h3, h4⟩ | h1
  · refine ⟨K, h2, h3, h4, fun b => ?_⟩
    rcases (h.eq_iff hf K (2 * K) (by omega)).1 h3 with c | ⟨c1, c2⟩
    · omega
    · rw [show 2 * K - K = K by omega] at c2
      rw [h.eq_iff hf b (K + b) (by omega), show K + b - b = K by omega]
      constructor
      · rintro (c | c)
        · omega
        · exact c.1
      · exact fun hb => .inr ⟨hb, c2⟩
  · exact absurd a2 (h1 K0 a1 (by omega))
/-- How long the loop is. -/
theorem RepAt.long (L : Nat) : g i = g (i + L) ↔ (n - i) ∣ L := by
  rw [h.eq_iff hf i (i + L) (by omega), show i + L - i = L by omega]
  constructor
  · rintro (c | c)
    · have : L = 0 := by omega
      subst this
      exact Nat.dvd_zero _
    · exact c.2
  · exact fun c => .inr ⟨Nat.le_refl _, c⟩
end
end FN

