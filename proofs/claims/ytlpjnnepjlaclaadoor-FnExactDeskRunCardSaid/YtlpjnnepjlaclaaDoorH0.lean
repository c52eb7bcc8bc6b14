/- Texts of the proof, joined: parts -/
import Derived.Lib.AtoiErrMem
import Derived.Lib.AtoiAll
import Derived.Test.YtlpjnnepjlaclaaDoorG1
set_option linter.unusedVariables false
set_option linter.unusedSimpArgs false
set_option linter.unusedSectionVars false
/-! Loops as the limits of their finite unrollings. -/
namespace FN
section
variable {A B C D : Type}
/-- It asks finitely much of what it is handed. -/
structure Fino (e : (A → Option B) → Option C) : Prop where
  mono : ∀ g h : A → Option B, (∀ a r, g a = some r → h a = some r) → ∀ r, e g = some r → e h = some r
  cont : ∀ s : Nat → A → Option B, (∀ n a r, s n a = some r → s (n + 1) a = some r) → ∀ g : A → Option B, (∀ a r, g a = some r → ∃ n, s n a = some r) → ∀ r, e g = some r → ∃ n, e (s n) = some r
theorem Fino.const (c : Option C) : Fino fun _ : A → Option B => c := ⟨fun _ _ _ _ h => h, fun _ _ _ _ _ h => ⟨0, h⟩⟩
theorem Fino.call (a : A) : Fino fun g : A → Option B => g a := ⟨fun _ _ h r => h a r, fun _ _ _ hg r => hg a r⟩
theorem Fino.cond {c : Bool} {e f : (A → Option B) → Option C} (he : Fino e) (hf : Fino f) : Fino fun g => cond c (e g) (f g) := by cases c; exact hf; exact he
theorem Fino.ite {c : Prop} [Decidable c] {e f : (A → Option B) → Option C} (he : Fino e) (hf : Fino f) : Fino fun g => if c then e g else f g := by
  by_cases h : c
  · simp only [if_pos h]; exact he
  · simp only [if_neg h]; exact hf
theorem chain_le {s : Nat → A → Option B} (hs : ∀ n a r, s n a = some r → s (n + 1) a = some r) {n m : Nat} (h : n ≤ m) {a : A} {r : B} (hn : s n a = some r) : s m a = some r := by
  induction h with
  | refl => exact hn
  | step _ ih => exact hs _ a r ih
theorem Fino.bind {e : (A → Option B) → Option C} {f : (A → Option B) → C → Option D} (he : Fino e) (hf : ∀ x, Fino fun g => f g x) : Fino fun g => Option.bind (e g) (f g) := by
  refine ⟨fun g h hgh r hr => ?_, fun s hs g hg r hr => ?_⟩
  · obtain ⟨x, h1, h2⟩ := Option.bind_eq_some_iff.1 hr
    exact Option.bind_eq_some_iff.2 ⟨x, he.mono g h hgh x h1, (hf x).mono g h hgh r h2⟩
  · obtain ⟨x, h1, h2⟩ := Option.bind_eq_some_iff.1 hr
    obtain ⟨n, hn⟩ := he.cont s hs g hg x h1
    obtain ⟨m, hm⟩ := (hf x).cont s hs g hg r h2
    refine ⟨max n m, Option.bind_eq_some_iff.2 ⟨x, he.mono (s n) _ (fun a r h => chain_le hs (Nat.le_max_left n m) h) x hn, (hf x).mono (s m) _ (fun a r h => chain_le hs (Nat.le_max_right n m) h) r hm⟩⟩
def iterO (F : (A → Option B) → A → Option B) : Nat → A → Option B
  | 0 => fun _ => none
  | n + 1 => F (iterO F n)
noncomputable def fixO (F : (A → Option B) → A → Option B) (a : A) : Option B := by
  classical exact if h : ∃ n r, iterO F n a = some r then iterO F h.choose a else none
theorem fixO_eq {F : (A → Option B) → A → Option B} (hF : ∀ a, Fino fun g => F g a) (a : A) : fixO F a = F (fixO F) a := by
  have hs : ∀ n a r, iterO F n a = some r → iterO F (n + 1) a = some r := by
    intro n
    induction n with
    | zero => intro a r h; cases h
    | succ n ih => intro a r h; exact (hF a).mono _ _ ih r h
  have hl : ∀ a r, fixO F a = some r ↔ ∃ n, iterO F n a = some r := by
    intro a r
    unfold fixO
    constructor
    · intro h
      split at h
      · exact ⟨_, h⟩
      · cases h
    · rintro ⟨n, hn⟩
      have hx : ∃ n r, iterO F n a = some r := ⟨n, r, hn⟩
      rw [dif_pos hx]
      obtain ⟨r', hr'⟩ := hx.choose_spec
      have h1 := chain_le hs (Nat.le_max_left n hx.choose) hn
      have h2 := chain_le hs (Nat.le_max_right n hx.choose) hr'
      rw [hr', ← h1, h2]
  apply Option.ext
  intro r
  rw [hl]
  constructor
  · rintro ⟨n, hn⟩
    cases n with
    | zero => cases hn
    | succ n => exact (hF a).mono _ _ (fun a r h => (hl a r).2 ⟨n, h⟩) r hn
  · intro h
    obtain ⟨n, hn⟩ := (hF a).cont (iterO F) hs (fixO F) (fun a r h => (hl a r).1 h) r h
    exact ⟨n + 1, hn⟩
end
end FN
set_option linter.unusedVariables false
set_option maxRecDepth 4000
namespace FN
open Go Go.Proofs
@[reducible] def i_DeedText_sig : Sig := { ps := [some 3], pc := [.int .i64, .int .i64, .int .i64], rs := [none], rc := [.str] }
noncomputable def i_DeedText_f (x : Ts i_DeedText_sig.pc) : Option (Ts i_DeedText_sig.rc) := (cond ((decide ((x.2.1) < 0))) (some ByteArray.empty) (cond ((decide (99 < (x.2.1)))) (some ByteArray.empty) (cond ((decide ((x.2.2) < 0))) (some ByteArray.empty) (cond ((decide (99 < (x.2.2)))) (some ByteArray.empty) (Option.bind (x_strconv_Itoa_f (x.2.1)) fun r1 => (if ByteArray.size str1 + ByteArray.size r1 ≤ 9223372036854775807 then (cond (((x.1) == 0)) (if ByteArray.size str10 + ByteArray.size (str1 ++ r1) ≤ 9223372036854775807 then (if ByteArray.size (str10 ++ (str1 ++ r1)) + ByteArray.size str1 ≤ 9223372036854775807 then (Option.bind (x_strconv_Itoa_f (x.2.2)) fun r2 => (if ByteArray.size ((str10 ++ (str1 ++ r1)) ++ str1) + ByteArray.size r2 ≤ 9223372036854775807 then (some (((str10 ++ (str1 ++ r1)) ++ str1) ++ r2)) else none)) else none) else none) (cond (((x.2.2) != 0)) (some ByteArray.empty) (cond (((x.1) == 1)) (if ByteArray.size str11 + ByteArray.size (str1 ++ r1) ≤ 9223372036854775807 then (some (str11 ++ (str1 ++ r1))) else none) (cond (((x.1) == 3)) (if ByteArray.size str12 + ByteArray.size (str1 ++ r1) ≤ 9223372036854775807 then (some (str12 ++ (str1 ++ r1))) else none) (cond (((x.2.1) != 0)) (some ByteArray.empty) (cond (((x.1) == 2)) (some str4) (cond (((x.1) == 4)) (some str5) (some ByteArray.empty)))))))) else none))))))
theorem i_DeedText_f_eq (x0 : (Int)) (x1 : (Int)) (x2 : (Int)) : i_DeedText_f (x0, x1, x2) = (cond ((decide (x1 < 0))) (some ByteArray.empty) (cond ((decide (99 < x1))) (some ByteArray.empty) (cond ((decide (x2 < 0))) (some ByteArray.empty) (cond ((decide (99 < x2))) (some ByteArray.empty) (Option.bind (x_strconv_Itoa_f x1) fun r1 => (if ByteArray.size str1 + ByteArray.size r1 ≤ 9223372036854775807 then (cond ((x0 == 0)) (if ByteArray.size str10 + ByteArray.size (str1 ++ r1) ≤ 9223372036854775807 then (if ByteArray.size (str10 ++ (str1 ++ r1)) + ByteArray.size str1 ≤ 9223372036854775807 then (Option.bind (x_strconv_Itoa_f x2) fun r2 => (if ByteArray.size ((str10 ++ (str1 ++ r1)) ++ str1) + ByteArray.size r2 ≤ 9223372036854775807 then (some (((str10 ++ (str1 ++ r1)) ++ str1) ++ r2)) else none)) else none) else none) (cond ((x2 != 0)) (some ByteArray.empty) (cond ((x0 == 1)) (if ByteArray.size str11 + ByteArray.size (str1 ++ r1) ≤ 9223372036854775807 then (some (str11 ++ (str1 ++ r1))) else none) (cond ((x0 == 3)) (if ByteArray.size str12 + ByteArray.size (str1 ++ r1) ≤ 9223372036854775807 then (some (str12 ++ (str1 ++ r1))) else none) (cond ((x1 != 0)) (some ByteArray.empty) (cond ((x0 == 2)) (some str4) (cond ((x0 == 4)) (some str5) (some ByteArray.empty)))))))) else none)))))) := rfl
end FN
namespace FN
open Go Go.Proofs
def atoiV (s : ByteArray) : Int := match Lib.atoiAll s.data.toList with
  | .ok v => v
  | .«syntax» => 0
  | .range => Lib.atoiSat s.data.toList
@[reducible] def x_strconv_Atoi_sig : Sig := { ps := [none], pc := [.str], rs := [none, none], rc := [.int .i64, .any] }
def x_strconv_Atoi_f (s : Ts x_strconv_Atoi_sig.pc) : Option (Ts x_strconv_Atoi_sig.rc) := if ByteArray.size s ≤ 281474976710656 then some (atoiV s, ()) else none
end FN
set_option linter.unusedVariables false
set_option maxRecDepth 4000
namespace FN
open Go Go.Proofs
@[reducible] def x_slices_Index_string_string_sig : Sig := { ps := [none, none], pc := [.view .str, .str], rs := [none], rc := [.int .i64] }
noncomputable def x_slices_Index_string_string_l0_F (g : ((List (ByteArray)) × (ByteArray) × (Int) × (Int)) → Option ((Int))) : ((List (ByteArray)) × (ByteArray) × (Int) × (Int)) → Option ((Int))
  | (y0, y1, y2, y3) => (cond ((decide (y3 < y2))) (if (0 : Int) ≤ y3 ∧ y3 < (List.length y0 : Int) then (cond ((ByteArray.toList y1 == ByteArray.toList (List.getD y0 (y3 : Int).toNat ByteArray.empty))) (some y3) (g ((y0, y1, y2, (IntKind.i64.wrap (y3 + 1)))))) else none) (some (-1)))
theorem x_slices_Index_string_string_l0_F_fin (a : ((List (ByteArray)) × (ByteArray) × (Int) × (Int))) : Fino fun g => x_slices_Index_string_string_l0_F g a := by
  rcases a with ⟨y0, y1, y2, y3⟩
  all_goals
    simp only [x_slices_Index_string_string_l0_F]
    repeat' (first | exact Fino.call _ | exact Fino.const _ | refine Fino.cond ?_ ?_ | refine Fino.ite ?_ ?_ | refine Fino.bind ?_ fun _ => ?_)
noncomputable def x_slices_Index_string_string_l0 (y0 : List (ByteArray)) (y1 : ByteArray) (y2 : Int) (y3 : Int) : Option ((Int)) := fixO x_slices_Index_string_string_l0_F ((y0, y1, y2, y3))
theorem x_slices_Index_string_string_l0_eq (y0 : List (ByteArray)) (y1 : ByteArray) (y2 : Int) (y3 : Int) : x_slices_Index_string_string_l0 y0 y1 y2 y3 = (cond ((decide (y3 < y2))) (if (0 : Int) ≤ y3 ∧ y3 < (List.length y0 : Int) then (cond ((ByteArray.toList y1 == ByteArray.toList (List.getD y0 (y3 : Int).toNat ByteArray.empty))) (some y3) (x_slices_Index_string_string_l0 y0 y1 y2 (IntKind.i64.wrap (y3 + 1)))) else none) (some (-1))) := (fixO_eq x_slices_Index_string_string_l0_F_fin ((y0, y1, y2, y3))).trans rfl
noncomputable def x_slices_Index_string_string_f (x : Ts x_slices_Index_string_string_sig.pc) : Option (Ts x_slices_Index_string_string_sig.rc) := (x_slices_Index_string_string_l0 (x.1) (x.2) (List.length (x.1) : Int) 0)
theorem x_slices_Index_string_string_f_eq (x0 : (List (ByteArray))) (x1 : (ByteArray)) : x_slices_Index_string_string_f (x0, x1) = (x_slices_Index_string_string_l0 x0 x1 (List.length x0 : Int) 0) := rfl
end FN
set_option linter.unusedVariables false
set_option maxRecDepth 4000
namespace FN
open Go Go.Proofs
@[reducible] def i_ReadDeed_sig : Sig := { ps := [none], pc := [.str], rs := [some 3, none], rc := [.int .i64, .int .i64, .int .i64, .bool] }
noncomputable def i_ReadDeed_j1 (y0 : ByteArray) (y1 : Int) (y2 : Int) (y3 : Int) (y4 : Int) (y5 : Int) (y6 : Int) : Option ((Int) × (Int) × (Int) × (Bool)) := (Option.bind (i_DeedText_f (y4, y5, y6)) fun r1 => (cond ((!(ByteArray.toList r1 == ByteArray.toList y0))) (some (0, 0, 0, false)) (some (y4, y5, y6, true))))
theorem i_ReadDeed_j1_eq (y0 : ByteArray) (y1 : Int) (y2 : Int) (y3 : Int) (y4 : Int) (y5 : Int) (y6 : Int) : i_ReadDeed_j1 y0 y1 y2 y3 y4 y5 y6 = (Option.bind (i_DeedText_f (y4, y5, y6)) fun r1 => (cond ((!(ByteArray.toList r1 == ByteArray.toList y0))) (some (0, 0, 0, false)) (some (y4, y5, y6, true)))) := rfl
noncomputable def i_ReadDeed_j0 (y0 : ByteArray) (y1 : List (ByteArray)) (y2 : Int) (y3 : Int) (y4 : Int) (y5 : Int) (y6 : Int) (y7 : Int) : Option ((Int) × (Int) × (Int) × (Bool)) := (cond ((decide (2 < (List.length y1 : Int)))) (if (0 : Int) ≤ 2 ∧ 2 < (List.length y1 : Int) then (Option.bind (x_strconv_Atoi_f (List.getD y1 (2 : Int).toNat ByteArray.empty)) fun r1 => (i_ReadDeed_j1 y0 y2 y3 y4 y5 y6 r1.1)) else none) (i_ReadDeed_j1 y0 y2 y3 y4 y5 y6 y7))
theorem i_ReadDeed_j0_eq (y0 : ByteArray) (y1 : List (ByteArray)) (y2 : Int) (y3 : Int) (y4 : Int) (y5 : Int) (y6 : Int) (y7 : Int) : i_ReadDeed_j0 y0 y1 y2 y3 y4 y5 y6 y7 = (cond ((decide (2 < (List.length y1 : Int)))) (if (0 : Int) ≤ 2 ∧ 2 < (List.length y1 : Int) then (Option.bind (x_strconv_Atoi_f (List.getD y1 (2 : Int).toNat ByteArray.empty)) fun r1 => (i_ReadDeed_j1 y0 y2 y3 y4 y5 y6 r1.1)) else none) (i_ReadDeed_j1 y0 y2 y3 y4 y5 y6 y7)) := rfl
noncomputable def i_ReadDeed_f (x : Ts i_ReadDeed_sig.pc) : Option (Ts i_ReadDeed_sig.rc) := (Option.bind (x_strings_Split_f (x, str1)) fun r1 => (if (0 : Int) ≤ 0 ∧ 0 < (List.length r1 : Int) then (Option.bind (x_slices_Index_string_string_f (([str10, str11, str4, str12, str5] : List (ByteArray)), (List.getD r1 (0 : Int).toNat ByteArray.empty))) fun r2 => (cond ((decide (r2 < 0))) (some (0, 0, 0, false)) (cond ((decide (3 < (List.length r1 : Int)))) (some (0, 0, 0, false)) (if (0 : Int) ≤ r2 ∧ r2 < (List.length ([0, 1, 2, 3, 4] : List (Int)) : Int) then (cond ((decide (1 < (List.length r1 : Int)))) (if (0 : Int) ≤ 1 ∧ 1 < (List.length r1 : Int) then (Option.bind (x_strconv_Atoi_f (List.getD r1 (1 : Int).toNat ByteArray.empty)) fun r3 => (i_ReadDeed_j0 x r1 0 0 0 (List.getD ([0, 1, 2, 3, 4] : List (Int)) (r2 : Int).toNat 0) r3.1 0)) else none) (i_ReadDeed_j0 x r1 0 0 0 (List.getD ([0, 1, 2, 3, 4] : List (Int)) (r2 : Int).toNat 0) 0 0)) else none)))) else none))
theorem i_ReadDeed_f_eq (x0 : (ByteArray)) : i_ReadDeed_f x0 = (Option.bind (x_strings_Split_f (x0, str1)) fun r1 => (if (0 : Int) ≤ 0 ∧ 0 < (List.length r1 : Int) then (Option.bind (x_slices_Index_string_string_f (([str10, str11, str4, str12, str5] : List (ByteArray)), (List.getD r1 (0 : Int).toNat ByteArray.empty))) fun r2 => (cond ((decide (r2 < 0))) (some (0, 0, 0, false)) (cond ((decide (3 < (List.length r1 : Int)))) (some (0, 0, 0, false)) (if (0 : Int) ≤ r2 ∧ r2 < (List.length ([0, 1, 2, 3, 4] : List (Int)) : Int) then (cond ((decide (1 < (List.length r1 : Int)))) (if (0 : Int) ≤ 1 ∧ 1 < (List.length r1 : Int) then (Option.bind (x_strconv_Atoi_f (List.getD r1 (1 : Int).toNat ByteArray.empty)) fun r3 => (i_ReadDeed_j0 x0 r1 0 0 0 (List.getD ([0, 1, 2, 3, 4] : List (Int)) (r2 : Int).toNat 0) r3.1 0)) else none) (i_ReadDeed_j0 x0 r1 0 0 0 (List.getD ([0, 1, 2, 3, 4] : List (Int)) (r2 : Int).toNat 0) 0 0)) else none)))) else none)) := rfl
end FN
