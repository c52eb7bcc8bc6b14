/- Texts of the proof, joined: parts -/
import Derived.Test.YtbkndbgonbadaaaGreatDoorA1
import Derived.Test.YtbkndbgonbadaaaGreatDoorJ1
import Derived.Test.YtbkndbgonbadaaaGreatDoorJ0
import Derived.Test.YtbkndbgonbadaaaGreatDoorJ4
import Derived.Test.YtbkndbgonbadaaaGreatDoorJ13
import Derived.Test.YtbkndbgonbadaaaGreatDoorJ12
set_option linter.unusedVariables false
set_option linter.unusedSimpArgs false
set_option linter.unusedSectionVars false
/-! Loops as the limits of their finite unrollings. -/
namespace FN
section
variable {A B C D : Type}
/-- It asks finitely much of what it is handed. -/
structure Fino (e : (A → Option B) → Option C) : Prop where
  mono : ∀ g h : A → Option B, (∀ a r, g a = some r → h a = some r) → ∀ r, e g = some r → e h = some r
  cont : ∀ s : Nat → A → Option B, (∀ n a r, s n a = some r → s (n + 1) a = some r) → ∀ g : A → Option B, (∀ a r, g a = some r → ∃ n, s n a = some r) → ∀ r, e g = some r → ∃ n, e (s n) = some r
theorem Fino.const (c : Option C) : Fino fun _ : A → Option B => c := ⟨fun _ _ _ _ h => h, fun _ _ _ _ _ h => ⟨0, h⟩⟩
theorem Fino.call (a : A) : Fino fun g : A → Option B => g a := ⟨fun _ _ h r => h a r, fun _ _ _ hg r => hg a r⟩
theorem Fino.cond {c : Bool} {e f : (A → Option B) → Option C} (he : Fino e) (hf : Fino f) : Fino fun g => cond c (e g) (f g) := by cases c; exact hf; exact he
theorem Fino.ite {c : Prop} [Decidable c] {e f : (A → Option B) → Option C} (he : Fino e) (hf : Fino f) : Fino fun g => if c then e g else f g := by
  by_cases h : c
  · simp only [if_pos h]; exact he
  · simp only [if_neg h]; exact hf
theorem chain_le {s : Nat → A → Option B} (hs : ∀ n a r, s n a = some r → s (n + 1) a = some r) {n m : Nat} (h : n ≤ m) {a : A} {r : B} (hn : s n a = some r) : s m a = some r := by
  induction h with
  | refl => exact hn
  | step _ ih => exact hs _ a r ih
theorem Fino.bind {e : (A → Option B) → Option C} {f : (A → Option B) → C → Option D} (he : Fino e) (hf : ∀ x, Fino fun g => f g x) : Fino fun g => Option.bind (e g) (f g) := by
  refine ⟨fun g h hgh r hr => ?_, fun s hs g hg r hr => ?_⟩
  · obtain ⟨x, h1, h2⟩ := Option.bind_eq_some_iff.1 hr
    exact Option.bind_eq_some_iff.2 ⟨x, he.mono g h hgh x h1, (hf x).mono g h hgh r h2⟩
  · obtain ⟨x, h1, h2⟩ := Option.bind_eq_some_iff.1 hr
    obtain ⟨n, hn⟩ := he.cont s hs g hg x h1
    obtain ⟨m, hm⟩ := (hf x).cont s hs g hg r h2
    refine ⟨max n m, Option.bind_eq_some_iff.2 ⟨x, he.mono (s n) _ (fun a r h => chain_le hs (Nat.le_max_left n m) h) x hn, (hf x).mono (s m) _ (fun a r h => chain_le hs (Nat.le_max_right n m) h) r hm⟩⟩
end
end FN

set_option linter.unusedVariables false
set_option maxRecDepth 4000
namespace FN
open Go Go.Proofs
@[reducible] def s_ReadPlace_sig : Sig := { ps := [none], pc := [.str], rs := [some 3, none], rc := [.row 3 .i64, .int .i64, .row 3 .i64, .bool] }
noncomputable def s_ReadPlace_j7 (y0 : ByteArray) (y1 : Int) (y2 : Int) (y3 : List (Int)) : Option ((List (Int)) × (Int) × (List (Int)) × (Bool)) := (Option.bind (s_PlaceText_f (y3, y2, [])) fun r1 => (cond ((!(ByteArray.toList r1 == ByteArray.toList y0))) (some ([], 0, [], false)) (some (y3, y2, [], true))))
end FN

set_option linter.unusedVariables false
set_option maxRecDepth 4000
namespace FN
open Go Go.Proofs
@[reducible] def s_l15Run_sig : Sig := { ps := [some 4, none], pc := [.view .i64, .int .i64, .view .i64, .view .place, .view .deed], rs := [some 4, none], rc := [.view .i64, .int .i64, .view .i64, .view .place, .int .i64] }
noncomputable def s_l15Run_l1_F (g : ((List (Int × Int × Int)) × (Int) × (Int) × (Int) × (List (Int)) × (Int) × (List (Int)) × (List (List Int × Int × List Int))) → Option ((List (Int)) × (Int) × (List (Int)) × (List (List Int × Int × List Int)) × (Int))) : ((List (Int × Int × Int)) × (Int) × (Int) × (Int) × (List (Int)) × (Int) × (List (Int)) × (List (List Int × Int × List Int))) → Option ((List (Int)) × (Int) × (List (Int)) × (List (List Int × Int × List Int)) × (Int))
  | (y0, y1, y2, y3, y4, y5, y6, y7) => (cond ((decide (y2 < (List.length y0 : Int)))) (if (0 : Int) ≤ y2 ∧ y2 < (List.length y0 : Int) then (Option.bind (s_DeskDo_f (y4, y5, y6, y7, (List.getD y0 (y2 : Int).toNat (0, 0, 0)).1, (List.getD y0 (y2 : Int).toNat (0, 0, 0)).2.1, (List.getD y0 (y2 : Int).toNat (0, 0, 0)).2.2)) fun r1 => (cond (r1.2.2.2.2) (g ((y0, (IntKind.i64.wrap (y1 + 1)), (IntKind.i64.wrap (y2 + 1)), y3, r1.1, r1.2.1, r1.2.2.1, r1.2.2.2.1))) (g ((y0, y1, (IntKind.i64.wrap (y2 + 1)), y3, y4, y5, y6, y7))))) else none) (some (y4, y5, y6, y7, y1)))
end FN

set_option linter.unusedVariables false
set_option maxRecDepth 4000
namespace FN
open Go Go.Proofs
@[reducible] def i_doAll_sig : Sig := { ps := [some 4, none], pc := [.view .i64, .int .i64, .view .i64, .view .place, .view .deed], rs := [some 4, none], rc := [.view .i64, .int .i64, .view .i64, .view .place, .int .i64] }
noncomputable def i_doAll_l1_F (g : ((Int) × (List (Int × Int × Int)) × (Int) × (Int) × (List (Int)) × (Int) × (List (Int)) × (List (List Int × Int × List Int)) × (Int)) → Option ((List (Int)) × (Int) × (List (Int)) × (List (List Int × Int × List Int)) × (Int))) : ((Int) × (List (Int × Int × Int)) × (Int) × (Int) × (List (Int)) × (Int) × (List (Int)) × (List (List Int × Int × List Int)) × (Int)) → Option ((List (Int)) × (Int) × (List (Int)) × (List (List Int × Int × List Int)) × (Int))
  | (y0, y1, y2, y3, y4, y5, y6, y7, y8) => (cond ((decide (y3 < y2))) (if (0 : Int) ≤ y3 ∧ y3 < (List.length y1 : Int) then (Option.bind (i_DeskDo_f (y4, y5, y6, y7, (List.getD y1 (y3 : Int).toNat (0, 0, 0)).1, (List.getD y1 (y3 : Int).toNat (0, 0, 0)).2.1, (List.getD y1 (y3 : Int).toNat (0, 0, 0)).2.2)) fun r1 => (cond (r1.2.2.2.2) (g (((IntKind.i64.wrap (y0 + 1)), y1, y2, (IntKind.i64.wrap (y3 + 1)), r1.1, r1.2.1, r1.2.2.1, r1.2.2.2.1, y8))) (g ((y0, y1, y2, (IntKind.i64.wrap (y3 + 1)), y4, y5, y6, y7, y8))))) else none) (some (y4, y5, y6, y7, y0)))
end FN

