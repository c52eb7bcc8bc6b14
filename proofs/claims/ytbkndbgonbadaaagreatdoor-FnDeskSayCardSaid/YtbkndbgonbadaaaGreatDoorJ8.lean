/- Texts of the proof, joined: parts -/
import Derived.Test.YtbkndbgonbadaaaGreatDoorJ5
set_option linter.unusedVariables false
set_option linter.unusedSimpArgs false
set_option linter.unusedSectionVars false
/-! The search for rest, with a set of what has been met. -/
namespace FN
open Go Go.Maps
/-- The search: what has been met, in order. -/
def endsG (num : List Int → Option Int) (step : List Int → Option (List Int)) : Nat → List Int → List Int → Option Int
  | 0, _, _ => none
  | f + 1, seen, s => (num s).bind fun v => if 0 ≤ v ∧ v ≤ 4611686018427387904 then (if v = 0 then some (seen.length : Int) else if v ∈ seen then some (-1) else (step s).bind fun s' => endsG num step f (seen ++ [v]) s') else none
/-- The map holds what was met. -/
def SetIs (D : DataW Unit) (seen : List Int) : Prop :=
  IsMap D ∧ ∀ x : Int, (x ∉ seen → D.atKey (kL x) (.lit (.bool false)) = .lit (.bool false)) ∧ (x ∈ seen → D.atKey (kL x) (.lit (.bool false)) = .lit (.bool true))
theorem setIs_nil : SetIs (.map []) [] := ⟨isMap_empty, fun x => ⟨fun _ => rfl, fun h => by cases h⟩⟩
theorem setIs_put {D : DataW Unit} {seen : List Int} (h : SetIs D seen) (x : Int) : SetIs (D.put (kL x) (.lit (.bool true))) (seen ++ [x]) := by
  refine ⟨h.1.put _ _, fun y => ?_⟩
  by_cases e : y = x
  · subst e
    exact ⟨fun hn => absurd (by simp) hn, fun _ => atKey_put_same h.1 (isKey_int y) _ _⟩
  · have hne : kL y ≠ kL x := fun he => e (by injection he)
    rw [atKey_put_other hne]
    exact ⟨fun hn => (h.2 y).1 fun hy => hn (by simp [hy]), fun hy => (h.2 y).2 (by simpa [e] using hy)⟩
theorem plainElem_bool_inv {P : Program} {e : TypeId} (he : P.underlying e = some .bool) {v : Value} {z : DataW Unit × List MemPlace} (h : plainElem P e v = some z) : ∃ a, v = .bool a ∧ z = (.lit (.bool a), []) := by
  unfold plainElem at h
  rw [he] at h
  cases v <;> simp at h
  obtain rfl := h
  exact ⟨_, rfl, rfl⟩
theorem wpList_lookup_own_bool {P : Program} (w : World) {ops : Array Oper} {rest : List Oper} {o : Oper} {a : Act} {Q : Exit → Act → World → Prop}
    (hg : o.guard = none) (m x : Operand) (t : TypeId) (hop : o.op = Op.lookup t m x false)
    (k e : TypeId) (K : Keyed P k) (ht : P.underlying t = some (.map k e)) (he : P.underlying e = some .bool) (hz : (zeroValue e).run P w = .ok (.bool false) w) (b n : Nat) (D : DataW Unit)
    (hm : a.eval m = .map (some b)) (hown : w.ownsMap P k (plainElem P e) b n D) (key : Value) (kl : Lit) (hx : a.eval x = key) (hkey : keyOf P k key = some kl)
    (hK : ∀ c : Bool, D.atKey kl (.lit (.bool false)) = .lit (.bool c) → wpList P ops Q rest (a.put o.dst (.bool c)) w) :
    wpList P ops Q (o :: rest) a w := by
  refine wpList_plain hg fun K' hK' => ?_
  obtain ⟨v, ps, hrun, hv⟩ := hown.lookup K ht hz (plainElem_bool he false) hkey
  obtain ⟨c, rfl, hc⟩ := plainElem_bool_inv he hv
  simp only [Prod.mk.injEq] at hc
  unfold Oper.wp
  simp [execOp, hop, hm, hx, hrun, Result.andThen]
  exact hK' _ _ (hK c hc.1)
end FN

