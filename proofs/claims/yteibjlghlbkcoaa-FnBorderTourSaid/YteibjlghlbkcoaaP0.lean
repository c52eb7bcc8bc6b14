/- Texts of the proof, joined: Plain laws of numbers and lists. -/
import Derived.Below
import Derived.ShutString
import Derived.OpenShut
import Derived.KernelRfl
import Derived.Test.YteibjlghlbkcoaaG0
set_option linter.unusedVariables false
set_option linter.unusedSimpArgs false
set_option linter.unusedSectionVars false
/-! From a law's contract to its call; arguments. -/
namespace FN
open Go Go.RowKit
theorem law_calls {P : Program} {f : FuncId} {ps : List (Option Nat)} {pc : List RS} {run : Ts pc → Option (Ts [RS.bool])} (hc : CtrOk P f ⟨{ ps := ps, pc := pc, rs := [none], rc := [.bool] }, run⟩) {w : World} {args : Array Value} {x : Ts pc} {fl : List Value}
    (h1 : flatV ps args.toList = some fl) (h2 : F2 (V1 (av w fun _ => True)) (inPs pc x) fl) (hr : run x = some true) : Calls P f args w fun e w' => e = .returned (.bool true) ∧ Below w.heap.size w w' := by
  refine (hc w (fun _ => True) args none x true ⟨rfl, fl, h1, h2⟩ hr).mono fun e w' hh => ?_
  obtain ⟨v, rfl, ⟨us, sp, ho, _, hsh⟩, hk⟩ := hh
  obtain ⟨_, vs, hvs, rfl⟩ := hsh
  obtain ⟨u, rfl, hu⟩ := ho
  have hu' : u = .bool true := hu
  subst hu'
  refine ⟨?_, hk.os, hk.tape, hk.output, hk.size, fun k hlt => hk.block k hlt (by rintro ⟨b, hb⟩; cases hb)⟩
  cases vs with
  | nil => simp [flatV] at hvs
  | cons v vs =>
    cases vs with
    | nil =>
      simp only [flatV, Option.map_some] at hvs
      injection hvs with hvs
      injection hvs with hvs
      subst hvs
      rfl
    | cons v' vs => simp [flatV] at hvs
/-- A row of numbers that came in. -/
def IsRow (k : IntKind) (w : World) (a : Option Addr) (len cap : Nat) (zs : List Int) : Prop :=
  (a = none ∧ len = 0 ∧ cap = 0 ∧ zs = []) ∨
  ∃ x, a = some x ∧ len ≤ cap ∧ cap ≤ maxLen ∧ zs.length = cap ∧ (∀ i, i < zs.length → w.cell? (x.add i) = some (.int k (zs.getD i 0))) ∧ ∀ n ∈ zs, (Lit.int k n).wf = true
theorem IsRow.bytes {w : World} {a : Option Addr} {len cap : Nat} {zs : List Int} (h : IsRow .u8 w a len cap zs) : V1 (av w fun _ => True) (.row false .u8 (zs.take len)) (.slice a len cap) ∧ ∀ x ∈ zs.take len, 0 ≤ x ∧ x ≤ 255 := by
  rcases h with ⟨rfl, rfl, rfl, rfl⟩ | ⟨x, rfl, hl, hm, hz, hc, hw⟩
  · exact ⟨⟨none, 0, rfl, Nat.le_refl _, Nat.zero_le _, fun h => absurd rfl h⟩, fun x hx => by simp at hx⟩
  · have hlen : (zs.take len).length = len := by rw [List.length_take]; omega
    refine ⟨⟨some x, cap, by rw [hlen], by omega, by omega, fun hne => ⟨x, rfl, ⟨trivial, fun h => by cases h⟩, (by
      have hz0 : 0 < zs.length := by
        cases zs with
        | nil => simp at hne
        | cons z zs => simp
      have := World.block_lt_of_cell? w _ (hc 0 hz0)
      rwa [Addr.add_block] at this), fun j y hj => ⟨[.int .u8 y], rfl, fun i u hi => ?_⟩⟩⟩, fun y hy => ?_⟩
    · cases i with
      | succ i => simp at hi
      | zero =>
        simp at hi
        subst hi
        rw [List.getElem?_take] at hj
        split at hj
        · have hjl := (List.getElem?_eq_some_iff.1 hj).1
          have := hc j hjl
          rw [List.getD_eq_getElem?_getD, hj] at this
          show w.cell? (x.add (j * 1 + 0)) = _
          simpa using this
        · cases hj
    · have := hw y (List.mem_of_mem_take hy)
      simp [Lit.wf, IntKind.min, IntKind.max, IntKind.bits, IntKind.signed] at this
      omega
end FN
/-! Numbers and lists: what the equations' proofs use. -/
namespace FN
open Go
theorem i64w {n : Int} (h0 : -9223372036854775808 ≤ n) (h1 : n ≤ 9223372036854775807) : IntKind.i64.wrap n = n := by
  simp [IntKind.wrap, IntKind.bits, IntKind.signed]
  split <;> omega
theorem cnd_t {p : Prop} [Decidable p] {α : Type} {a b : α} (h : p) : cond (decide p) a b = a := by rw [decide_eq_true h]; rfl
theorem cnd_f {p : Prop} [Decidable p] {α : Type} {a b : α} (h : ¬ p) : cond (decide p) a b = b := by rw [decide_eq_false h]; rfl
theorem beq_t {x y : Int} {α : Type} {a b : α} (h : x = y) : cond (x == y) a b = a := by rw [h]; simp
theorem beq_f {x y : Int} {α : Type} {a b : α} (h : x ≠ y) : cond (x == y) a b = b := by rw [beq_false_of_ne h]; rfl
theorem bne_t {x y : Int} {α : Type} {a b : α} (h : x ≠ y) : cond (x != y) a b = a := by rw [bne_iff_ne.2 h]; rfl
theorem bne_f {x y : Int} {α : Type} {a b : α} (h : x = y) : cond (x != y) a b = b := by rw [h]; simp
theorem bits_nat {a b : Nat} (ha : a < 9223372036854775808) (hb : b < 9223372036854775808) :
    Go.bits .and .i64 (a : Int) (b : Int) = ((a &&& b : Nat) : Int) ∧ Go.bits .or .i64 (a : Int) (b : Int) = ((a ||| b : Nat) : Int) ∧ Go.bits .xor .i64 (a : Int) (b : Int) = ((a ^^^ b : Nat) : Int) := by
  have ha' : a < 2 ^ 63 := ha
  have hb' : b < 2 ^ 63 := hb
  have e1 : (BitVec.ofInt 64 (a : Int)).toNat = a := by rw [BitVec.ofInt_natCast, BitVec.toNat_ofNat]; exact Nat.mod_eq_of_lt (by omega)
  have e2 : (BitVec.ofInt 64 (b : Int)).toNat = b := by rw [BitVec.ofInt_natCast, BitVec.toNat_ofNat]; exact Nat.mod_eq_of_lt (by omega)
  have h1 : a &&& b < 2 ^ 63 := Nat.and_lt_two_pow _ hb'
  have h2 : a ||| b < 2 ^ 63 := Nat.or_lt_two_pow ha' hb'
  have h3 : a ^^^ b < 2 ^ 63 := Nat.xor_lt_two_pow ha' hb'
  refine ⟨?_, ?_, ?_⟩
  · show IntKind.i64.wrap ((BitVec.ofInt 64 (a : Int) &&& BitVec.ofInt 64 (b : Int) : BitVec 64).toNat : Int) = _
    rw [BitVec.toNat_and, e1, e2]
    exact i64w (by omega) (by omega)
  · show IntKind.i64.wrap ((BitVec.ofInt 64 (a : Int) ||| BitVec.ofInt 64 (b : Int) : BitVec 64).toNat : Int) = _
    rw [BitVec.toNat_or, e1, e2]
    exact i64w (by omega) (by omega)
  · show IntKind.i64.wrap ((BitVec.ofInt 64 (a : Int) ^^^ BitVec.ofInt 64 (b : Int) : BitVec 64).toNat : Int) = _
    rw [BitVec.toNat_xor, e1, e2]
    exact i64w (by omega) (by omega)
theorem xor_nn {x y : Int} (hx : 0 ≤ x) (hx' : x < 9223372036854775808) (hy : 0 ≤ y) (hy' : y < 9223372036854775808) : 0 ≤ Go.bits .xor .i64 x y := by
  obtain ⟨a, rfl⟩ := Int.eq_ofNat_of_zero_le hx
  obtain ⟨b, rfl⟩ := Int.eq_ofNat_of_zero_le hy
  rw [(bits_nat (a := a) (b := b) (by omega) (by omega)).2.2]
  omega
/-- The bytes of a code. -/
def Bytes (l : List Int) : Prop := ∀ x ∈ l, 0 ≤ x ∧ x ≤ 255
theorem Bytes.get {l : List Int} (h : Bytes l) (i : Nat) : 0 ≤ l.getD i 0 ∧ l.getD i 0 ≤ 255 := by
  rw [List.getD_eq_getElem?_getD]
  cases hx : l[i]? with
  | none => simp
  | some x => exact h x (List.mem_of_getElem? hx)
end FN
/-! The reader of a code. -/
namespace FN
open Go
theorem pick_ok {l : List Int} (hl : Bytes l) (hn : l.length ≤ 2000) {p n : Int} (hp : 0 ≤ p) (hp' : p ≤ 1000000000) (h1 : 1 ≤ n) (hn' : n ≤ 1000000000) : ∃ v : Int, r_pick_f (l, p, n) = some (v, p + 1) ∧ 0 ≤ v ∧ v < n := by
  rw [r_pick_f_eq]
  have e1 : IntKind.i64.wrap (p + 1) = p + 1 := i64w (by omega) (by omega)
  have e2 : IntKind.i64.wrap (p + 1 - 1) = p := by rw [i64w (n := p + 1 - 1) (by omega) (by omega)]; omega
  simp only [e1, e2, and_self, if_true]
  rw [cnd_f (by omega)]
  by_cases hz : l.length = 0
  · rw [beq_t (by omega)]
    exact ⟨0, rfl, by omega, by omega⟩
  rw [beq_f (by omega)]
  by_cases hlt : p < (l.length : Int)
  · rw [cnd_t hlt, if_pos ⟨hp, hlt⟩, if_neg (by omega)]
    have hb := hl.get p.toNat
    rw [i64w (n := l.getD p.toNat 0) (by omega) (by omega)]
    exact ⟨_, rfl, Int.tmod_nonneg _ hb.1, Int.tmod_lt_of_pos _ (by omega)⟩
  · rw [cnd_f hlt, if_neg (by omega)]
    have a0 : 0 ≤ Int.tmod p (l.length : Int) := Int.tmod_nonneg _ hp
    have a1 : Int.tmod p (l.length : Int) < (l.length : Int) := Int.tmod_lt_of_pos _ (by omega)
    rw [if_pos ⟨a0, a1⟩, if_neg (by omega)]
    have e3 : IntKind.i64.wrap (IntKind.i64.wrap (p * 7) + 3) = p * 7 + 3 := by rw [i64w (n := p * 7) (by omega) (by omega), i64w (n := p * 7 + 3) (by omega) (by omega)]
    rw [e3]
    have b0 : 0 ≤ Int.tmod (p * 7 + 3) (l.length : Int) := Int.tmod_nonneg _ (by omega)
    have b1 : Int.tmod (p * 7 + 3) (l.length : Int) < (l.length : Int) := Int.tmod_lt_of_pos _ (by omega)
    rw [if_pos ⟨b0, b1⟩, if_neg (by omega), if_neg (by omega)]
    have c1 := hl.get (Int.tmod p (l.length : Int)).toNat
    have c2 := hl.get (Int.tmod (p * 7 + 3) (l.length : Int)).toNat
    generalize l.getD (Int.tmod p (l.length : Int)).toNat 0 = u at c1 ⊢
    generalize l.getD (Int.tmod (p * 7 + 3) (l.length : Int)).toNat 0 = v at c2 ⊢
    have d0 : 0 ≤ Int.tdiv p (l.length : Int) := Int.tdiv_nonneg hp (by omega)
    have d1 : Int.tdiv p (l.length : Int) ≤ p := Int.tdiv_le_self _ hp
    generalize Int.tdiv p (l.length : Int) = d at d0 d1 ⊢
    rw [i64w (n := u) (by omega) (by omega), i64w (n := v) (by omega) (by omega), i64w (n := d) (by omega) (by omega), i64w (n := u * 131) (by omega) (by omega), i64w (n := v * 1117) (by omega) (by omega), i64w (n := p * 29) (by omega) (by omega), i64w (n := d * 53) (by omega) (by omega), i64w (n := u * 131 + v * 1117) (by omega) (by omega), i64w (n := u * 131 + v * 1117 + p * 29) (by omega) (by omega), i64w (n := u * 131 + v * 1117 + p * 29 + d * 53) (by omega) (by omega)]
    have f0 : 0 ≤ u * 131 + v * 1117 + p * 29 + d * 53 := by omega
    have f1 : u * 131 + v * 1117 + p * 29 + d * 53 < 1000000000000 := by omega
    generalize u * 131 + v * 1117 + p * 29 + d * 53 = x at f0 f1 ⊢
    have g0 : 0 ≤ Int.tdiv x 64 := Int.tdiv_nonneg f0 (by omega)
    have g1 : Int.tdiv x 64 ≤ x := Int.tdiv_le_self _ f0
    rw [i64w (n := Int.tdiv x 64) (by omega) (by omega)]
    exact ⟨_, rfl, Int.tmod_nonneg _ (xor_nn f0 (by omega) g0 (by omega)), Int.tmod_lt_of_pos _ (by omega)⟩
/-- A draw below 1 is 0. -/
theorem pick_low {l : List Int} {p n : Int} (hp : 0 ≤ p) (hp' : p ≤ 1000000000) (h1 : n < 1) : r_pick_f (l, p, n) = some (0, p + 1) := by
  rw [r_pick_f_eq]
  have e1 : IntKind.i64.wrap (p + 1) = p + 1 := i64w (by omega) (by omega)
  simp only [e1, and_self, if_true]
  rw [cnd_t h1]
theorem open_ok {l : List Int} (hl : Bytes l) : ∃ b : List Int, s_l20Open_f l = some (b, 0) ∧ Bytes b ∧ b.length ≤ 2000 := by
  rw [s_l20Open_f_eq]
  by_cases h : 2000 < (l.length : Int)
  · rw [cnd_t h, if_pos (by omega)]
    exact ⟨_, rfl, fun x hx => hl x (List.mem_of_mem_take (List.mem_of_mem_drop hx)), by simp; omega⟩
  · rw [cnd_f h]
    exact ⟨_, rfl, hl, by omega⟩
end FN
/-! The grids that are drawn. -/
namespace FN
open Go
theorem at10 (Q : Int → Prop) (h : ∀ k ∈ ([0, 1, 2, 3, 4, 5, 6, 7, 8, 9] : List Int), Q k) {v : Int} (h0 : 0 ≤ v) (h1 : v < 10) : Q v := by
  apply h
  have : v = 0 ∨ v = 1 ∨ v = 2 ∨ v = 3 ∨ v = 4 ∨ v = 5 ∨ v = 6 ∨ v = 7 ∨ v = 8 ∨ v = 9 := by omega
  simpa using this
theorem grid_draw {l : List Int} (hl : Bytes l) : ∃ v : Int, 0 ≤ v ∧ v < 10 ∧ ∃ b p, s_l20Open_f l = some (b, 0) ∧ r_pick_f (b, 0, 10) = some (v, p) := by
  obtain ⟨b, hb, h1, h2⟩ := open_ok hl
  obtain ⟨v, h3, h4, h5⟩ := pick_ok h1 h2 (p := 0) (n := 10) (by omega) (by omega) (by omega) (by omega)
  exact ⟨v, h4, h5, b, _, hb, h3⟩
/-- What the grids' draw brings, for what was picked. -/
def gridOf (v : Int) : Option (Int × Int) := (s_l20Grid_f_c 1 ([v], 0)).map fun r => (r.1, r.2.1)
theorem small {l : List Int} {v : Int} {b : List Int} {p : Int} (h0 : 0 ≤ v) (h1 : v < 10) (h : s_l20Open_f l = some (b, 0)) (hp : r_pick_f (b, 0, 10) = some (v, p)) :
    ∀ D : List Int → Option (Int × Int), (∀ x, D x = Option.bind (s_l20Open_f x) fun r1 => Option.bind (s_l20Grid_f (r1.1, r1.2)) fun r2 => some (r2.1, r2.2.1)) → D l = D [v] := by
  intro D hD
  have hpick : ∀ k ∈ ([0, 1, 2, 3, 4, 5, 6, 7, 8, 9] : List Int), r_pick_f ([k], 0, 10) = some (k, 1) := by
    intro k hk
    simp only [List.mem_cons, List.not_mem_nil, or_false] at hk
    rcases hk with rfl | rfl | rfl | rfl | rfl | rfl | rfl | rfl | rfl | rfl <;> exact r_pick_f_c_le 1 _ _ (by kernel_rfl)
  have hp2 : r_pick_f ([v], 0, 10) = some (v, 1) := at10 (fun v => r_pick_f ([v], 0, 10) = some (v, 1)) hpick h0 h1
  have ho : s_l20Open_f [v] = some ([v], 0) := by rw [s_l20Open_f_eq]; rfl
  rw [hD, hD, h, ho]
  simp only [Option.bind_some]
  rw [s_l20Grid_f_eq, s_l20Grid_f_eq, hp, hp2]
  simp only [Option.bind_some, and_self, if_true]
  clear hp2 ho hp
  have : ∀ k ∈ ([0, 1, 2, 3, 4, 5, 6, 7, 8, 9] : List Int), k = k := fun _ _ => rfl
  have hv : v = 0 ∨ v = 1 ∨ v = 2 ∨ v = 3 ∨ v = 4 ∨ v = 5 ∨ v = 6 ∨ v = 7 ∨ v = 8 ∨ v = 9 := by omega
  rcases hv with rfl | rfl | rfl | rfl | rfl | rfl | rfl | rfl | rfl | rfl <;> rfl
theorem all10 (F : List Int → Option Bool) (C : List Int → Option Bool) (hle : ∀ x, OLe (C x) (F x)) (hc : (([0, 1, 2, 3, 4, 5, 6, 7, 8, 9] : List Int).all fun k => C [k] == some true) = true) {v : Int} (h0 : 0 ≤ v) (h1 : v < 10) : F [v] = some true := by
  refine at10 (fun v => F [v] = some true) (fun k hk => hle [k] true ?_) h0 h1
  simpa using List.all_eq_true.1 hc k hk
theorem FnGridNet_true {l : List Int} (hl : Bytes l) : w_FnGridNet_f l = some true := by
  obtain ⟨v, h0, h1, b, p, h2, h3⟩ := grid_draw hl
  have hd := small h0 h1 h2 h3 s_DrawGridNet_f s_DrawGridNet_f_eq
  have ht := all10 w_FnGridNet_f (w_FnGridNet_f_c 60) (w_FnGridNet_f_c_le 60) (by kernel_rfl) h0 h1
  rw [w_FnGridNet_f_eq] at ht ⊢
  rw [hd]
  by_cases hs : 1048576 < (l.length : Int)
  · rw [cnd_t hs]
  · rw [cnd_f hs]
    rw [cnd_f (by simp)] at ht
    exact ht
theorem FnBorderTour_true {l : List Int} (hl : Bytes l) : w_FnBorderTour_f l = some true := by
  obtain ⟨v, h0, h1, b, p, h2, h3⟩ := grid_draw hl
  have hd := small h0 h1 h2 h3 s_DrawBorderTour_f s_DrawBorderTour_f_eq
  have ht := all10 w_FnBorderTour_f (w_FnBorderTour_f_c 60) (w_FnBorderTour_f_c_le 60) (by kernel_rfl) h0 h1
  rw [w_FnBorderTour_f_eq] at ht ⊢
  rw [hd]
  by_cases hs : 1048576 < (l.length : Int)
  · rw [cnd_t hs]
  · rw [cnd_f hs]
    rw [cnd_f (by simp)] at ht
    exact ht
theorem FnSquareTours_true {l : List Int} (hl : Bytes l) : w_FnSquareTours_f l = some true := by
  obtain ⟨v, h0, h1, b, p, h2, h3⟩ := grid_draw hl
  have hd := small h0 h1 h2 h3 s_DrawSquareTours_f s_DrawSquareTours_f_eq
  have ht := all10 w_FnSquareTours_f (w_FnSquareTours_f_c 60) (w_FnSquareTours_f_c_le 60) (by kernel_rfl) h0 h1
  rw [w_FnSquareTours_f_eq] at ht ⊢
  rw [hd]
  by_cases hs : 1048576 < (l.length : Int)
  · rw [cnd_t hs]
  · rw [cnd_f hs]
    rw [cnd_f (by simp)] at ht
    exact ht
theorem FnGridFar_true {l : List Int} (hl : Bytes l) : w_FnGridFar_f l = some true := by
  obtain ⟨v, h0, h1, b, p, h2, h3⟩ := grid_draw hl
  have hd := small h0 h1 h2 h3 s_DrawGridNet_f s_DrawGridNet_f_eq
  have ht := all10 w_FnGridFar_f (w_FnGridFar_f_c 60) (w_FnGridFar_f_c_le 60) (by kernel_rfl) h0 h1
  rw [w_FnGridFar_f_eq] at ht ⊢
  rw [hd]
  by_cases hs : 1048576 < (l.length : Int)
  · rw [cnd_t hs]
  · rw [cnd_f hs]
    rw [cnd_f (by simp)] at ht
    exact ht
end FN
