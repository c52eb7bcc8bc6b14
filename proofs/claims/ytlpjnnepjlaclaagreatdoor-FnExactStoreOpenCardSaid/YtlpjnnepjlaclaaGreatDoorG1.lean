/- Texts of the proof, joined: The functions, their equations and contracts. -/
import Derived.OneCell
import Derived.WalkKit
import Derived.Test.YtlpjnnepjlaclaaGreatDoorG0
set_option linter.unusedVariables false
set_option linter.unusedSimpArgs false
set_option linter.unusedSectionVars false
/-! markPlaceS of a row of places whose rows are its own: walked by hand. -/
namespace FN
open Go Go.Proofs Go.RowKit
def pnB (base : Nat) : Pn := ⟨fun _ => False, fun k => base ≤ k⟩
/-- Nothing but u's block turns. -/
structure Oth (o : Nat → Prop) (w w' : World) : Prop where
  os : w'.os = w.os
  tape : w'.tape = w.tape
  output : w'.output = w.output
  size : w.heap.size ≤ w'.heap.size
  keep : ∀ k, k < w.heap.size → ¬ o k → w'.heap[k]? = w.heap[k]?
theorem Oth.refl (o : Nat → Prop) (w : World) : Oth o w w := ⟨rfl, rfl, rfl, Nat.le_refl _, fun _ _ _ => rfl⟩
theorem Oth.trans {o : Nat → Prop} {a b c : World} (h : Oth o a b) (k : Oth o b c) : Oth o a c :=
  ⟨k.os.trans h.os, k.tape.trans h.tape, k.output.trans h.output, Nat.le_trans h.size k.size, fun i hi ho => (k.keep i (Nat.lt_of_lt_of_le hi h.size) ho).trans (h.keep i hi ho)⟩
theorem Oth.mono {o o' : Nat → Prop} {a b : World} (h : Oth o a b) (ho : ∀ k, o k → o' k) : Oth o' a b := ⟨h.os, h.tape, h.output, h.size, fun k hk hn => h.keep k hk fun hh => hn (ho k hh)⟩
theorem Oth.kp {o : Nat → Prop} {pin : Pn} {base : Nat} {a b : World} (h : Oth o a b) (hb : base ≤ a.heap.size) (ho : ∀ k, o k → base ≤ k) : Kp pin base a b := ⟨h.os, h.tape, h.output, h.size, fun k hk _ => h.keep k (by omega) fun hh => by have := ho k hh; omega⟩
theorem markC {W : World} {base : Nat} {zs : List Int} {u : Value} {ei : TypeId} {k : Int} (hb : base ≤ W.heap.size) (hI : ∀ w', Kp (pnB base) base W w' → Gl.I w') (ho : W.ownsRow base ei 1 u zs.length (zs.map (.int .i64))) (hk : 0 ≤ k) (hk' : k + (zs.length : Int) ≤ 4611686018427387904) :
    Calls Tryz.prog 34 #[u, .int .i64 k] W fun e W' => e = .returned (.int .i64 (k + (zs.length : Int))) ∧ W'.ownsRow base ei 1 u (markL k zs).length ((markL k zs).map (.int .i64)) ∧ Oth (fun j => blkOf u = some j) W W' := by
  let ρ : Rh := ⟨fun _ => u, fun k => base ≤ k, fun _ _ => False⟩
  have hlt : ∀ i, Hp.get [some (Blk.arr ei true .i64 zs)] i ≠ none → i = 0 := fun i hi => by
    have := Hp.get_lt hi
    simp at this
    exact this
  have hH : HRel (mine (pnB base) base) W base ρ [some (.arr ei true .i64 zs)] := by
    refine ⟨hb, fun i b hib => ?_, fun i j hi hj g _ _ => (hlt i hi).trans (hlt j hj).symm, fun k hk => Nat.le_trans hb hk, fun i k _ _ h => h, fun k h => h, fun k h => h, fun i k _ h => h.elim, fun i j k _ _ h => h.elim⟩
    have := hlt i (by rw [hib]; simp)
    subst this
    have hb' : b = .arr ei true .i64 zs := by
      have : (some (Blk.arr ei true .i64 zs)) = some b := hib
      injection this with this
      exact this.symm
    subst hb'
    exact ⟨_, ho, arrI (W := W)⟩
  have hm : markK .ints [.own 0, .int .i64 k] [some (.arr ei true .i64 zs)] (fun p h => some (p, h)) = some (.int .i64 (k + (zs.length : Int)), [some (.arr ei true .i64 (markL k zs))]) := by
    have hg : Hp.get [some (Blk.arr ei true .i64 zs)] 0 = some (.arr ei true .i64 zs) := rfl
    simp only [markK, markI, hg]
    rw [if_pos ⟨hk, hk'⟩]
    rfl
  obtain ⟨_, hc⟩ := w_markIntS_mk [.own 0, .int .i64 k] _ _ _ (pnB base) base W ρ [u, .int .i64 k] hm hI hH (.cons ⟨Nat.zero_lt_one, rfl, own_one ho⟩ (.cons rfl .nil))
  refine hc.mono ?_
  rintro e w' ⟨v, rfl, ρ', h1, h2, h3, h4⟩
  have hv : v = .int .i64 (k + (zs.length : Int)) := h3
  subst hv
  have hu : ρ' 0 = u := h2.ρ 0 Nat.zero_lt_one
  obtain ⟨inner, o1, o2⟩ := h1.blk 0 _ rfl
  have hin : inner = (markL k zs).map (.int .i64) := by
    apply List.ext_getElem?
    intro j
    have hl : inner.length = (markL k zs).length := by have := o1.1; rw [this]; simp [CK.sz]
    rcases Nat.lt_or_ge j (markL k zs).length with hj | hj
    · obtain ⟨cs, e1, e2⟩ := o2 j _ (List.getElem?_eq_getElem hj)
      simp only [ElR] at e1
      subst e1
      have := e2 0 _ rfl
      rw [List.getElem?_map, List.getElem?_eq_getElem hj]
      simpa [CK.sz] using this
    · rw [List.getElem?_eq_none (by omega), List.getElem?_eq_none (by simpa using hj)]
  subst hin
  rw [hu] at o1
  refine ⟨rfl, o1, h4.os, h4.tape, h4.output, h4.size, fun j hj hn => ?_⟩
  rcases Nat.lt_or_ge j base with hjb | hjb
  · exact h4.block j hjb (fun h => h)
  · exact (h2.tr.keep j ⟨hjb, fun i hi hbk => hn hbk⟩ hj).1
theorem szPl_app : ∀ (l m : List CK.place.T), szPl (l ++ m) = szPl l + szPl m
  | [], m => by simp [szPl]
  | p :: l, m => by simp only [List.cons_append, szPl, szPl_app l m]; omega
theorem markPl_app : ∀ (k : Int) (l m : List CK.place.T), markPl k (l ++ m) = markPl k l ++ markPl (k + szPl l) m
  | k, [], m => by simp [markPl, szPl]
  | k, p :: l, m => by
    simp only [List.cons_append, markPl, szPl, markPl_app _ l m]
    congr 3
    omega
theorem setCell_row {w : World} {g o : Nat} {cur : Array Value} {e : TypeId} {z : Value} (h : w.heap[g]? = some (.cells cur e (0, 0))) : (w.setCell ⟨g, o, none⟩ z).heap[g]? = some (.cells (cur.setIfInBounds o z) e (0, 0)) := by
  have hlt := lt_of_block h
  have h' : w.heap[g] = .cells cur e (0, 0) := by simpa [Array.getElem?_eq_getElem hlt] using h
  show (w.heap.modify g _)[g]? = _
  rw [Array.getElem?_eq_getElem (by simpa using hlt), Array.getElem_modify_self, h']
  rfl
theorem free_row {w : World} {g o : Nat} {cur : Array Value} {e : TypeId} (h : w.heap[g]? = some (.cells cur e (0, 0))) : w.frozen? ⟨g, o, none⟩ = false := by simp [World.frozen?, h]
theorem cell_row {w : World} {g o n : Nat} {cur : Array Value} {e : TypeId} {z : Value} (h : w.heap[g]? = some (.cells cur e (0, 0))) (hz : (cur.toList.take n)[o]? = some z) : w.cell? ⟨g, o, none⟩ = some z := by
  rw [List.getElem?_take] at hz
  split at hz
  · have := cell_blk h hz
    rwa [add0] at this
  · cases hz
theorem take_set_row {cur : Array Value} {o n : Nat} {z : Value} : (cur.setIfInBounds o z).toList.take n = (cur.toList.take n).set o z := by
  rw [Array.toList_setIfInBounds, List.take_set]
theorem Oth.setCell (w : World) (g o : Nat) (z : Value) : Oth (fun j => j = g) w (w.setCell ⟨g, o, none⟩ z) :=
  ⟨rfl, rfl, rfl, by simp [World.setCell], fun k _ hk => Below.heap_setCell w _ z k (fun e => hk e)⟩
set_option maxRecDepth 100000 in
theorem markPsC {W : World} {base : Nat} {I : Nat → Prop} {e ei : TypeId} {xs : List CK.place.T} {g cap : Nat} {cur : Array Value} {k : Int} (hb : base ≤ W.heap.size) (hI : ∀ w', Kp (pnB base) base W w' → Gl.I w') (hg : W.heap[g]? = some (.cells cur e (0, 0))) (hbg : base ≤ g) (hgI : ¬ I g) (hIb : ∀ k, I k → base ≤ k ∧ k < W.heap.size)
    (hn : xs.length * 3 ≤ cur.size) (hd : DeepR W base I ei xs (cur.toList.take (xs.length * 3))) (hk : 0 ≤ k) (hk' : k + szPl xs ≤ 4611686018427387904) (hm : xs.length ≤ 4611686018427387904) :
    Calls Tryz.prog 20 #[.slice (some ⟨g, 0, none⟩) xs.length cap, .int .i64 k] W fun e' W' => e' = .returned (.int .i64 (k + szPl xs)) ∧
      ∃ cur', W'.heap[g]? = some (.cells cur' e (0, 0)) ∧ cur'.size = cur.size ∧ DeepR W' base I ei (markPl k xs) (cur'.toList.take (xs.length * 3)) ∧ Oth (fun j => j = g ∨ I j) W W' := by
  go_enter Tryz.func20, Tryz.ntmps20
  go_wp2
  go_loopw [1, 5] (fun kv iv wr => ∃ (P R : List CK.place.T) (cu : Array Value), xs = P ++ R ∧ iv = .int .i64 (P.length : Int) ∧ kv = .int .i64 (k + szPl P) ∧ wr.heap[g]? = some (.cells cu e (0, 0)) ∧ cu.size = cur.size ∧ DeepR wr base I ei (markPl k P ++ R) (cu.toList.take (xs.length * 3)) ∧ Oth (fun j => j = g ∨ I j) W wr)
    (fun _ i _ => xs.length - (intOf i).toNat)
  case atStart => exact ⟨[], xs, cur, rfl, rfl, by simp [szPl], hg, rfl, hd, Oth.refl _ _⟩
  case round =>
    obtain ⟨P, R, cu, hxs, rfl, rfl, hgr, hcu, hdr, hoth⟩ := hrel
    cases R with
    | nil =>
      rw [List.append_nil] at hxs
      subst hxs
      rw [List.append_nil] at hdr
      go_wp2
      go_ret
      exact ⟨rfl, cu, hgr, hcu, hdr, hoth⟩
    | cons y R =>
      have hlen : xs.length = P.length + (R.length + 1) := by rw [hxs]; simp
      have hlt : P.length < xs.length := by omega
      have hpl : (markPl k P).length = P.length := markPl_len k P
      have hob : ∀ j, (j = g ∨ I j) → base ≤ j := by
        rintro j (rfl | hj)
        · exact hbg
        · exact (hIb j hj).1
      obtain ⟨u, v, c0, c1, c2, hu, hv⟩ := hdr.1 P.length y (by rw [List.getElem?_append_right (by omega), hpl, Nat.sub_self]; rfl)
      rw [Nat.mul_comm 3] at c0 c1 c2
      have hsz : szPl xs = szPl P + ((y.1.length : Int) + 1 + (y.2.2.length : Int) + szPl R) := by rw [hxs, szPl_app]; rfl
      have n1 := szPl_nn P
      have n2 := szPl_nn R
      have huv : ∀ j, blkOf u = some j → blkOf v ≠ some j := fun j h1 h2 => by
        have := hdr.2 (P.length * 3) (P.length * 3 + 2) u v j (by rw [List.length_append, hpl, List.length_cons]; omega) (by rw [List.length_append, hpl, List.length_cons]; omega) c0 c2 h1 h2
        omega
      have d0 : wr.cell? ⟨g, P.length * 3, none⟩ = some u := cell_row hgr c0
      have hgl : g < wr.heap.size := lt_of_block hgr
      have hm1 := markC (k := k + szPl P) (Nat.le_trans hb hoth.size) (fun w' hk => hI w' ((hoth.kp hb hob).trans hk)) hu.1 (by omega) (by omega)
      have hlen' : Hid (xs.length = P.length + (R.length + 1)) := hlen
      have hxs' : Hid (xs = P ++ y :: R) := hxs
      clear hlen hxs
      go_wp2_with (first
        | (go_at_call 34; refine hm2.mono ?_; rintro e2 w3 ⟨rfl, o2, oth2⟩)
        | (go_at_call 34; refine hm1.mono ?_; rintro e1 w1 ⟨rfl, o1, oth1⟩; have g1 : w1.heap[g]? = some (.cells cu e (0, 0)) := (oth1.keep g hgl (fun h => hgI (hu.2 g h))).trans hgr; have f1 : w1.frozen? ⟨g, P.length * 3 + 1, none⟩ = false := free_row g1; have d1 : w1.cell? ⟨g, P.length * 3 + 1, none⟩ = some (.int .i64 y.2.1) := cell_row g1 c1; have d2 : (w1.setCell ⟨g, P.length * 3 + 1, none⟩ (.int .i64 (k + szPl P + (y.1.length : Int)))).cell? ⟨g, P.length * 3 + 2, none⟩ = some v := cell_row (n := xs.length * 3) (setCell_row g1) (by rw [take_set_row, List.getElem?_set_ne (by omega)]; exact c2); have s1 : wr.heap.size ≤ (w1.setCell ⟨g, P.length * 3 + 1, none⟩ (.int .i64 (k + szPl P + (y.1.length : Int)))).heap.size := Nat.le_trans oth1.size (Oth.setCell w1 g _ _).size; have o12 : Oth (fun j => j = g ∨ I j) wr (w1.setCell ⟨g, P.length * 3 + 1, none⟩ (.int .i64 (k + szPl P + (y.1.length : Int)))) := (oth1.mono fun j h => .inr (hu.2 j h)).trans ((Oth.setCell w1 g _ _).mono fun j h => .inl h); have hv2 : (w1.setCell ⟨g, P.length * 3 + 1, none⟩ (.int .i64 (k + szPl P + (y.1.length : Int)))).ownsRow base ei 1 v y.2.2.length (y.2.2.map (.int .i64)) := ownsRow_to hv.1 (fun j hj hjl => (Below.heap_setCell w1 _ _ j (fun e => hgI (by rw [← show j = g from e]; exact hv.2 j hj))).trans (oth1.keep j hjl (fun h => huv j h hj))); have hm2 := markC (k := k + szPl P + (y.1.length : Int) + 1) (Nat.le_trans (Nat.le_trans hb hoth.size) s1) (fun w' hk => hI w' (((hoth.trans o12).kp hb hob).trans hk)) hv2 (by omega) (by omega))
        | go_in)
      have hlen : xs.length = P.length + (R.length + 1) := hlen'
      have hxs : xs = P ++ y :: R := hxs'
      have g2 := setCell_row (o := P.length * 3 + 1) (z := .int .i64 (k + szPl P + (y.1.length : Int))) g1
      have hgl2 : g < (w1.setCell ⟨g, P.length * 3 + 1, none⟩ (.int .i64 (k + szPl P + (y.1.length : Int)))).heap.size := lt_of_block g2
      have g3 := (oth2.keep g hgl2 (fun h => hgI (hv.2 g h))).trans g2
      have oall := (hoth.trans o12).trans (oth2.mono fun j h => (.inr (hv.2 j h) : j = g ∨ I j))
      have hml : markPl k (P ++ [y]) = markPl k P ++ [(markL (k + szPl P) y.1, k + szPl P + (y.1.length : Int), markL (k + szPl P + (y.1.length : Int) + 1) y.2.2)] := by rw [markPl_app]; rfl
      have hl9 : 3 * (markPl k P ++ y :: R).length ≤ (cu.toList.take (xs.length * 3)).length := by
        have e9 : (markPl k P ++ y :: R).length = xs.length := by rw [List.length_append, hpl, List.length_cons, hlen]
        have e8 : xs.length * 3 ≤ cu.size := by rw [hcu]; exact hn
        rw [e9, List.length_take, Array.length_toList (xs := cu), Nat.min_eq_left e8, Nat.mul_comm]
        exact Nat.le_refl _
      have hdeep := hdr.mark (W' := w3) (P := markPl k P) (R := R) (y := y) (u := u) (v := v) (ys := markL (k + szPl P) y.1) (zs := markL (k + szPl P + (y.1.length : Int) + 1) y.2.2) (n := k + szPl P + (y.1.length : Int))
        (by rw [hpl, Nat.mul_comm 3 P.length]; exact c0) (by rw [hpl, Nat.mul_comm 3 P.length]; exact c2) hl9
        ⟨ownsRow_to o1 fun j hj hjl => (oth2.keep j (Nat.lt_of_lt_of_le hjl (Oth.setCell w1 g _ _).size) (fun h => huv j hj h)).trans (Below.heap_setCell w1 _ _ j (fun e => hgI (by rw [← show j = g from e]; exact hu.2 j hj))), hu.2⟩
        ⟨o2, hv.2⟩
        (fun j hj hjl nu nv => (oth2.keep j (Nat.lt_of_lt_of_le hjl s1) nv).trans ((Below.heap_setCell w1 _ _ j (fun e => hgI (by rw [← show j = g from e]; exact hj))).trans (oth1.keep j hjl nu)))
      rw [hpl, Nat.mul_comm 3 P.length, ← take_set_row] at hdeep
      go_roundw
      case rel =>
        refine ⟨P ++ [y], R, _, by rw [hxs]; simp, by simp, by rw [szPl_app]; simp [szPl]; omega, g3, by simpa using hcu, ?_, oall⟩
        rw [hml, List.append_assoc]
        exact hdeep
      case measure => simp [intOf]; omega
set_option maxRecDepth 100000 in
theorem markPs0 (W : World) (A : Option Addr) (c : Nat) (k : Int) : Calls Tryz.prog 20 #[.slice A 0 c, .int .i64 k] W fun e W' => e = .returned (.int .i64 k) ∧ W' = W := by
  go_enter Tryz.func20, Tryz.ntmps20
  go_wp2
  refine wp_loop_rounds 1 ?_
  rw [rounds_succ]
  go_wp2
  go_ret
  exact ⟨rfl, rfl⟩
theorem w_markPlaceS_mk : MkOk Tryz.prog 20 .places := by
  intro ps h h' p pin base w ρ us hk hI hH hus
  refine ⟨⟨Tryz.f20, by kernel_rfl, by kernel_rfl, by kernel_rfl⟩, ?_⟩
  unfold markK at hk
  split at hk
  case h_4 z k hm =>
    have two : ∃ u, us = [u, .int .i64 k] ∧ V (vw w base ρ h) z u := by
      cases hus with
      | cons h1 h2 => cases h2 with
        | cons h3 h4 =>
          cases h4
          have h3' : _ = Value.int .i64 k := h3
          subst h3'
          exact ⟨_, rfl, h1⟩
    obtain ⟨u, rfl, hu⟩ := two
    unfold markZ at hk
    split at hk
    · injection hk with hk
      injection hk with h1 h2
      subst h1; subst h2
      have hu' : u = .slice none 0 0 := hu
      subst hu'
      refine (markPs0 w none 0 k).mono ?_
      rintro e w' ⟨rfl, rfl⟩
      exact ⟨_, rfl, ρ, hH, Vw.Le.refl _, rfl, Kp.refl _ _ _⟩
    · rename_i id
      split at hk
      · rename_i s e ei xs hg
        split at hk
        · rename_i hc
          injection hk with hk
          injection hk with h1 h2
          subst h1; subst h2
          have hu' : u = ρ id := hu.2.1
          subst hu'
          have hlv : h.get id ≠ none := by rw [hg]; simp
          obtain ⟨inner, ho, hd⟩ := hH.blk id _ hg
          have hoC : OwnsC w base e 3 (ρ id) xs.length inner := OwnsS.toC ho
          replace hd : DeepR w base (ρ.ins id) ei xs inner := hd
          have hm : xs.length ≤ maxLen := dp_max hH hg
          have hI' : ∀ w', Kp (pnB base) base w w' → Gl.I w' := fun w' hk => hI w' ⟨hk.os, hk.tape, hk.output, hk.size, fun i hi _ => hk.block i hi (fun h => h)⟩
          rcases hoC.2 with ⟨A, hA, h0, _⟩ | ⟨g, cap, cur, hv, hbg, hh, hle, hcm, hsz, htk⟩
          · have hxs : xs = [] := List.eq_nil_of_length_eq_zero h0
            subst hxs
            rw [hA]
            refine (markPs0 w A 0 k).mono ?_
            rintro e' w' ⟨rfl, rfl⟩
            have e1 : k + szPl [] = k := by simp [szPl]
            have e2 : h.set id (some (.dp s e ei (markPl k []))) = h := hset_same hg
            rw [e1, e2]
            exact ⟨_, rfl, ρ, hH, Vw.Le.refl _, rfl, Kp.refl _ _ _⟩
          · rw [hv]
            have hgI : ¬ ρ.ins id g := fun hin => by
              have := hH.ins1 id g hlv hin
              exact this.2.2 (hH.okm id g hlv (by rw [hv]; rfl) this.1)
            have hlen62 : xs.length ≤ 4611686018427387904 := by
              have hz : ∀ l : List CK.place.T, (l.length : Int) ≤ szPl l := by
                intro l
                induction l with
                | nil => simp [szPl]
                | cons p l ih => simp only [szPl, List.length_cons]; omega
              have := hz xs
              omega
            refine (markPsC hH.bs hI' hh hbg hgI (fun j hj => ⟨(hH.ins1 id j hlv hj).1, (hH.ins1 id j hlv hj).2.1⟩) hsz (by rw [htk]; exact hd) hc.1 hc.2 hlen62).mono ?_
            rintro e' w' ⟨rfl, cur', a1, a2, a3, a4⟩
            have hl := markPl_len k xs
            have hot : ∀ j, (j = g ∨ ρ.ins id j) → base ≤ j := by
              rintro j (rfl | hj)
              · exact hbg
              · exact (hH.ins1 id j hlv hj).1
            have hown : OwnsS s w' base e 3 (ρ id) (markPl k xs).length (cur'.toList.take (xs.length * 3)) := by
              have hsz' : xs.length * 3 ≤ cur'.size := by rw [a2]; exact hsz
              have hil : (cur'.toList.take (xs.length * 3)).length = xs.length * 3 := by rw [List.length_take, Array.length_toList (xs := cur')]; exact Nat.min_eq_left hsz'
              rw [hl]
              cases s with
              | false => exact ⟨hil, .inr ⟨g, cap, cur', hv, hbg, a1, hle, hcm, hsz', rfl⟩⟩
              | true =>
                have ho' : w.ownsRow base e 3 (ρ id) xs.length inner := ho
                rcases ho'.2 with ⟨hn, _⟩ | ⟨g', cap', cur0, hv', _, hh', _, _, hs', _⟩
                · rw [hv] at hn; cases hn
                · rw [hv] at hv'
                  injection hv' with b1 b2 b3
                  injection b1 with b1
                  injection b1 with b1
                  subst b1; subst b3
                  rw [hh] at hh'
                  injection hh' with hh'
                  injection hh' with hh'
                  subst hh'
                  exact ⟨hil, .inr ⟨g, cap, cur', hv, hbg, a1, hle, hcm, by rw [a2]; exact hs', rfl⟩⟩
            obtain ⟨r1, r2⟩ := hH.dpSet hg (xs' := markPl k xs) a4.size (fun j hj n1 n2 => a4.keep j hj (by
              rintro (rfl | h2)
              · exact n1 (by rw [hv]; rfl)
              · exact n2 h2)) ⟨_, hown, a3⟩
            exact ⟨_, rfl, ρ, r1, r2, rfl, a4.kp hH.bs hot⟩
        · cases hk
      · cases hk
    · cases hk
  all_goals first | (rename_i hm _; cases hm; done) | (rename_i hm; cases hm; done) | (cases hk; done) | contradiction
end FN
/-! markDesk. -/
namespace FN
open Go Go.Proofs
noncomputable def E2 : Env' := withWr E0 (fun f => if f = 19 then some (.place 27) else if f = 20 then some .places else none)
theorem E2c : E2.cuts = [] := rfl
theorem e2_mine (d : Option Nat) : (d.map E2.mine).getD false = false := by cases d <;> rfl
theorem E2_ok : EnvOk Tryz.prog E2 := withWr_ok E0_ok (tab_cons w_markPlace_mk (tab_cons w_markPlaceS_mk tab_none))
theorem e2_place {R : Type} {p q : PV} {x k : Int} {mn : Bool} {h : Hp} {K : PV → Hp → Option R} : callK E2 19 [.agg [p, .int .i64 x, q], .int .i64 k] mn h K = markI p k (h ++ [some (.box 27 [p, .int .i64 x, q])]) fun k h => markI q k h fun k h => K (.int .i64 k) h := by kernel_rfl
theorem e2_places {R : Type} {z : PV} {k : Int} {mn : Bool} {h : Hp} {K : PV → Hp → Option R} : callK E2 20 [z, .int .i64 k] mn h K = markZ z k h fun k h => K (.int .i64 k) h := by kernel_rfl
noncomputable def dC : Code := Tryz.f9.body.getD .skip
theorem d_o0 : offOf Tryz.prog 30 0 = some (0, 27) := by kernel_rfl
theorem d_o1 : offOf Tryz.prog 30 1 = some (3, 28) := by kernel_rfl
theorem d_sz0 : szOf Tryz.prog 27 = 3 := by kernel_rfl
theorem d_sz1 : szOf Tryz.prog 28 = 1 := by kernel_rfl
theorem d_load0 {R : Type} {h : Hp} {id : Nat} {t : TypeId} {a b c d : PV} (hg : h.get id = some (.box t [a, b, c, d])) (K : PV → Option R) : loadK Tryz.prog 27 (.ptr id 0) h K = K (.agg [a, b, c]) := by
  have hu : ∃ u, Tryz.prog.underlying 27 = some u := ⟨_, Tryz.underlying27⟩
  obtain ⟨u, hu⟩ := hu
  have ha : isAggB Tryz.prog 27 = true := by kernel_rfl
  simp only [loadK, hg, readK, hu, ha, if_true, d_sz0]
  rfl
theorem d_load1 {R : Type} {h : Hp} {id : Nat} {t : TypeId} {a b c d : PV} (hg : h.get id = some (.box t [a, b, c, d])) (K : PV → Option R) : loadK Tryz.prog 28 (.ptr id 3) h K = K d := by
  have hu : ∃ u, Tryz.prog.underlying 28 = some u := ⟨_, Tryz.underlying28⟩
  obtain ⟨u, hu⟩ := hu
  have ha : isAggB Tryz.prog 28 = false := by kernel_rfl
  simp only [loadK, hg, readK, hu, ha, Bool.false_eq_true, if_false]
  rfl
theorem markZ_some {p : PV} {k : Int} {h : Hp} {R : Type} {F : Int → Hp → Option R} {r : R} (hk : markZ p k h F = some r) : oneP p = true ∧ ∃ k1 h2, (∀ (R : Type) (F : Int → Hp → Option R), markZ p k h F = F k1 h2) ∧ F k1 h2 = some r := by
  unfold markZ at hk
  split at hk
  · exact ⟨rfl, k, h, fun _ _ => rfl, hk⟩
  · rename_i id
    split at hk
    · rename_i s e ei xs hg
      split at hk
      · rename_i hc
        refine ⟨rfl, _, _, fun R F => ?_, hk⟩
        simp only [markZ, hg, hc, and_self, if_true]
      · cases hk
    · cases hk
  · cases hk
theorem d_run {R : Type} {p q z : PV} {x k k1 k2 k3 : Int} {h h2 h4 h6 : Hp} (hp : oneP p = true) (hq : oneP q = true) (hn : oneP z = true) (h1 : ∀ (R : Type) (F : Int → Hp → Option R), markI p k ((h ++ [some (.box 30 [p, .int .i64 x, q, z])]) ++ [some (.box 27 [p, .int .i64 x, q])]) F = F k1 h2) (h3 : ∀ (R : Type) (F : Int → Hp → Option R), markI q k1 h2 F = F k2 h4) (h5 : ∀ (R : Type) (F : Int → Hp → Option R), markZ z k2 h4 F = F k3 h6) (hb : Hp.get h4 h.length = some (.box 30 [p, .int .i64 x, q, z])) (K : AX → St → Option R) (a2 a3 a4 a5 a6 a7 a8 a9 a10 a11 a12 a13 : PV) :
    ∃ G : PV → List PV, (∀ v, (G v).getD 4 .junk = v) ∧ exCode Tryz.prog E2 dC ⟨[.agg [p, .int .i64 x, q, z], .int .i64 k, a2, a3, a4, a5, a6, a7, a8, a9, a10, a11, a12, a13], h⟩ K = K .ret ⟨G (.int .i64 k3), h6⟩ := by
  have hi : oneP (.int .i64 x) = true := rfl
  refine ⟨fun v => [.agg [p, .int .i64 x, q, z], v, .ptr h.length 0, a3, v, .ptr h.length 0, .agg [p, .int .i64 x, q], .int .i64 k, .int .i64 k2, .ptr h.length 3, z, .int .i64 k2, v, v], fun v => rfl, ?_⟩
  simp only [dC, Tryz.f9, Option.getD_some, exCode, cutS0 E2c]
  simp only [e2_mine, regOrd, Bool.false_eq_true, if_false, exOps, opK, ev, ofVal, cellsOf, List.all_cons, List.all_nil, hp, hq, hi, hn, Bool.and_true, if_true, List.getD_cons_zero, List.getD_cons_succ, putT, List.set_cons_zero, List.set_cons_succ, d_o0, d_o1, d_sz0, d_sz1, Nat.one_ne_zero, Nat.reduceEqDiff, Nat.zero_add]
  rw [d_load0 (get_last h _)]
  simp only [List.map_cons, List.map_nil, ev, List.getD_cons_zero, List.getD_cons_succ, e2_place, h1, h3]
  rw [d_load1 hb]
  simp only [e2_places, h5]
theorem w_markDesk_mk : MkOk Tryz.prog 9 (.desk 30 27) := by
  intro ps h h' p pin base w ρ us hk hI hH hus
  have fin : exCode Tryz.prog E2 (Tryz.f9.body.getD .skip) ⟨ps ++ List.replicate (Tryz.f9.ntmps - ps.length) .junk, h⟩ (endW Tryz.prog Tryz.f9) = some (p, h') := by
    unfold markK at hk
    split at hk
    case h_3 t t' p0 x q z k he =>
      injection he with he he'
      subst he; subst he'
      obtain ⟨o1, k1, h2, g1, g2, g3⟩ := markI_some hk
      obtain ⟨o2, k3, h4, g4, g5, g6⟩ := markI_some g2
      obtain ⟨o3, k5, h6, g8, g9⟩ := markZ_some g5
      have hb0 : Hp.get ((h ++ [some (.box 30 [p0, .int .i64 x, q, z])]) ++ [some (.box 27 [p0, .int .i64 x, q])]) h.length = some (.box 30 [p0, .int .i64 x, q, z]) := by
        have := get_last h (some (.box 30 [p0, .int .i64 x, q, z]))
        unfold Hp.get at this ⊢
        rw [List.getElem?_append_left (by simp)]
        exact this
      have hb := g6 _ _ _ (g3 h.length _ _ hb0)
      obtain ⟨G, hG, hrun⟩ := d_run (q := q) (x := x) o1 o2 o3 g1 g4 g8 hb (endW Tryz.prog Tryz.f9) .junk .junk .junk .junk .junk .junk .junk .junk .junk .junk .junk .junk
      have e : List.replicate (Tryz.f9.ntmps - 2) PV.junk = [.junk, .junk, .junk, .junk, .junk, .junk, .junk, .junk, .junk, .junk, .junk, .junk] := by kernel_rfl
      refine Eq.trans (congrArg (fun t => exCode Tryz.prog E2 (Tryz.f9.body.getD .skip) ⟨t, h⟩ (endW Tryz.prog Tryz.f9)) (show _ = [.agg [p0, .int .i64 x, q, z], .int .i64 k, .junk, .junk, .junk, .junk, .junk, .junk, .junk, .junk, .junk, .junk, .junk, .junk] from congrArg ([PV.agg [p0, .int .i64 x, q, z], .int .i64 k] ++ ·) e)) ?_
      refine hrun.trans ?_
      injection g9 with g9
      injection g9 with g9 g7
      subst g9; subst g7
      have hr : Tryz.f9.results.toList = [.tmp 4] := by kernel_rfl
      simp only [endW, hr, resPs, Option.map_some, Option.bind_some, hG]
    all_goals first | (cases hk; done) | (rename_i he; cases he; done) | (rename_i he _; cases he; done) | contradiction
  exact wr_of (E := E2) E2_ok E2c follows_ (fn := Tryz.f9) (c := Tryz.f9.body.getD .skip) (by kernel_rfl) (by kernel_rfl) rfl fin hI hH hus
end FN
set_option linter.unusedVariables false
namespace FN
open Go Go.Proofs
/-! loop.example/firingnets/laws.FnExactStoreOpen -/
@[reducible] def w_FnExactStoreOpen_sig : Sig := { ps := [some 3], pc := [.str, .str, .int .i64], rs := [none], rc := [.bool] }
noncomputable def w_FnExactStoreOpen_E : Env' := withWr { fn := fun f => if f = 4 then some ⟨w_szStore_sig, w_szStore_f⟩ else if f = 5 then some ⟨s_StoreOpen_sig, s_StoreOpen_f⟩ else if f = 6 then some ⟨w_toStore_sig, w_toStore_f⟩ else if f = 7 then some ⟨i_StoreOpen_sig, i_StoreOpen_f⟩ else if f = 8 then some ⟨w_eqDesk_sig, w_eqDesk_f⟩ else if f = 10 then some ⟨w_heldDesk_sig, w_heldDesk_f⟩ else none, ck := ckT, cuts := [], mine := fun i => i == 14 || i == 19 || i == 20 || i == 25 || i == 26 || i == 31 || i == 40 || i == 43 || i == 51 || i == 52 || i == 57 || i == 66 } (fun f => if f = 9 then some (.desk 30 27) else none)
noncomputable def w_FnExactStoreOpen_f (x : Ts w_FnExactStoreOpen_sig.pc) : Option (Ts w_FnExactStoreOpen_sig.rc) := runFn Tryz.prog (w_FnExactStoreOpen_E) Tryz.f3 w_FnExactStoreOpen_sig x
theorem w_FnExactStoreOpen_f_eq (x0 : (ByteArray)) (x1 : (ByteArray)) (x2 : (Int)) : w_FnExactStoreOpen_f (x0, x1, x2) = (Option.bind (w_szStore_f (x0, x1, x2, 1048576)) fun r1 => (cond ((decide (r1 < 0))) (some true) (Option.bind (w_toStore_f (x0, x1, x2)) fun r2 => (Option.bind (s_StoreOpen_f (r2.1, r2.2.1, r2.2.2)) fun r3 => (Option.bind (w_toStore_f (x0, x1, x2)) fun r4 => (Option.bind (i_StoreOpen_f (r4.1, r4.2.1, r4.2.2)) fun r5 => (Option.bind (w_eqDesk_f (r5.1, r5.2.1, r5.2.2.1, r5.2.2.2.1, r3.1, r3.2.1, r3.2.2.1, r3.2.2.2.1)) fun r6 => (cond ((!r6)) (some false) (cond ((!(r5.2.2.2.2 == r3.2.2.2.2))) (some false) (if (0 : Int) ≤ 1 ∧ 1 + (List.length r5.1 : Int) ≤ 4611686018427387904 then (if (0 : Int) ≤ (1 + (List.length r5.1 : Int)) ∧ (1 + (List.length r5.1 : Int)) + (List.length r5.2.2.1 : Int) ≤ 4611686018427387904 then (if (0 : Int) ≤ ((1 + (List.length r5.1 : Int)) + (List.length r5.2.2.1 : Int)) ∧ ((1 + (List.length r5.1 : Int)) + (List.length r5.2.2.1 : Int)) + szPl r5.2.2.2.1 ≤ 4611686018427387904 then (Option.bind (w_heldDesk_f ((markL 1 r5.1), r5.2.1, (markL (1 + (List.length r5.1 : Int)) r5.2.2.1), (markPl ((1 + (List.length r5.1 : Int)) + (List.length r5.2.2.1 : Int)) r5.2.2.2.1), 1)) fun r7 => (cond ((decide (r7 < 0))) (some false) (cond ((r7 != (((1 + (List.length r5.1 : Int)) + (List.length r5.2.2.1 : Int)) + szPl r5.2.2.2.1))) (some false) (Option.bind (w_toStore_f (x0, x1, x2)) fun r8 => (Option.bind (i_StoreOpen_f (r8.1, r8.2.1, r8.2.2)) fun r9 => (Option.bind (w_eqDesk_f (r9.1, r9.2.1, r9.2.2.1, r9.2.2.2.1, r3.1, r3.2.1, r3.2.2.1, r3.2.2.2.1)) fun r10 => (cond ((!r10)) (some false) (cond ((!(r9.2.2.2.2 == r3.2.2.2.2))) (some false) (Option.bind (w_heldDesk_f ((markL 1 r5.1), r5.2.1, (markL (1 + (List.length r5.1 : Int)) r5.2.2.1), (markPl ((1 + (List.length r5.1 : Int)) + (List.length r5.2.2.1 : Int)) r5.2.2.2.1), 1)) fun r11 => (cond ((decide (r11 < 0))) (some false) (cond ((r11 != (((1 + (List.length r5.1 : Int)) + (List.length r5.2.2.1 : Int)) + szPl r5.2.2.2.1))) (some false) (some true)))))))))))) else none) else none) else none)))))))))) := by
  kernel_rfl
theorem w_FnExactStoreOpen_ent : Entb Tryz.prog 3 := ⟨Tryz.f3, by kernel_rfl, by kernel_rfl, by kernel_rfl⟩
theorem w_FnExactStoreOpen_ok : CtrOk Tryz.prog 3 ⟨w_FnExactStoreOpen_sig, w_FnExactStoreOpen_f⟩ :=
  ctr_of (fn := Tryz.f3) (by kernel_rfl) (by kernel_rfl) (fun x : Ts w_FnExactStoreOpen_sig.pc => w_FnExactStoreOpen_E) (fun x => withWr_ok ⟨(fn_cons ⟨w_szStore_ok, w_szStore_ent⟩ (fn_cons ⟨s_StoreOpen_ok, s_StoreOpen_ent⟩ (fn_cons ⟨w_toStore_ok, w_toStore_ent⟩ (fn_cons ⟨i_StoreOpen_ok, i_StoreOpen_ent⟩ (fn_cons ⟨w_eqDesk_ok, w_eqDesk_ent⟩ (fn_cons ⟨w_heldDesk_ok, w_heldDesk_ent⟩ fn_none)))))), clo_none, wr_none⟩ (tab_cons w_markDesk_mk (tab_none))) (fun h => by cases h) follows_ (fun _ _ => trivial)
end FN
