/- Texts of the proof, joined: The functions, their equations and contracts. -/
import Derived.OneCell
import Derived.WalkKit
import Derived.Test.YtlpjnnepjlaclaaDoorG0
set_option linter.unusedVariables false
set_option linter.unusedSimpArgs false
set_option linter.unusedSectionVars false
/-! markPlaceS of a row of places whose rows are its own: walked by hand. -/
namespace FN
open Go Go.Proofs Go.RowKit
def pnB (base : Nat) : Pn := ⟨fun _ => False, fun k => base ≤ k⟩
/-- Nothing but u's block turns. -/
structure Oth (o : Nat → Prop) (w w' : World) : Prop where
  os : w'.os = w.os
  tape : w'.tape = w.tape
  output : w'.output = w.output
  size : w.heap.size ≤ w'.heap.size
  keep : ∀ k, k < w.heap.size → ¬ o k → w'.heap[k]? = w.heap[k]?
theorem Oth.refl (o : Nat → Prop) (w : World) : Oth o w w := ⟨rfl, rfl, rfl, Nat.le_refl _, fun _ _ _ => rfl⟩
theorem Oth.trans {o : Nat → Prop} {a b c : World} (h : Oth o a b) (k : Oth o b c) : Oth o a c :=
  ⟨k.os.trans h.os, k.tape.trans h.tape, k.output.trans h.output, Nat.le_trans h.size k.size, fun i hi ho => (k.keep i (Nat.lt_of_lt_of_le hi h.size) ho).trans (h.keep i hi ho)⟩
theorem Oth.mono {o o' : Nat → Prop} {a b : World} (h : Oth o a b) (ho : ∀ k, o k → o' k) : Oth o' a b := ⟨h.os, h.tape, h.output, h.size, fun k hk hn => h.keep k hk fun hh => hn (ho k hh)⟩
theorem Oth.kp {o : Nat → Prop} {pin : Pn} {base : Nat} {a b : World} (h : Oth o a b) (hb : base ≤ a.heap.size) (ho : ∀ k, o k → base ≤ k) : Kp pin base a b := ⟨h.os, h.tape, h.output, h.size, fun k hk _ => h.keep k (by omega) fun hh => by have := ho k hh; omega⟩
theorem markC {W : World} {base : Nat} {zs : List Int} {u : Value} {ei : TypeId} {k : Int} (hb : base ≤ W.heap.size) (hI : ∀ w', Kp (pnB base) base W w' → Gl.I w') (ho : W.ownsRow base ei 1 u zs.length (zs.map (.int .i64))) (hk : 0 ≤ k) (hk' : k + (zs.length : Int) ≤ 4611686018427387904) :
    Calls Tryd.prog 82 #[u, .int .i64 k] W fun e W' => e = .returned (.int .i64 (k + (zs.length : Int))) ∧ W'.ownsRow base ei 1 u (markL k zs).length ((markL k zs).map (.int .i64)) ∧ Oth (fun j => blkOf u = some j) W W' := by
  let ρ : Rh := ⟨fun _ => u, fun k => base ≤ k, fun _ _ => False⟩
  have hlt : ∀ i, Hp.get [some (Blk.arr ei true .i64 zs)] i ≠ none → i = 0 := fun i hi => by
    have := Hp.get_lt hi
    simp at this
    exact this
  have hH : HRel (mine (pnB base) base) W base ρ [some (.arr ei true .i64 zs)] := by
    refine ⟨hb, fun i b hib => ?_, fun i j hi hj g _ _ => (hlt i hi).trans (hlt j hj).symm, fun k hk => Nat.le_trans hb hk, fun i k _ _ h => h, fun k h => h, fun k h => h, fun i k _ h => h.elim, fun i j k _ _ h => h.elim⟩
    have := hlt i (by rw [hib]; simp)
    subst this
    have hb' : b = .arr ei true .i64 zs := by
      have : (some (Blk.arr ei true .i64 zs)) = some b := hib
      injection this with this
      exact this.symm
    subst hb'
    exact ⟨_, ho, arrI (W := W)⟩
  have hm : markK .ints [.own 0, .int .i64 k] [some (.arr ei true .i64 zs)] (fun p h => some (p, h)) = some (.int .i64 (k + (zs.length : Int)), [some (.arr ei true .i64 (markL k zs))]) := by
    have hg : Hp.get [some (Blk.arr ei true .i64 zs)] 0 = some (.arr ei true .i64 zs) := rfl
    simp only [markK, markI, hg]
    rw [if_pos ⟨hk, hk'⟩]
    rfl
  obtain ⟨_, hc⟩ := w_markIntS_mk [.own 0, .int .i64 k] _ _ _ (pnB base) base W ρ [u, .int .i64 k] hm hI hH (.cons ⟨Nat.zero_lt_one, rfl, own_one ho⟩ (.cons rfl .nil))
  refine hc.mono ?_
  rintro e w' ⟨v, rfl, ρ', h1, h2, h3, h4⟩
  have hv : v = .int .i64 (k + (zs.length : Int)) := h3
  subst hv
  have hu : ρ' 0 = u := h2.ρ 0 Nat.zero_lt_one
  obtain ⟨inner, o1, o2⟩ := h1.blk 0 _ rfl
  have hin : inner = (markL k zs).map (.int .i64) := by
    apply List.ext_getElem?
    intro j
    have hl : inner.length = (markL k zs).length := by have := o1.1; rw [this]; simp [CK.sz]
    rcases Nat.lt_or_ge j (markL k zs).length with hj | hj
    · obtain ⟨cs, e1, e2⟩ := o2 j _ (List.getElem?_eq_getElem hj)
      simp only [ElR] at e1
      subst e1
      have := e2 0 _ rfl
      rw [List.getElem?_map, List.getElem?_eq_getElem hj]
      simpa [CK.sz] using this
    · rw [List.getElem?_eq_none (by omega), List.getElem?_eq_none (by simpa using hj)]
  subst hin
  rw [hu] at o1
  refine ⟨rfl, o1, h4.os, h4.tape, h4.output, h4.size, fun j hj hn => ?_⟩
  rcases Nat.lt_or_ge j base with hjb | hjb
  · exact h4.block j hjb (fun h => h)
  · exact (h2.tr.keep j ⟨hjb, fun i hi hbk => hn hbk⟩ hj).1
theorem szPl_app : ∀ (l m : List CK.place.T), szPl (l ++ m) = szPl l + szPl m
  | [], m => by simp [szPl]
  | p :: l, m => by simp only [List.cons_append, szPl, szPl_app l m]; omega
theorem markPl_app : ∀ (k : Int) (l m : List CK.place.T), markPl k (l ++ m) = markPl k l ++ markPl (k + szPl l) m
  | k, [], m => by simp [markPl, szPl]
  | k, p :: l, m => by
    simp only [List.cons_append, markPl, szPl, markPl_app _ l m]
    congr 3
    omega
theorem setCell_row {w : World} {g o : Nat} {cur : Array Value} {e : TypeId} {z : Value} (h : w.heap[g]? = some (.cells cur e (0, 0))) : (w.setCell ⟨g, o, none⟩ z).heap[g]? = some (.cells (cur.setIfInBounds o z) e (0, 0)) := by
  have hlt := lt_of_block h
  have h' : w.heap[g] = .cells cur e (0, 0) := by simpa [Array.getElem?_eq_getElem hlt] using h
  show (w.heap.modify g _)[g]? = _
  rw [Array.getElem?_eq_getElem (by simpa using hlt), Array.getElem_modify_self, h']
  rfl
theorem free_row {w : World} {g o : Nat} {cur : Array Value} {e : TypeId} (h : w.heap[g]? = some (.cells cur e (0, 0))) : w.frozen? ⟨g, o, none⟩ = false := by simp [World.frozen?, h]
theorem cell_row {w : World} {g o n : Nat} {cur : Array Value} {e : TypeId} {z : Value} (h : w.heap[g]? = some (.cells cur e (0, 0))) (hz : (cur.toList.take n)[o]? = some z) : w.cell? ⟨g, o, none⟩ = some z := by
  rw [List.getElem?_take] at hz
  split at hz
  · have := cell_blk h hz
    rwa [add0] at this
  · cases hz
theorem take_set_row {cur : Array Value} {o n : Nat} {z : Value} : (cur.setIfInBounds o z).toList.take n = (cur.toList.take n).set o z := by
  rw [Array.toList_setIfInBounds, List.take_set]
theorem Oth.setCell (w : World) (g o : Nat) (z : Value) : Oth (fun j => j = g) w (w.setCell ⟨g, o, none⟩ z) :=
  ⟨rfl, rfl, rfl, by simp [World.setCell], fun k _ hk => Below.heap_setCell w _ z k (fun e => hk e)⟩
set_option maxRecDepth 100000 in
theorem markPsC {W : World} {base : Nat} {I : Nat → Prop} {e ei : TypeId} {xs : List CK.place.T} {g cap : Nat} {cur : Array Value} {k : Int} (hb : base ≤ W.heap.size) (hI : ∀ w', Kp (pnB base) base W w' → Gl.I w') (hg : W.heap[g]? = some (.cells cur e (0, 0))) (hbg : base ≤ g) (hgI : ¬ I g) (hIb : ∀ k, I k → base ≤ k ∧ k < W.heap.size)
    (hn : xs.length * 3 ≤ cur.size) (hd : DeepR W base I ei xs (cur.toList.take (xs.length * 3))) (hk : 0 ≤ k) (hk' : k + szPl xs ≤ 4611686018427387904) (hm : xs.length ≤ 4611686018427387904) :
    Calls Tryd.prog 51 #[.slice (some ⟨g, 0, none⟩) xs.length cap, .int .i64 k] W fun e' W' => e' = .returned (.int .i64 (k + szPl xs)) ∧
      ∃ cur', W'.heap[g]? = some (.cells cur' e (0, 0)) ∧ cur'.size = cur.size ∧ DeepR W' base I ei (markPl k xs) (cur'.toList.take (xs.length * 3)) ∧ Oth (fun j => j = g ∨ I j) W W' := by
  go_enter Tryd.func51, Tryd.ntmps51
  go_wp2
  go_loopw [1, 5] (fun kv iv wr => ∃ (P R : List CK.place.T) (cu : Array Value), xs = P ++ R ∧ iv = .int .i64 (P.length : Int) ∧ kv = .int .i64 (k + szPl P) ∧ wr.heap[g]? = some (.cells cu e (0, 0)) ∧ cu.size = cur.size ∧ DeepR wr base I ei (markPl k P ++ R) (cu.toList.take (xs.length * 3)) ∧ Oth (fun j => j = g ∨ I j) W wr)
    (fun _ i _ => xs.length - (intOf i).toNat)
  case atStart => exact ⟨[], xs, cur, rfl, rfl, by simp [szPl], hg, rfl, hd, Oth.refl _ _⟩
  case round =>
    obtain ⟨P, R, cu, hxs, rfl, rfl, hgr, hcu, hdr, hoth⟩ := hrel
    cases R with
    | nil =>
      rw [List.append_nil] at hxs
      subst hxs
      rw [List.append_nil] at hdr
      go_wp2
      go_ret
      exact ⟨rfl, cu, hgr, hcu, hdr, hoth⟩
    | cons y R =>
      have hlen : xs.length = P.length + (R.length + 1) := by rw [hxs]; simp
      have hlt : P.length < xs.length := by omega
      have hpl : (markPl k P).length = P.length := markPl_len k P
      have hob : ∀ j, (j = g ∨ I j) → base ≤ j := by
        rintro j (rfl | hj)
        · exact hbg
        · exact (hIb j hj).1
      obtain ⟨u, v, c0, c1, c2, hu, hv⟩ := hdr.1 P.length y (by rw [List.getElem?_append_right (by omega), hpl, Nat.sub_self]; rfl)
      rw [Nat.mul_comm 3] at c0 c1 c2
      have hsz : szPl xs = szPl P + ((y.1.length : Int) + 1 + (y.2.2.length : Int) + szPl R) := by rw [hxs, szPl_app]; rfl
      have n1 := szPl_nn P
      have n2 := szPl_nn R
      have huv : ∀ j, blkOf u = some j → blkOf v ≠ some j := fun j h1 h2 => by
        have := hdr.2 (P.length * 3) (P.length * 3 + 2) u v j (by rw [List.length_append, hpl, List.length_cons]; omega) (by rw [List.length_append, hpl, List.length_cons]; omega) c0 c2 h1 h2
        omega
      have d0 : wr.cell? ⟨g, P.length * 3, none⟩ = some u := cell_row hgr c0
      have hgl : g < wr.heap.size := lt_of_block hgr
      have hm1 := markC (k := k + szPl P) (Nat.le_trans hb hoth.size) (fun w' hk => hI w' ((hoth.kp hb hob).trans hk)) hu.1 (by omega) (by omega)
      have hlen' : Hid (xs.length = P.length + (R.length + 1)) := hlen
      have hxs' : Hid (xs = P ++ y :: R) := hxs
      clear hlen hxs
      go_wp2_with (first
        | (go_at_call 82; refine hm2.mono ?_; rintro e2 w3 ⟨rfl, o2, oth2⟩)
        | (go_at_call 82; refine hm1.mono ?_; rintro e1 w1 ⟨rfl, o1, oth1⟩; have g1 : w1.heap[g]? = some (.cells cu e (0, 0)) := (oth1.keep g hgl (fun h => hgI (hu.2 g h))).trans hgr; have f1 : w1.frozen? ⟨g, P.length * 3 + 1, none⟩ = false := free_row g1; have d1 : w1.cell? ⟨g, P.length * 3 + 1, none⟩ = some (.int .i64 y.2.1) := cell_row g1 c1; have d2 : (w1.setCell ⟨g, P.length * 3 + 1, none⟩ (.int .i64 (k + szPl P + (y.1.length : Int)))).cell? ⟨g, P.length * 3 + 2, none⟩ = some v := cell_row (n := xs.length * 3) (setCell_row g1) (by rw [take_set_row, List.getElem?_set_ne (by omega)]; exact c2); have s1 : wr.heap.size ≤ (w1.setCell ⟨g, P.length * 3 + 1, none⟩ (.int .i64 (k + szPl P + (y.1.length : Int)))).heap.size := Nat.le_trans oth1.size (Oth.setCell w1 g _ _).size; have o12 : Oth (fun j => j = g ∨ I j) wr (w1.setCell ⟨g, P.length * 3 + 1, none⟩ (.int .i64 (k + szPl P + (y.1.length : Int)))) := (oth1.mono fun j h => .inr (hu.2 j h)).trans ((Oth.setCell w1 g _ _).mono fun j h => .inl h); have hv2 : (w1.setCell ⟨g, P.length * 3 + 1, none⟩ (.int .i64 (k + szPl P + (y.1.length : Int)))).ownsRow base ei 1 v y.2.2.length (y.2.2.map (.int .i64)) := ownsRow_to hv.1 (fun j hj hjl => (Below.heap_setCell w1 _ _ j (fun e => hgI (by rw [← show j = g from e]; exact hv.2 j hj))).trans (oth1.keep j hjl (fun h => huv j h hj))); have hm2 := markC (k := k + szPl P + (y.1.length : Int) + 1) (Nat.le_trans (Nat.le_trans hb hoth.size) s1) (fun w' hk => hI w' (((hoth.trans o12).kp hb hob).trans hk)) hv2 (by omega) (by omega))
        | go_in)
      have hlen : xs.length = P.length + (R.length + 1) := hlen'
      have hxs : xs = P ++ y :: R := hxs'
      have g2 := setCell_row (o := P.length * 3 + 1) (z := .int .i64 (k + szPl P + (y.1.length : Int))) g1
      have hgl2 : g < (w1.setCell ⟨g, P.length * 3 + 1, none⟩ (.int .i64 (k + szPl P + (y.1.length : Int)))).heap.size := lt_of_block g2
      have g3 := (oth2.keep g hgl2 (fun h => hgI (hv.2 g h))).trans g2
      have oall := (hoth.trans o12).trans (oth2.mono fun j h => (.inr (hv.2 j h) : j = g ∨ I j))
      have hml : markPl k (P ++ [y]) = markPl k P ++ [(markL (k + szPl P) y.1, k + szPl P + (y.1.length : Int), markL (k + szPl P + (y.1.length : Int) + 1) y.2.2)] := by rw [markPl_app]; rfl
      have hl9 : 3 * (markPl k P ++ y :: R).length ≤ (cu.toList.take (xs.length * 3)).length := by
        have e9 : (markPl k P ++ y :: R).length = xs.length := by rw [List.length_append, hpl, List.length_cons, hlen]
        have e8 : xs.length * 3 ≤ cu.size := by rw [hcu]; exact hn
        rw [e9, List.length_take, Array.length_toList (xs := cu), Nat.min_eq_left e8, Nat.mul_comm]
        exact Nat.le_refl _
      have hdeep := hdr.mark (W' := w3) (P := markPl k P) (R := R) (y := y) (u := u) (v := v) (ys := markL (k + szPl P) y.1) (zs := markL (k + szPl P + (y.1.length : Int) + 1) y.2.2) (n := k + szPl P + (y.1.length : Int))
        (by rw [hpl, Nat.mul_comm 3 P.length]; exact c0) (by rw [hpl, Nat.mul_comm 3 P.length]; exact c2) hl9
        ⟨ownsRow_to o1 fun j hj hjl => (oth2.keep j (Nat.lt_of_lt_of_le hjl (Oth.setCell w1 g _ _).size) (fun h => huv j hj h)).trans (Below.heap_setCell w1 _ _ j (fun e => hgI (by rw [← show j = g from e]; exact hu.2 j hj))), hu.2⟩
        ⟨o2, hv.2⟩
        (fun j hj hjl nu nv => (oth2.keep j (Nat.lt_of_lt_of_le hjl s1) nv).trans ((Below.heap_setCell w1 _ _ j (fun e => hgI (by rw [← show j = g from e]; exact hj))).trans (oth1.keep j hjl nu)))
      rw [hpl, Nat.mul_comm 3 P.length, ← take_set_row] at hdeep
      go_roundw
      case rel =>
        refine ⟨P ++ [y], R, _, by rw [hxs]; simp, by simp, by rw [szPl_app]; simp [szPl]; omega, g3, by simpa using hcu, ?_, oall⟩
        rw [hml, List.append_assoc]
        exact hdeep
      case measure => simp [intOf]; omega
set_option maxRecDepth 100000 in
theorem markPs0 (W : World) (A : Option Addr) (c : Nat) (k : Int) : Calls Tryd.prog 51 #[.slice A 0 c, .int .i64 k] W fun e W' => e = .returned (.int .i64 k) ∧ W' = W := by
  go_enter Tryd.func51, Tryd.ntmps51
  go_wp2
  refine wp_loop_rounds 1 ?_
  rw [rounds_succ]
  go_wp2
  go_ret
  exact ⟨rfl, rfl⟩
theorem w_markPlaceS_mk : MkOk Tryd.prog 51 .places := by
  intro ps h h' p pin base w ρ us hk hI hH hus
  refine ⟨⟨Tryd.f51, by kernel_rfl, by kernel_rfl, by kernel_rfl⟩, ?_⟩
  unfold markK at hk
  split at hk
  case h_4 z k hm =>
    have two : ∃ u, us = [u, .int .i64 k] ∧ V (vw w base ρ h) z u := by
      cases hus with
      | cons h1 h2 => cases h2 with
        | cons h3 h4 =>
          cases h4
          have h3' : _ = Value.int .i64 k := h3
          subst h3'
          exact ⟨_, rfl, h1⟩
    obtain ⟨u, rfl, hu⟩ := two
    unfold markZ at hk
    split at hk
    · injection hk with hk
      injection hk with h1 h2
      subst h1; subst h2
      have hu' : u = .slice none 0 0 := hu
      subst hu'
      refine (markPs0 w none 0 k).mono ?_
      rintro e w' ⟨rfl, rfl⟩
      exact ⟨_, rfl, ρ, hH, Vw.Le.refl _, rfl, Kp.refl _ _ _⟩
    · rename_i id
      split at hk
      · rename_i s e ei xs hg
        split at hk
        · rename_i hc
          injection hk with hk
          injection hk with h1 h2
          subst h1; subst h2
          have hu' : u = ρ id := hu.2.1
          subst hu'
          have hlv : h.get id ≠ none := by rw [hg]; simp
          obtain ⟨inner, ho, hd⟩ := hH.blk id _ hg
          have hoC : OwnsC w base e 3 (ρ id) xs.length inner := OwnsS.toC ho
          replace hd : DeepR w base (ρ.ins id) ei xs inner := hd
          have hm : xs.length ≤ maxLen := dp_max hH hg
          have hI' : ∀ w', Kp (pnB base) base w w' → Gl.I w' := fun w' hk => hI w' ⟨hk.os, hk.tape, hk.output, hk.size, fun i hi _ => hk.block i hi (fun h => h)⟩
          rcases hoC.2 with ⟨A, hA, h0, _⟩ | ⟨g, cap, cur, hv, hbg, hh, hle, hcm, hsz, htk⟩
          · have hxs : xs = [] := List.eq_nil_of_length_eq_zero h0
            subst hxs
            rw [hA]
            refine (markPs0 w A 0 k).mono ?_
            rintro e' w' ⟨rfl, rfl⟩
            have e1 : k + szPl [] = k := by simp [szPl]
            have e2 : h.set id (some (.dp s e ei (markPl k []))) = h := hset_same hg
            rw [e1, e2]
            exact ⟨_, rfl, ρ, hH, Vw.Le.refl _, rfl, Kp.refl _ _ _⟩
          · rw [hv]
            have hgI : ¬ ρ.ins id g := fun hin => by
              have := hH.ins1 id g hlv hin
              exact this.2.2 (hH.okm id g hlv (by rw [hv]; rfl) this.1)
            have hlen62 : xs.length ≤ 4611686018427387904 := by
              have hz : ∀ l : List CK.place.T, (l.length : Int) ≤ szPl l := by
                intro l
                induction l with
                | nil => simp [szPl]
                | cons p l ih => simp only [szPl, List.length_cons]; omega
              have := hz xs
              omega
            refine (markPsC hH.bs hI' hh hbg hgI (fun j hj => ⟨(hH.ins1 id j hlv hj).1, (hH.ins1 id j hlv hj).2.1⟩) hsz (by rw [htk]; exact hd) hc.1 hc.2 hlen62).mono ?_
            rintro e' w' ⟨rfl, cur', a1, a2, a3, a4⟩
            have hl := markPl_len k xs
            have hot : ∀ j, (j = g ∨ ρ.ins id j) → base ≤ j := by
              rintro j (rfl | hj)
              · exact hbg
              · exact (hH.ins1 id j hlv hj).1
            have hown : OwnsS s w' base e 3 (ρ id) (markPl k xs).length (cur'.toList.take (xs.length * 3)) := by
              have hsz' : xs.length * 3 ≤ cur'.size := by rw [a2]; exact hsz
              have hil : (cur'.toList.take (xs.length * 3)).length = xs.length * 3 := by rw [List.length_take, Array.length_toList (xs := cur')]; exact Nat.min_eq_left hsz'
              rw [hl]
              cases s with
              | false => exact ⟨hil, .inr ⟨g, cap, cur', hv, hbg, a1, hle, hcm, hsz', rfl⟩⟩
              | true =>
                have ho' : w.ownsRow base e 3 (ρ id) xs.length inner := ho
                rcases ho'.2 with ⟨hn, _⟩ | ⟨g', cap', cur0, hv', _, hh', _, _, hs', _⟩
                · rw [hv] at hn; cases hn
                · rw [hv] at hv'
                  injection hv' with b1 b2 b3
                  injection b1 with b1
                  injection b1 with b1
                  subst b1; subst b3
                  rw [hh] at hh'
                  injection hh' with hh'
                  injection hh' with hh'
                  subst hh'
                  exact ⟨hil, .inr ⟨g, cap, cur', hv, hbg, a1, hle, hcm, by rw [a2]; exact hs', rfl⟩⟩
            obtain ⟨r1, r2⟩ := hH.dpSet hg (xs' := markPl k xs) a4.size (fun j hj n1 n2 => a4.keep j hj (by
              rintro (rfl | h2)
              · exact n1 (by rw [hv]; rfl)
              · exact n2 h2)) ⟨_, hown, a3⟩
            exact ⟨_, rfl, ρ, r1, r2, rfl, a4.kp hH.bs hot⟩
        · cases hk
      · cases hk
    · cases hk
  all_goals first | (rename_i hm _; cases hm; done) | (rename_i hm; cases hm; done) | (cases hk; done) | contradiction
end FN
/-! markDesk. -/
namespace FN
open Go Go.Proofs
noncomputable def E2 : Env' := withWr E0 (fun f => if f = 50 then some (.place 31) else if f = 51 then some .places else none)
theorem E2c : E2.cuts = [] := rfl
theorem e2_mine (d : Option Nat) : (d.map E2.mine).getD false = false := by cases d <;> rfl
theorem E2_ok : EnvOk Tryd.prog E2 := withWr_ok E0_ok (tab_cons w_markPlace_mk (tab_cons w_markPlaceS_mk tab_none))
theorem e2_place {R : Type} {p q : PV} {x k : Int} {mn : Bool} {h : Hp} {K : PV → Hp → Option R} : callK E2 50 [.agg [p, .int .i64 x, q], .int .i64 k] mn h K = markI p k (h ++ [some (.box 31 [p, .int .i64 x, q])]) fun k h => markI q k h fun k h => K (.int .i64 k) h := by kernel_rfl
theorem e2_places {R : Type} {z : PV} {k : Int} {mn : Bool} {h : Hp} {K : PV → Hp → Option R} : callK E2 51 [z, .int .i64 k] mn h K = markZ z k h fun k h => K (.int .i64 k) h := by kernel_rfl
noncomputable def dC : Code := Tryd.f14.body.getD .skip
theorem d_o0 : offOf Tryd.prog 34 0 = some (0, 31) := by kernel_rfl
theorem d_o1 : offOf Tryd.prog 34 1 = some (3, 32) := by kernel_rfl
theorem d_sz0 : szOf Tryd.prog 31 = 3 := by kernel_rfl
theorem d_sz1 : szOf Tryd.prog 32 = 1 := by kernel_rfl
theorem d_load0 {R : Type} {h : Hp} {id : Nat} {t : TypeId} {a b c d : PV} (hg : h.get id = some (.box t [a, b, c, d])) (K : PV → Option R) : loadK Tryd.prog 31 (.ptr id 0) h K = K (.agg [a, b, c]) := by
  have hu : ∃ u, Tryd.prog.underlying 31 = some u := ⟨_, Tryd.underlying31⟩
  obtain ⟨u, hu⟩ := hu
  have ha : isAggB Tryd.prog 31 = true := by kernel_rfl
  simp only [loadK, hg, readK, hu, ha, if_true, d_sz0]
  rfl
theorem d_load1 {R : Type} {h : Hp} {id : Nat} {t : TypeId} {a b c d : PV} (hg : h.get id = some (.box t [a, b, c, d])) (K : PV → Option R) : loadK Tryd.prog 32 (.ptr id 3) h K = K d := by
  have hu : ∃ u, Tryd.prog.underlying 32 = some u := ⟨_, Tryd.underlying32⟩
  obtain ⟨u, hu⟩ := hu
  have ha : isAggB Tryd.prog 32 = false := by kernel_rfl
  simp only [loadK, hg, readK, hu, ha, Bool.false_eq_true, if_false]
  rfl
theorem markZ_some {p : PV} {k : Int} {h : Hp} {R : Type} {F : Int → Hp → Option R} {r : R} (hk : markZ p k h F = some r) : oneP p = true ∧ ∃ k1 h2, (∀ (R : Type) (F : Int → Hp → Option R), markZ p k h F = F k1 h2) ∧ F k1 h2 = some r := by
  unfold markZ at hk
  split at hk
  · exact ⟨rfl, k, h, fun _ _ => rfl, hk⟩
  · rename_i id
    split at hk
    · rename_i s e ei xs hg
      split at hk
      · rename_i hc
        refine ⟨rfl, _, _, fun R F => ?_, hk⟩
        simp only [markZ, hg, hc, and_self, if_true]
      · cases hk
    · cases hk
  · cases hk
theorem d_run {R : Type} {p q z : PV} {x k k1 k2 k3 : Int} {h h2 h4 h6 : Hp} (hp : oneP p = true) (hq : oneP q = true) (hn : oneP z = true) (h1 : ∀ (R : Type) (F : Int → Hp → Option R), markI p k ((h ++ [some (.box 34 [p, .int .i64 x, q, z])]) ++ [some (.box 31 [p, .int .i64 x, q])]) F = F k1 h2) (h3 : ∀ (R : Type) (F : Int → Hp → Option R), markI q k1 h2 F = F k2 h4) (h5 : ∀ (R : Type) (F : Int → Hp → Option R), markZ z k2 h4 F = F k3 h6) (hb : Hp.get h4 h.length = some (.box 34 [p, .int .i64 x, q, z])) (K : AX → St → Option R) (a2 a3 a4 a5 a6 a7 a8 a9 a10 a11 a12 a13 : PV) :
    ∃ G : PV → List PV, (∀ v, (G v).getD 4 .junk = v) ∧ exCode Tryd.prog E2 dC ⟨[.agg [p, .int .i64 x, q, z], .int .i64 k, a2, a3, a4, a5, a6, a7, a8, a9, a10, a11, a12, a13], h⟩ K = K .ret ⟨G (.int .i64 k3), h6⟩ := by
  have hi : oneP (.int .i64 x) = true := rfl
  refine ⟨fun v => [.agg [p, .int .i64 x, q, z], v, .ptr h.length 0, a3, v, .ptr h.length 0, .agg [p, .int .i64 x, q], .int .i64 k, .int .i64 k2, .ptr h.length 3, z, .int .i64 k2, v, v], fun v => rfl, ?_⟩
  simp only [dC, Tryd.f14, Option.getD_some, exCode, cutS0 E2c]
  simp only [e2_mine, regOrd, Bool.false_eq_true, if_false, exOps, opK, ev, ofVal, cellsOf, List.all_cons, List.all_nil, hp, hq, hi, hn, Bool.and_true, if_true, List.getD_cons_zero, List.getD_cons_succ, putT, List.set_cons_zero, List.set_cons_succ, d_o0, d_o1, d_sz0, d_sz1, Nat.one_ne_zero, Nat.reduceEqDiff, Nat.zero_add]
  rw [d_load0 (get_last h _)]
  simp only [List.map_cons, List.map_nil, ev, List.getD_cons_zero, List.getD_cons_succ, e2_place, h1, h3]
  rw [d_load1 hb]
  simp only [e2_places, h5]
theorem w_markDesk_mk : MkOk Tryd.prog 14 (.desk 34 31) := by
  intro ps h h' p pin base w ρ us hk hI hH hus
  have fin : exCode Tryd.prog E2 (Tryd.f14.body.getD .skip) ⟨ps ++ List.replicate (Tryd.f14.ntmps - ps.length) .junk, h⟩ (endW Tryd.prog Tryd.f14) = some (p, h') := by
    unfold markK at hk
    split at hk
    case h_3 t t' p0 x q z k he =>
      injection he with he he'
      subst he; subst he'
      obtain ⟨o1, k1, h2, g1, g2, g3⟩ := markI_some hk
      obtain ⟨o2, k3, h4, g4, g5, g6⟩ := markI_some g2
      obtain ⟨o3, k5, h6, g8, g9⟩ := markZ_some g5
      have hb0 : Hp.get ((h ++ [some (.box 34 [p0, .int .i64 x, q, z])]) ++ [some (.box 31 [p0, .int .i64 x, q])]) h.length = some (.box 34 [p0, .int .i64 x, q, z]) := by
        have := get_last h (some (.box 34 [p0, .int .i64 x, q, z]))
        unfold Hp.get at this ⊢
        rw [List.getElem?_append_left (by simp)]
        exact this
      have hb := g6 _ _ _ (g3 h.length _ _ hb0)
      obtain ⟨G, hG, hrun⟩ := d_run (q := q) (x := x) o1 o2 o3 g1 g4 g8 hb (endW Tryd.prog Tryd.f14) .junk .junk .junk .junk .junk .junk .junk .junk .junk .junk .junk .junk
      have e : List.replicate (Tryd.f14.ntmps - 2) PV.junk = [.junk, .junk, .junk, .junk, .junk, .junk, .junk, .junk, .junk, .junk, .junk, .junk] := by kernel_rfl
      refine Eq.trans (congrArg (fun t => exCode Tryd.prog E2 (Tryd.f14.body.getD .skip) ⟨t, h⟩ (endW Tryd.prog Tryd.f14)) (show _ = [.agg [p0, .int .i64 x, q, z], .int .i64 k, .junk, .junk, .junk, .junk, .junk, .junk, .junk, .junk, .junk, .junk, .junk, .junk] from congrArg ([PV.agg [p0, .int .i64 x, q, z], .int .i64 k] ++ ·) e)) ?_
      refine hrun.trans ?_
      injection g9 with g9
      injection g9 with g9 g7
      subst g9; subst g7
      have hr : Tryd.f14.results.toList = [.tmp 4] := by kernel_rfl
      simp only [endW, hr, resPs, Option.map_some, Option.bind_some, hG]
    all_goals first | (cases hk; done) | (rename_i he; cases he; done) | (rename_i he _; cases he; done) | contradiction
  exact wr_of (E := E2) E2_ok E2c follows_ (fn := Tryd.f14) (c := Tryd.f14.body.getD .skip) (by kernel_rfl) (by kernel_rfl) rfl fin hI hH hus
end FN
set_option linter.unusedVariables false
namespace FN
open Go Go.Proofs
/-! loop.example/firingnets/laws.FnExactDeskDo -/
@[reducible] def w_FnExactDeskDo_sig : Sig := { ps := [some 4, some 3], pc := [.view .i64, .int .i64, .view .i64, .view .place, .int .i64, .int .i64, .int .i64], rs := [none], rc := [.bool] }
noncomputable def w_FnExactDeskDo_E : Env' := withWr { fn := fun f => if f = 8 then some ⟨w_szDesk_sig, w_szDesk_f⟩ else if f = 9 then some ⟨s_DeskDo_sig, s_DeskDo_f⟩ else if f = 10 then some ⟨w_toDesk_sig, w_toDesk_f⟩ else if f = 11 then some ⟨w_toDeed_sig, w_toDeed_f⟩ else if f = 12 then some ⟨i_DeskDo_sig, i_DeskDo_f⟩ else if f = 13 then some ⟨w_eqDesk_sig, w_eqDesk_f⟩ else if f = 15 then some ⟨w_heldDesk_sig, w_heldDesk_f⟩ else none, ck := ckT, cuts := [], mine := fun i => i == 18 || i == 23 || i == 25 || i == 26 || i == 30 || i == 34 || i == 35 || i == 40 || i == 49 || i == 50 || i == 54 || i == 60 || i == 70 || i == 73 || i == 81 || i == 83 || i == 84 || i == 89 || i == 98 } (fun f => if f = 14 then some (.desk 34 31) else none)
noncomputable def w_FnExactDeskDo_f (x : Ts w_FnExactDeskDo_sig.pc) : Option (Ts w_FnExactDeskDo_sig.rc) := runFn Tryd.prog (w_FnExactDeskDo_E) Tryd.f3 w_FnExactDeskDo_sig x
theorem w_FnExactDeskDo_f_eq (x0 : (List (Int))) (x1 : (Int)) (x2 : (List (Int))) (x3 : (List (List Int × Int × List Int))) (x4 : (Int)) (x5 : (Int)) (x6 : (Int)) : w_FnExactDeskDo_f (x0, x1, x2, x3, x4, x5, x6) = (Option.bind (w_szDesk_f (x0, x1, x2, x3, 1048576)) fun r1 => (cond ((decide (r1 < 0))) (some true) (Option.bind (w_toDesk_f (x0, x1, x2, x3)) fun r2 => (Option.bind (w_toDeed_f (x4, x5, x6)) fun r3 => (Option.bind (s_DeskDo_f (r2.1, r2.2.1, r2.2.2.1, r2.2.2.2, r3.1, r3.2.1, r3.2.2)) fun r4 => (Option.bind (w_toDesk_f (x0, x1, x2, x3)) fun r5 => (Option.bind (w_toDeed_f (x4, x5, x6)) fun r6 => (Option.bind (i_DeskDo_f (r5.1, r5.2.1, r5.2.2.1, r5.2.2.2, r6.1, r6.2.1, r6.2.2)) fun r7 => (Option.bind (w_eqDesk_f (r7.1, r7.2.1, r7.2.2.1, r7.2.2.2.1, r4.1, r4.2.1, r4.2.2.1, r4.2.2.2.1)) fun r8 => (cond ((!r8)) (some false) (cond ((!(r7.2.2.2.2 == r4.2.2.2.2))) (some false) (Option.bind (w_toDesk_f (x0, x1, x2, x3)) fun r9 => (Option.bind (w_eqDesk_f (r5.1, r5.2.1, r5.2.2.1, r5.2.2.2, r9.1, r9.2.1, r9.2.2.1, r9.2.2.2)) fun r10 => (cond ((!r10)) (some false) (if (0 : Int) ≤ 1 ∧ 1 + (List.length r5.1 : Int) ≤ 4611686018427387904 then (if (0 : Int) ≤ (1 + (List.length r5.1 : Int)) ∧ (1 + (List.length r5.1 : Int)) + (List.length r5.2.2.1 : Int) ≤ 4611686018427387904 then (if (0 : Int) ≤ ((1 + (List.length r5.1 : Int)) + (List.length r5.2.2.1 : Int)) ∧ ((1 + (List.length r5.1 : Int)) + (List.length r5.2.2.1 : Int)) + szPl r5.2.2.2 ≤ 4611686018427387904 then (cond ((decide ((((1 + (List.length r5.1 : Int)) + (List.length r5.2.2.1 : Int)) + szPl r5.2.2.2) < 0))) (some false) (Option.bind (w_eqDesk_f (r7.1, r7.2.1, r7.2.2.1, r7.2.2.2.1, r4.1, r4.2.1, r4.2.2.1, r4.2.2.2.1)) fun r11 => (cond ((!r11)) (some false) (cond ((!(r7.2.2.2.2 == r4.2.2.2.2))) (some false) (if (0 : Int) ≤ 1 ∧ 1 + (List.length r7.1 : Int) ≤ 4611686018427387904 then (if (0 : Int) ≤ (1 + (List.length r7.1 : Int)) ∧ (1 + (List.length r7.1 : Int)) + (List.length r7.2.2.1 : Int) ≤ 4611686018427387904 then (if (0 : Int) ≤ ((1 + (List.length r7.1 : Int)) + (List.length r7.2.2.1 : Int)) ∧ ((1 + (List.length r7.1 : Int)) + (List.length r7.2.2.1 : Int)) + szPl r7.2.2.2.1 ≤ 4611686018427387904 then (Option.bind (w_heldDesk_f ((markL 1 r7.1), r7.2.1, (markL (1 + (List.length r7.1 : Int)) r7.2.2.1), (markPl ((1 + (List.length r7.1 : Int)) + (List.length r7.2.2.1 : Int)) r7.2.2.2.1), 1)) fun r12 => (cond ((decide (r12 < 0))) (some false) (cond ((r12 != (((1 + (List.length r7.1 : Int)) + (List.length r7.2.2.1 : Int)) + szPl r7.2.2.2.1))) (some false) (Option.bind (w_toDesk_f (x0, x1, x2, x3)) fun r13 => (Option.bind (w_toDeed_f (x4, x5, x6)) fun r14 => (Option.bind (i_DeskDo_f (r13.1, r13.2.1, r13.2.2.1, r13.2.2.2, r14.1, r14.2.1, r14.2.2)) fun r15 => (Option.bind (w_eqDesk_f (r15.1, r15.2.1, r15.2.2.1, r15.2.2.2.1, r4.1, r4.2.1, r4.2.2.1, r4.2.2.2.1)) fun r16 => (cond ((!r16)) (some false) (cond ((!(r15.2.2.2.2 == r4.2.2.2.2))) (some false) (Option.bind (w_heldDesk_f ((markL 1 r7.1), r7.2.1, (markL (1 + (List.length r7.1 : Int)) r7.2.2.1), (markPl ((1 + (List.length r7.1 : Int)) + (List.length r7.2.2.1 : Int)) r7.2.2.2.1), 1)) fun r17 => (cond ((decide (r17 < 0))) (some false) (cond ((r17 != (((1 + (List.length r7.1 : Int)) + (List.length r7.2.2.1 : Int)) + szPl r7.2.2.2.1))) (some false) (some true))))))))))))) else none) else none) else none))))) else none) else none) else none))))))))))))))) := by
  refine Eq.trans (b := (Option.bind (w_szDesk_f (x0, x1, x2, x3, 1048576)) fun r1 => (cond ((decide (r1 < 0))) (some true) (same [(Option.bind (w_toDesk_f (x0, x1, x2, x3)) fun r2 => (same [(Option.bind (w_toDeed_f (x4, x5, x6)) fun r3 => (same [(Option.bind (s_DeskDo_f (r2.1, r2.2.1, r2.2.2.1, r2.2.2.2, r3.1, r3.2.1, r3.2.2)) fun r4 => (Option.bind (w_toDesk_f (x0, x1, x2, x3)) fun r5 => (same [(Option.bind (w_toDeed_f (x4, x5, x6)) fun r6 => (same [(Option.bind (i_DeskDo_f (r5.1, r5.2.1, r5.2.2.1, r5.2.2.2, r6.1, r6.2.1, r6.2.2)) fun r7 => (Option.bind (w_eqDesk_f (r7.1, r7.2.1, r7.2.2.1, r7.2.2.2.1, r4.1, r4.2.1, r4.2.2.1, r4.2.2.2.1)) fun r8 => (cond ((!r8)) (some false) (cond ((!(r7.2.2.2.2 == r4.2.2.2.2))) (some false) (Option.bind (w_toDesk_f (x0, x1, x2, x3)) fun r9 => (Option.bind (w_eqDesk_f (r5.1, r5.2.1, r5.2.2.1, r5.2.2.2, r9.1, r9.2.1, r9.2.2.1, r9.2.2.2)) fun r10 => (cond ((!r10)) (some false) (if (0 : Int) ≤ 1 ∧ 1 + (List.length r5.1 : Int) ≤ 4611686018427387904 then (if (0 : Int) ≤ (1 + (List.length r5.1 : Int)) ∧ (1 + (List.length r5.1 : Int)) + (List.length r5.2.2.1 : Int) ≤ 4611686018427387904 then (if (0 : Int) ≤ ((1 + (List.length r5.1 : Int)) + (List.length r5.2.2.1 : Int)) ∧ ((1 + (List.length r5.1 : Int)) + (List.length r5.2.2.1 : Int)) + szPl r5.2.2.2 ≤ 4611686018427387904 then (cond ((decide ((((1 + (List.length r5.1 : Int)) + (List.length r5.2.2.1 : Int)) + szPl r5.2.2.2) < 0))) (some false) (Option.bind (w_eqDesk_f (r7.1, r7.2.1, r7.2.2.1, r7.2.2.2.1, r4.1, r4.2.1, r4.2.2.1, r4.2.2.2.1)) fun r11 => (cond ((!r11)) (some false) (cond ((!(r7.2.2.2.2 == r4.2.2.2.2))) (some false) (if (0 : Int) ≤ 1 ∧ 1 + (List.length r7.1 : Int) ≤ 4611686018427387904 then (if (0 : Int) ≤ (1 + (List.length r7.1 : Int)) ∧ (1 + (List.length r7.1 : Int)) + (List.length r7.2.2.1 : Int) ≤ 4611686018427387904 then (if (0 : Int) ≤ ((1 + (List.length r7.1 : Int)) + (List.length r7.2.2.1 : Int)) ∧ ((1 + (List.length r7.1 : Int)) + (List.length r7.2.2.1 : Int)) + szPl r7.2.2.2.1 ≤ 4611686018427387904 then (Option.bind (w_heldDesk_f ((markL 1 r7.1), r7.2.1, (markL (1 + (List.length r7.1 : Int)) r7.2.2.1), (markPl ((1 + (List.length r7.1 : Int)) + (List.length r7.2.2.1 : Int)) r7.2.2.2.1), 1)) fun r12 => (cond ((decide (r12 < 0))) (some false) (cond ((r12 != (((1 + (List.length r7.1 : Int)) + (List.length r7.2.2.1 : Int)) + szPl r7.2.2.2.1))) (some false) (same [(Option.bind (w_toDesk_f (x0, x1, x2, x3)) fun r13 => (same [(Option.bind (w_toDeed_f (x4, x5, x6)) fun r14 => (same [(Option.bind (i_DeskDo_f (r13.1, r13.2.1, r13.2.2.1, r13.2.2.2, r14.1, r14.2.1, r14.2.2)) fun r15 => (Option.bind (w_eqDesk_f (r15.1, r15.2.1, r15.2.2.1, r15.2.2.2.1, r4.1, r4.2.1, r4.2.2.1, r4.2.2.2.1)) fun r16 => (cond ((!r16)) (some false) (cond ((!(r15.2.2.2.2 == r4.2.2.2.2))) (some false) (Option.bind (w_heldDesk_f ((markL 1 r7.1), r7.2.1, (markL (1 + (List.length r7.1 : Int)) r7.2.2.1), (markPl ((1 + (List.length r7.1 : Int)) + (List.length r7.2.2.1 : Int)) r7.2.2.2.1), 1)) fun r17 => (cond ((decide (r17 < 0))) (some false) (cond ((r17 != (((1 + (List.length r7.1 : Int)) + (List.length r7.2.2.1 : Int)) + szPl r7.2.2.2.1))) (some false) (some true)))))))), (Option.bind (i_DeskDo_f (r13.1, r13.2.1, r13.2.2.1, r13.2.2.2, r14.1, r14.2.1, r14.2.2)) fun r15 => (Option.bind (w_eqDesk_f (r15.1, r15.2.1, r15.2.2.1, r15.2.2.2.1, r4.1, r4.2.1, r4.2.2.1, r4.2.2.2.1)) fun r16 => (cond ((!r16)) (some false) (cond ((!(r15.2.2.2.2 == r4.2.2.2.2))) (some false) (Option.bind (w_heldDesk_f ((markL 1 r7.1), r7.2.1, (markL (1 + (List.length r7.1 : Int)) r7.2.2.1), (markPl ((1 + (List.length r7.1 : Int)) + (List.length r7.2.2.1 : Int)) r7.2.2.2.1), 1)) fun r17 => (cond ((decide (r17 < 0))) (some false) (cond ((r17 != (((1 + (List.length r7.1 : Int)) + (List.length r7.2.2.1 : Int)) + szPl r7.2.2.2.1))) (some false) (some true))))))))])), (Option.bind (w_toDeed_f (x4, x5, x6)) fun r14 => (Option.bind (i_DeskDo_f (r13.1, r13.2.1, r13.2.2.1, r13.2.2.2, r14.1, r14.2.1, r14.2.2)) fun r15 => (Option.bind (w_eqDesk_f (r15.1, r15.2.1, r15.2.2.1, r15.2.2.2.1, r4.1, r4.2.1, r4.2.2.1, r4.2.2.2.1)) fun r16 => (cond ((!r16)) (some false) (cond ((!(r15.2.2.2.2 == r4.2.2.2.2))) (some false) (Option.bind (w_heldDesk_f ((markL 1 r7.1), r7.2.1, (markL (1 + (List.length r7.1 : Int)) r7.2.2.1), (markPl ((1 + (List.length r7.1 : Int)) + (List.length r7.2.2.1 : Int)) r7.2.2.2.1), 1)) fun r17 => (cond ((decide (r17 < 0))) (some false) (cond ((r17 != (((1 + (List.length r7.1 : Int)) + (List.length r7.2.2.1 : Int)) + szPl r7.2.2.2.1))) (some false) (some true)))))))))])), (Option.bind (w_toDesk_f (x0, x1, x2, x3)) fun r13 => (Option.bind (w_toDeed_f (x4, x5, x6)) fun r14 => (Option.bind (i_DeskDo_f (r13.1, r13.2.1, r13.2.2.1, r13.2.2.2, r14.1, r14.2.1, r14.2.2)) fun r15 => (Option.bind (w_eqDesk_f (r15.1, r15.2.1, r15.2.2.1, r15.2.2.2.1, r4.1, r4.2.1, r4.2.2.1, r4.2.2.2.1)) fun r16 => (cond ((!r16)) (some false) (cond ((!(r15.2.2.2.2 == r4.2.2.2.2))) (some false) (Option.bind (w_heldDesk_f ((markL 1 r7.1), r7.2.1, (markL (1 + (List.length r7.1 : Int)) r7.2.2.1), (markPl ((1 + (List.length r7.1 : Int)) + (List.length r7.2.2.1 : Int)) r7.2.2.2.1), 1)) fun r17 => (cond ((decide (r17 < 0))) (some false) (cond ((r17 != (((1 + (List.length r7.1 : Int)) + (List.length r7.2.2.1 : Int)) + szPl r7.2.2.2.1))) (some false) (some true))))))))))])))) else none) else none) else none))))) else none) else none) else none)))))))), (Option.bind (i_DeskDo_f (r5.1, r5.2.1, r5.2.2.1, r5.2.2.2, r6.1, r6.2.1, r6.2.2)) fun r7 => (Option.bind (w_eqDesk_f (r7.1, r7.2.1, r7.2.2.1, r7.2.2.2.1, r4.1, r4.2.1, r4.2.2.1, r4.2.2.2.1)) fun r8 => (cond ((!r8)) (some false) (cond ((!(r7.2.2.2.2 == r4.2.2.2.2))) (some false) (Option.bind (w_toDesk_f (x0, x1, x2, x3)) fun r9 => (Option.bind (w_eqDesk_f (r5.1, r5.2.1, r5.2.2.1, r5.2.2.2, r9.1, r9.2.1, r9.2.2.1, r9.2.2.2)) fun r10 => (cond ((!r10)) (some false) (if (0 : Int) ≤ 1 ∧ 1 + (List.length r5.1 : Int) ≤ 4611686018427387904 then (if (0 : Int) ≤ (1 + (List.length r5.1 : Int)) ∧ (1 + (List.length r5.1 : Int)) + (List.length r5.2.2.1 : Int) ≤ 4611686018427387904 then (if (0 : Int) ≤ ((1 + (List.length r5.1 : Int)) + (List.length r5.2.2.1 : Int)) ∧ ((1 + (List.length r5.1 : Int)) + (List.length r5.2.2.1 : Int)) + szPl r5.2.2.2 ≤ 4611686018427387904 then (cond ((decide ((((1 + (List.length r5.1 : Int)) + (List.length r5.2.2.1 : Int)) + szPl r5.2.2.2) < 0))) (some false) (Option.bind (w_eqDesk_f (r7.1, r7.2.1, r7.2.2.1, r7.2.2.2.1, r4.1, r4.2.1, r4.2.2.1, r4.2.2.2.1)) fun r11 => (cond ((!r11)) (some false) (cond ((!(r7.2.2.2.2 == r4.2.2.2.2))) (some false) (if (0 : Int) ≤ 1 ∧ 1 + (List.length r7.1 : Int) ≤ 4611686018427387904 then (if (0 : Int) ≤ (1 + (List.length r7.1 : Int)) ∧ (1 + (List.length r7.1 : Int)) + (List.length r7.2.2.1 : Int) ≤ 4611686018427387904 then (if (0 : Int) ≤ ((1 + (List.length r7.1 : Int)) + (List.length r7.2.2.1 : Int)) ∧ ((1 + (List.length r7.1 : Int)) + (List.length r7.2.2.1 : Int)) + szPl r7.2.2.2.1 ≤ 4611686018427387904 then (Option.bind (w_heldDesk_f ((markL 1 r7.1), r7.2.1, (markL (1 + (List.length r7.1 : Int)) r7.2.2.1), (markPl ((1 + (List.length r7.1 : Int)) + (List.length r7.2.2.1 : Int)) r7.2.2.2.1), 1)) fun r12 => (cond ((decide (r12 < 0))) (some false) (cond ((r12 != (((1 + (List.length r7.1 : Int)) + (List.length r7.2.2.1 : Int)) + szPl r7.2.2.2.1))) (some false) (same [(Option.bind (w_toDesk_f (x0, x1, x2, x3)) fun r13 => (same [(Option.bind (w_toDeed_f (x4, x5, x6)) fun r14 => (same [(Option.bind (i_DeskDo_f (r13.1, r13.2.1, r13.2.2.1, r13.2.2.2, r14.1, r14.2.1, r14.2.2)) fun r15 => (Option.bind (w_eqDesk_f (r15.1, r15.2.1, r15.2.2.1, r15.2.2.2.1, r4.1, r4.2.1, r4.2.2.1, r4.2.2.2.1)) fun r16 => (cond ((!r16)) (some false) (cond ((!(r15.2.2.2.2 == r4.2.2.2.2))) (some false) (Option.bind (w_heldDesk_f ((markL 1 r7.1), r7.2.1, (markL (1 + (List.length r7.1 : Int)) r7.2.2.1), (markPl ((1 + (List.length r7.1 : Int)) + (List.length r7.2.2.1 : Int)) r7.2.2.2.1), 1)) fun r17 => (cond ((decide (r17 < 0))) (some false) (cond ((r17 != (((1 + (List.length r7.1 : Int)) + (List.length r7.2.2.1 : Int)) + szPl r7.2.2.2.1))) (some false) (some true)))))))), (Option.bind (i_DeskDo_f (r13.1, r13.2.1, r13.2.2.1, r13.2.2.2, r14.1, r14.2.1, r14.2.2)) fun r15 => (Option.bind (w_eqDesk_f (r15.1, r15.2.1, r15.2.2.1, r15.2.2.2.1, r4.1, r4.2.1, r4.2.2.1, r4.2.2.2.1)) fun r16 => (cond ((!r16)) (some false) (cond ((!(r15.2.2.2.2 == r4.2.2.2.2))) (some false) (Option.bind (w_heldDesk_f ((markL 1 r7.1), r7.2.1, (markL (1 + (List.length r7.1 : Int)) r7.2.2.1), (markPl ((1 + (List.length r7.1 : Int)) + (List.length r7.2.2.1 : Int)) r7.2.2.2.1), 1)) fun r17 => (cond ((decide (r17 < 0))) (some false) (cond ((r17 != (((1 + (List.length r7.1 : Int)) + (List.length r7.2.2.1 : Int)) + szPl r7.2.2.2.1))) (some false) (some true))))))))])), (Option.bind (w_toDeed_f (x4, x5, x6)) fun r14 => (Option.bind (i_DeskDo_f (r13.1, r13.2.1, r13.2.2.1, r13.2.2.2, r14.1, r14.2.1, r14.2.2)) fun r15 => (Option.bind (w_eqDesk_f (r15.1, r15.2.1, r15.2.2.1, r15.2.2.2.1, r4.1, r4.2.1, r4.2.2.1, r4.2.2.2.1)) fun r16 => (cond ((!r16)) (some false) (cond ((!(r15.2.2.2.2 == r4.2.2.2.2))) (some false) (Option.bind (w_heldDesk_f ((markL 1 r7.1), r7.2.1, (markL (1 + (List.length r7.1 : Int)) r7.2.2.1), (markPl ((1 + (List.length r7.1 : Int)) + (List.length r7.2.2.1 : Int)) r7.2.2.2.1), 1)) fun r17 => (cond ((decide (r17 < 0))) (some false) (cond ((r17 != (((1 + (List.length r7.1 : Int)) + (List.length r7.2.2.1 : Int)) + szPl r7.2.2.2.1))) (some false) (some true)))))))))])), (Option.bind (w_toDesk_f (x0, x1, x2, x3)) fun r13 => (Option.bind (w_toDeed_f (x4, x5, x6)) fun r14 => (Option.bind (i_DeskDo_f (r13.1, r13.2.1, r13.2.2.1, r13.2.2.2, r14.1, r14.2.1, r14.2.2)) fun r15 => (Option.bind (w_eqDesk_f (r15.1, r15.2.1, r15.2.2.1, r15.2.2.2.1, r4.1, r4.2.1, r4.2.2.1, r4.2.2.2.1)) fun r16 => (cond ((!r16)) (some false) (cond ((!(r15.2.2.2.2 == r4.2.2.2.2))) (some false) (Option.bind (w_heldDesk_f ((markL 1 r7.1), r7.2.1, (markL (1 + (List.length r7.1 : Int)) r7.2.2.1), (markPl ((1 + (List.length r7.1 : Int)) + (List.length r7.2.2.1 : Int)) r7.2.2.2.1), 1)) fun r17 => (cond ((decide (r17 < 0))) (some false) (cond ((r17 != (((1 + (List.length r7.1 : Int)) + (List.length r7.2.2.1 : Int)) + szPl r7.2.2.2.1))) (some false) (some true))))))))))])))) else none) else none) else none))))) else none) else none) else none))))))))])), (Option.bind (w_toDeed_f (x4, x5, x6)) fun r6 => (Option.bind (i_DeskDo_f (r5.1, r5.2.1, r5.2.2.1, r5.2.2.2, r6.1, r6.2.1, r6.2.2)) fun r7 => (Option.bind (w_eqDesk_f (r7.1, r7.2.1, r7.2.2.1, r7.2.2.2.1, r4.1, r4.2.1, r4.2.2.1, r4.2.2.2.1)) fun r8 => (cond ((!r8)) (some false) (cond ((!(r7.2.2.2.2 == r4.2.2.2.2))) (some false) (Option.bind (w_toDesk_f (x0, x1, x2, x3)) fun r9 => (Option.bind (w_eqDesk_f (r5.1, r5.2.1, r5.2.2.1, r5.2.2.2, r9.1, r9.2.1, r9.2.2.1, r9.2.2.2)) fun r10 => (cond ((!r10)) (some false) (if (0 : Int) ≤ 1 ∧ 1 + (List.length r5.1 : Int) ≤ 4611686018427387904 then (if (0 : Int) ≤ (1 + (List.length r5.1 : Int)) ∧ (1 + (List.length r5.1 : Int)) + (List.length r5.2.2.1 : Int) ≤ 4611686018427387904 then (if (0 : Int) ≤ ((1 + (List.length r5.1 : Int)) + (List.length r5.2.2.1 : Int)) ∧ ((1 + (List.length r5.1 : Int)) + (List.length r5.2.2.1 : Int)) + szPl r5.2.2.2 ≤ 4611686018427387904 then (cond ((decide ((((1 + (List.length r5.1 : Int)) + (List.length r5.2.2.1 : Int)) + szPl r5.2.2.2) < 0))) (some false) (Option.bind (w_eqDesk_f (r7.1, r7.2.1, r7.2.2.1, r7.2.2.2.1, r4.1, r4.2.1, r4.2.2.1, r4.2.2.2.1)) fun r11 => (cond ((!r11)) (some false) (cond ((!(r7.2.2.2.2 == r4.2.2.2.2))) (some false) (if (0 : Int) ≤ 1 ∧ 1 + (List.length r7.1 : Int) ≤ 4611686018427387904 then (if (0 : Int) ≤ (1 + (List.length r7.1 : Int)) ∧ (1 + (List.length r7.1 : Int)) + (List.length r7.2.2.1 : Int) ≤ 4611686018427387904 then (if (0 : Int) ≤ ((1 + (List.length r7.1 : Int)) + (List.length r7.2.2.1 : Int)) ∧ ((1 + (List.length r7.1 : Int)) + (List.length r7.2.2.1 : Int)) + szPl r7.2.2.2.1 ≤ 4611686018427387904 then (Option.bind (w_heldDesk_f ((markL 1 r7.1), r7.2.1, (markL (1 + (List.length r7.1 : Int)) r7.2.2.1), (markPl ((1 + (List.length r7.1 : Int)) + (List.length r7.2.2.1 : Int)) r7.2.2.2.1), 1)) fun r12 => (cond ((decide (r12 < 0))) (some false) (cond ((r12 != (((1 + (List.length r7.1 : Int)) + (List.length r7.2.2.1 : Int)) + szPl r7.2.2.2.1))) (some false) (same [(Option.bind (w_toDesk_f (x0, x1, x2, x3)) fun r13 => (same [(Option.bind (w_toDeed_f (x4, x5, x6)) fun r14 => (same [(Option.bind (i_DeskDo_f (r13.1, r13.2.1, r13.2.2.1, r13.2.2.2, r14.1, r14.2.1, r14.2.2)) fun r15 => (Option.bind (w_eqDesk_f (r15.1, r15.2.1, r15.2.2.1, r15.2.2.2.1, r4.1, r4.2.1, r4.2.2.1, r4.2.2.2.1)) fun r16 => (cond ((!r16)) (some false) (cond ((!(r15.2.2.2.2 == r4.2.2.2.2))) (some false) (Option.bind (w_heldDesk_f ((markL 1 r7.1), r7.2.1, (markL (1 + (List.length r7.1 : Int)) r7.2.2.1), (markPl ((1 + (List.length r7.1 : Int)) + (List.length r7.2.2.1 : Int)) r7.2.2.2.1), 1)) fun r17 => (cond ((decide (r17 < 0))) (some false) (cond ((r17 != (((1 + (List.length r7.1 : Int)) + (List.length r7.2.2.1 : Int)) + szPl r7.2.2.2.1))) (some false) (some true)))))))), (Option.bind (i_DeskDo_f (r13.1, r13.2.1, r13.2.2.1, r13.2.2.2, r14.1, r14.2.1, r14.2.2)) fun r15 => (Option.bind (w_eqDesk_f (r15.1, r15.2.1, r15.2.2.1, r15.2.2.2.1, r4.1, r4.2.1, r4.2.2.1, r4.2.2.2.1)) fun r16 => (cond ((!r16)) (some false) (cond ((!(r15.2.2.2.2 == r4.2.2.2.2))) (some false) (Option.bind (w_heldDesk_f ((markL 1 r7.1), r7.2.1, (markL (1 + (List.length r7.1 : Int)) r7.2.2.1), (markPl ((1 + (List.length r7.1 : Int)) + (List.length r7.2.2.1 : Int)) r7.2.2.2.1), 1)) fun r17 => (cond ((decide (r17 < 0))) (some false) (cond ((r17 != (((1 + (List.length r7.1 : Int)) + (List.length r7.2.2.1 : Int)) + szPl r7.2.2.2.1))) (some false) (some true))))))))])), (Option.bind (w_toDeed_f (x4, x5, x6)) fun r14 => (Option.bind (i_DeskDo_f (r13.1, r13.2.1, r13.2.2.1, r13.2.2.2, r14.1, r14.2.1, r14.2.2)) fun r15 => (Option.bind (w_eqDesk_f (r15.1, r15.2.1, r15.2.2.1, r15.2.2.2.1, r4.1, r4.2.1, r4.2.2.1, r4.2.2.2.1)) fun r16 => (cond ((!r16)) (some false) (cond ((!(r15.2.2.2.2 == r4.2.2.2.2))) (some false) (Option.bind (w_heldDesk_f ((markL 1 r7.1), r7.2.1, (markL (1 + (List.length r7.1 : Int)) r7.2.2.1), (markPl ((1 + (List.length r7.1 : Int)) + (List.length r7.2.2.1 : Int)) r7.2.2.2.1), 1)) fun r17 => (cond ((decide (r17 < 0))) (some false) (cond ((r17 != (((1 + (List.length r7.1 : Int)) + (List.length r7.2.2.1 : Int)) + szPl r7.2.2.2.1))) (some false) (some true)))))))))])), (Option.bind (w_toDesk_f (x0, x1, x2, x3)) fun r13 => (Option.bind (w_toDeed_f (x4, x5, x6)) fun r14 => (Option.bind (i_DeskDo_f (r13.1, r13.2.1, r13.2.2.1, r13.2.2.2, r14.1, r14.2.1, r14.2.2)) fun r15 => (Option.bind (w_eqDesk_f (r15.1, r15.2.1, r15.2.2.1, r15.2.2.2.1, r4.1, r4.2.1, r4.2.2.1, r4.2.2.2.1)) fun r16 => (cond ((!r16)) (some false) (cond ((!(r15.2.2.2.2 == r4.2.2.2.2))) (some false) (Option.bind (w_heldDesk_f ((markL 1 r7.1), r7.2.1, (markL (1 + (List.length r7.1 : Int)) r7.2.2.1), (markPl ((1 + (List.length r7.1 : Int)) + (List.length r7.2.2.1 : Int)) r7.2.2.2.1), 1)) fun r17 => (cond ((decide (r17 < 0))) (some false) (cond ((r17 != (((1 + (List.length r7.1 : Int)) + (List.length r7.2.2.1 : Int)) + szPl r7.2.2.2.1))) (some false) (some true))))))))))])))) else none) else none) else none))))) else none) else none) else none)))))))))]))), (Option.bind (s_DeskDo_f (r2.1, r2.2.1, r2.2.2.1, r2.2.2.2, r3.1, r3.2.1, r3.2.2)) fun r4 => (Option.bind (w_toDesk_f (x0, x1, x2, x3)) fun r5 => (same [(Option.bind (w_toDeed_f (x4, x5, x6)) fun r6 => (same [(Option.bind (i_DeskDo_f (r5.1, r5.2.1, r5.2.2.1, r5.2.2.2, r6.1, r6.2.1, r6.2.2)) fun r7 => (Option.bind (w_eqDesk_f (r7.1, r7.2.1, r7.2.2.1, r7.2.2.2.1, r4.1, r4.2.1, r4.2.2.1, r4.2.2.2.1)) fun r8 => (cond ((!r8)) (some false) (cond ((!(r7.2.2.2.2 == r4.2.2.2.2))) (some false) (Option.bind (w_toDesk_f (x0, x1, x2, x3)) fun r9 => (Option.bind (w_eqDesk_f (r5.1, r5.2.1, r5.2.2.1, r5.2.2.2, r9.1, r9.2.1, r9.2.2.1, r9.2.2.2)) fun r10 => (cond ((!r10)) (some false) (if (0 : Int) ≤ 1 ∧ 1 + (List.length r5.1 : Int) ≤ 4611686018427387904 then (if (0 : Int) ≤ (1 + (List.length r5.1 : Int)) ∧ (1 + (List.length r5.1 : Int)) + (List.length r5.2.2.1 : Int) ≤ 4611686018427387904 then (if (0 : Int) ≤ ((1 + (List.length r5.1 : Int)) + (List.length r5.2.2.1 : Int)) ∧ ((1 + (List.length r5.1 : Int)) + (List.length r5.2.2.1 : Int)) + szPl r5.2.2.2 ≤ 4611686018427387904 then (cond ((decide ((((1 + (List.length r5.1 : Int)) + (List.length r5.2.2.1 : Int)) + szPl r5.2.2.2) < 0))) (some false) (Option.bind (w_eqDesk_f (r7.1, r7.2.1, r7.2.2.1, r7.2.2.2.1, r4.1, r4.2.1, r4.2.2.1, r4.2.2.2.1)) fun r11 => (cond ((!r11)) (some false) (cond ((!(r7.2.2.2.2 == r4.2.2.2.2))) (some false) (if (0 : Int) ≤ 1 ∧ 1 + (List.length r7.1 : Int) ≤ 4611686018427387904 then (if (0 : Int) ≤ (1 + (List.length r7.1 : Int)) ∧ (1 + (List.length r7.1 : Int)) + (List.length r7.2.2.1 : Int) ≤ 4611686018427387904 then (if (0 : Int) ≤ ((1 + (List.length r7.1 : Int)) + (List.length r7.2.2.1 : Int)) ∧ ((1 + (List.length r7.1 : Int)) + (List.length r7.2.2.1 : Int)) + szPl r7.2.2.2.1 ≤ 4611686018427387904 then (Option.bind (w_heldDesk_f ((markL 1 r7.1), r7.2.1, (markL (1 + (List.length r7.1 : Int)) r7.2.2.1), (markPl ((1 + (List.length r7.1 : Int)) + (List.length r7.2.2.1 : Int)) r7.2.2.2.1), 1)) fun r12 => (cond ((decide (r12 < 0))) (some false) (cond ((r12 != (((1 + (List.length r7.1 : Int)) + (List.length r7.2.2.1 : Int)) + szPl r7.2.2.2.1))) (some false) (same [(Option.bind (w_toDesk_f (x0, x1, x2, x3)) fun r13 => (same [(Option.bind (w_toDeed_f (x4, x5, x6)) fun r14 => (same [(Option.bind (i_DeskDo_f (r13.1, r13.2.1, r13.2.2.1, r13.2.2.2, r14.1, r14.2.1, r14.2.2)) fun r15 => (Option.bind (w_eqDesk_f (r15.1, r15.2.1, r15.2.2.1, r15.2.2.2.1, r4.1, r4.2.1, r4.2.2.1, r4.2.2.2.1)) fun r16 => (cond ((!r16)) (some false) (cond ((!(r15.2.2.2.2 == r4.2.2.2.2))) (some false) (Option.bind (w_heldDesk_f ((markL 1 r7.1), r7.2.1, (markL (1 + (List.length r7.1 : Int)) r7.2.2.1), (markPl ((1 + (List.length r7.1 : Int)) + (List.length r7.2.2.1 : Int)) r7.2.2.2.1), 1)) fun r17 => (cond ((decide (r17 < 0))) (some false) (cond ((r17 != (((1 + (List.length r7.1 : Int)) + (List.length r7.2.2.1 : Int)) + szPl r7.2.2.2.1))) (some false) (some true)))))))), (Option.bind (i_DeskDo_f (r13.1, r13.2.1, r13.2.2.1, r13.2.2.2, r14.1, r14.2.1, r14.2.2)) fun r15 => (Option.bind (w_eqDesk_f (r15.1, r15.2.1, r15.2.2.1, r15.2.2.2.1, r4.1, r4.2.1, r4.2.2.1, r4.2.2.2.1)) fun r16 => (cond ((!r16)) (some false) (cond ((!(r15.2.2.2.2 == r4.2.2.2.2))) (some false) (Option.bind (w_heldDesk_f ((markL 1 r7.1), r7.2.1, (markL (1 + (List.length r7.1 : Int)) r7.2.2.1), (markPl ((1 + (List.length r7.1 : Int)) + (List.length r7.2.2.1 : Int)) r7.2.2.2.1), 1)) fun r17 => (cond ((decide (r17 < 0))) (some false) (cond ((r17 != (((1 + (List.length r7.1 : Int)) + (List.length r7.2.2.1 : Int)) + szPl r7.2.2.2.1))) (some false) (some true))))))))])), (Option.bind (w_toDeed_f (x4, x5, x6)) fun r14 => (Option.bind (i_DeskDo_f (r13.1, r13.2.1, r13.2.2.1, r13.2.2.2, r14.1, r14.2.1, r14.2.2)) fun r15 => (Option.bind (w_eqDesk_f (r15.1, r15.2.1, r15.2.2.1, r15.2.2.2.1, r4.1, r4.2.1, r4.2.2.1, r4.2.2.2.1)) fun r16 => (cond ((!r16)) (some false) (cond ((!(r15.2.2.2.2 == r4.2.2.2.2))) (some false) (Option.bind (w_heldDesk_f ((markL 1 r7.1), r7.2.1, (markL (1 + (List.length r7.1 : Int)) r7.2.2.1), (markPl ((1 + (List.length r7.1 : Int)) + (List.length r7.2.2.1 : Int)) r7.2.2.2.1), 1)) fun r17 => (cond ((decide (r17 < 0))) (some false) (cond ((r17 != (((1 + (List.length r7.1 : Int)) + (List.length r7.2.2.1 : Int)) + szPl r7.2.2.2.1))) (some false) (some true)))))))))])), (Option.bind (w_toDesk_f (x0, x1, x2, x3)) fun r13 => (Option.bind (w_toDeed_f (x4, x5, x6)) fun r14 => (Option.bind (i_DeskDo_f (r13.1, r13.2.1, r13.2.2.1, r13.2.2.2, r14.1, r14.2.1, r14.2.2)) fun r15 => (Option.bind (w_eqDesk_f (r15.1, r15.2.1, r15.2.2.1, r15.2.2.2.1, r4.1, r4.2.1, r4.2.2.1, r4.2.2.2.1)) fun r16 => (cond ((!r16)) (some false) (cond ((!(r15.2.2.2.2 == r4.2.2.2.2))) (some false) (Option.bind (w_heldDesk_f ((markL 1 r7.1), r7.2.1, (markL (1 + (List.length r7.1 : Int)) r7.2.2.1), (markPl ((1 + (List.length r7.1 : Int)) + (List.length r7.2.2.1 : Int)) r7.2.2.2.1), 1)) fun r17 => (cond ((decide (r17 < 0))) (some false) (cond ((r17 != (((1 + (List.length r7.1 : Int)) + (List.length r7.2.2.1 : Int)) + szPl r7.2.2.2.1))) (some false) (some true))))))))))])))) else none) else none) else none))))) else none) else none) else none)))))))), (Option.bind (i_DeskDo_f (r5.1, r5.2.1, r5.2.2.1, r5.2.2.2, r6.1, r6.2.1, r6.2.2)) fun r7 => (Option.bind (w_eqDesk_f (r7.1, r7.2.1, r7.2.2.1, r7.2.2.2.1, r4.1, r4.2.1, r4.2.2.1, r4.2.2.2.1)) fun r8 => (cond ((!r8)) (some false) (cond ((!(r7.2.2.2.2 == r4.2.2.2.2))) (some false) (Option.bind (w_toDesk_f (x0, x1, x2, x3)) fun r9 => (Option.bind (w_eqDesk_f (r5.1, r5.2.1, r5.2.2.1, r5.2.2.2, r9.1, r9.2.1, r9.2.2.1, r9.2.2.2)) fun r10 => (cond ((!r10)) (some false) (if (0 : Int) ≤ 1 ∧ 1 + (List.length r5.1 : Int) ≤ 4611686018427387904 then (if (0 : Int) ≤ (1 + (List.length r5.1 : Int)) ∧ (1 + (List.length r5.1 : Int)) + (List.length r5.2.2.1 : Int) ≤ 4611686018427387904 then (if (0 : Int) ≤ ((1 + (List.length r5.1 : Int)) + (List.length r5.2.2.1 : Int)) ∧ ((1 + (List.length r5.1 : Int)) + (List.length r5.2.2.1 : Int)) + szPl r5.2.2.2 ≤ 4611686018427387904 then (cond ((decide ((((1 + (List.length r5.1 : Int)) + (List.length r5.2.2.1 : Int)) + szPl r5.2.2.2) < 0))) (some false) (Option.bind (w_eqDesk_f (r7.1, r7.2.1, r7.2.2.1, r7.2.2.2.1, r4.1, r4.2.1, r4.2.2.1, r4.2.2.2.1)) fun r11 => (cond ((!r11)) (some false) (cond ((!(r7.2.2.2.2 == r4.2.2.2.2))) (some false) (if (0 : Int) ≤ 1 ∧ 1 + (List.length r7.1 : Int) ≤ 4611686018427387904 then (if (0 : Int) ≤ (1 + (List.length r7.1 : Int)) ∧ (1 + (List.length r7.1 : Int)) + (List.length r7.2.2.1 : Int) ≤ 4611686018427387904 then (if (0 : Int) ≤ ((1 + (List.length r7.1 : Int)) + (List.length r7.2.2.1 : Int)) ∧ ((1 + (List.length r7.1 : Int)) + (List.length r7.2.2.1 : Int)) + szPl r7.2.2.2.1 ≤ 4611686018427387904 then (Option.bind (w_heldDesk_f ((markL 1 r7.1), r7.2.1, (markL (1 + (List.length r7.1 : Int)) r7.2.2.1), (markPl ((1 + (List.length r7.1 : Int)) + (List.length r7.2.2.1 : Int)) r7.2.2.2.1), 1)) fun r12 => (cond ((decide (r12 < 0))) (some false) (cond ((r12 != (((1 + (List.length r7.1 : Int)) + (List.length r7.2.2.1 : Int)) + szPl r7.2.2.2.1))) (some false) (same [(Option.bind (w_toDesk_f (x0, x1, x2, x3)) fun r13 => (same [(Option.bind (w_toDeed_f (x4, x5, x6)) fun r14 => (same [(Option.bind (i_DeskDo_f (r13.1, r13.2.1, r13.2.2.1, r13.2.2.2, r14.1, r14.2.1, r14.2.2)) fun r15 => (Option.bind (w_eqDesk_f (r15.1, r15.2.1, r15.2.2.1, r15.2.2.2.1, r4.1, r4.2.1, r4.2.2.1, r4.2.2.2.1)) fun r16 => (cond ((!r16)) (some false) (cond ((!(r15.2.2.2.2 == r4.2.2.2.2))) (some false) (Option.bind (w_heldDesk_f ((markL 1 r7.1), r7.2.1, (markL (1 + (List.length r7.1 : Int)) r7.2.2.1), (markPl ((1 + (List.length r7.1 : Int)) + (List.length r7.2.2.1 : Int)) r7.2.2.2.1), 1)) fun r17 => (cond ((decide (r17 < 0))) (some false) (cond ((r17 != (((1 + (List.length r7.1 : Int)) + (List.length r7.2.2.1 : Int)) + szPl r7.2.2.2.1))) (some false) (some true)))))))), (Option.bind (i_DeskDo_f (r13.1, r13.2.1, r13.2.2.1, r13.2.2.2, r14.1, r14.2.1, r14.2.2)) fun r15 => (Option.bind (w_eqDesk_f (r15.1, r15.2.1, r15.2.2.1, r15.2.2.2.1, r4.1, r4.2.1, r4.2.2.1, r4.2.2.2.1)) fun r16 => (cond ((!r16)) (some false) (cond ((!(r15.2.2.2.2 == r4.2.2.2.2))) (some false) (Option.bind (w_heldDesk_f ((markL 1 r7.1), r7.2.1, (markL (1 + (List.length r7.1 : Int)) r7.2.2.1), (markPl ((1 + (List.length r7.1 : Int)) + (List.length r7.2.2.1 : Int)) r7.2.2.2.1), 1)) fun r17 => (cond ((decide (r17 < 0))) (some false) (cond ((r17 != (((1 + (List.length r7.1 : Int)) + (List.length r7.2.2.1 : Int)) + szPl r7.2.2.2.1))) (some false) (some true))))))))])), (Option.bind (w_toDeed_f (x4, x5, x6)) fun r14 => (Option.bind (i_DeskDo_f (r13.1, r13.2.1, r13.2.2.1, r13.2.2.2, r14.1, r14.2.1, r14.2.2)) fun r15 => (Option.bind (w_eqDesk_f (r15.1, r15.2.1, r15.2.2.1, r15.2.2.2.1, r4.1, r4.2.1, r4.2.2.1, r4.2.2.2.1)) fun r16 => (cond ((!r16)) (some false) (cond ((!(r15.2.2.2.2 == r4.2.2.2.2))) (some false) (Option.bind (w_heldDesk_f ((markL 1 r7.1), r7.2.1, (markL (1 + (List.length r7.1 : Int)) r7.2.2.1), (markPl ((1 + (List.length r7.1 : Int)) + (List.length r7.2.2.1 : Int)) r7.2.2.2.1), 1)) fun r17 => (cond ((decide (r17 < 0))) (some false) (cond ((r17 != (((1 + (List.length r7.1 : Int)) + (List.length r7.2.2.1 : Int)) + szPl r7.2.2.2.1))) (some false) (some true)))))))))])), (Option.bind (w_toDesk_f (x0, x1, x2, x3)) fun r13 => (Option.bind (w_toDeed_f (x4, x5, x6)) fun r14 => (Option.bind (i_DeskDo_f (r13.1, r13.2.1, r13.2.2.1, r13.2.2.2, r14.1, r14.2.1, r14.2.2)) fun r15 => (Option.bind (w_eqDesk_f (r15.1, r15.2.1, r15.2.2.1, r15.2.2.2.1, r4.1, r4.2.1, r4.2.2.1, r4.2.2.2.1)) fun r16 => (cond ((!r16)) (some false) (cond ((!(r15.2.2.2.2 == r4.2.2.2.2))) (some false) (Option.bind (w_heldDesk_f ((markL 1 r7.1), r7.2.1, (markL (1 + (List.length r7.1 : Int)) r7.2.2.1), (markPl ((1 + (List.length r7.1 : Int)) + (List.length r7.2.2.1 : Int)) r7.2.2.2.1), 1)) fun r17 => (cond ((decide (r17 < 0))) (some false) (cond ((r17 != (((1 + (List.length r7.1 : Int)) + (List.length r7.2.2.1 : Int)) + szPl r7.2.2.2.1))) (some false) (some true))))))))))])))) else none) else none) else none))))) else none) else none) else none))))))))])), (Option.bind (w_toDeed_f (x4, x5, x6)) fun r6 => (Option.bind (i_DeskDo_f (r5.1, r5.2.1, r5.2.2.1, r5.2.2.2, r6.1, r6.2.1, r6.2.2)) fun r7 => (Option.bind (w_eqDesk_f (r7.1, r7.2.1, r7.2.2.1, r7.2.2.2.1, r4.1, r4.2.1, r4.2.2.1, r4.2.2.2.1)) fun r8 => (cond ((!r8)) (some false) (cond ((!(r7.2.2.2.2 == r4.2.2.2.2))) (some false) (Option.bind (w_toDesk_f (x0, x1, x2, x3)) fun r9 => (Option.bind (w_eqDesk_f (r5.1, r5.2.1, r5.2.2.1, r5.2.2.2, r9.1, r9.2.1, r9.2.2.1, r9.2.2.2)) fun r10 => (cond ((!r10)) (some false) (if (0 : Int) ≤ 1 ∧ 1 + (List.length r5.1 : Int) ≤ 4611686018427387904 then (if (0 : Int) ≤ (1 + (List.length r5.1 : Int)) ∧ (1 + (List.length r5.1 : Int)) + (List.length r5.2.2.1 : Int) ≤ 4611686018427387904 then (if (0 : Int) ≤ ((1 + (List.length r5.1 : Int)) + (List.length r5.2.2.1 : Int)) ∧ ((1 + (List.length r5.1 : Int)) + (List.length r5.2.2.1 : Int)) + szPl r5.2.2.2 ≤ 4611686018427387904 then (cond ((decide ((((1 + (List.length r5.1 : Int)) + (List.length r5.2.2.1 : Int)) + szPl r5.2.2.2) < 0))) (some false) (Option.bind (w_eqDesk_f (r7.1, r7.2.1, r7.2.2.1, r7.2.2.2.1, r4.1, r4.2.1, r4.2.2.1, r4.2.2.2.1)) fun r11 => (cond ((!r11)) (some false) (cond ((!(r7.2.2.2.2 == r4.2.2.2.2))) (some false) (if (0 : Int) ≤ 1 ∧ 1 + (List.length r7.1 : Int) ≤ 4611686018427387904 then (if (0 : Int) ≤ (1 + (List.length r7.1 : Int)) ∧ (1 + (List.length r7.1 : Int)) + (List.length r7.2.2.1 : Int) ≤ 4611686018427387904 then (if (0 : Int) ≤ ((1 + (List.length r7.1 : Int)) + (List.length r7.2.2.1 : Int)) ∧ ((1 + (List.length r7.1 : Int)) + (List.length r7.2.2.1 : Int)) + szPl r7.2.2.2.1 ≤ 4611686018427387904 then (Option.bind (w_heldDesk_f ((markL 1 r7.1), r7.2.1, (markL (1 + (List.length r7.1 : Int)) r7.2.2.1), (markPl ((1 + (List.length r7.1 : Int)) + (List.length r7.2.2.1 : Int)) r7.2.2.2.1), 1)) fun r12 => (cond ((decide (r12 < 0))) (some false) (cond ((r12 != (((1 + (List.length r7.1 : Int)) + (List.length r7.2.2.1 : Int)) + szPl r7.2.2.2.1))) (some false) (same [(Option.bind (w_toDesk_f (x0, x1, x2, x3)) fun r13 => (same [(Option.bind (w_toDeed_f (x4, x5, x6)) fun r14 => (same [(Option.bind (i_DeskDo_f (r13.1, r13.2.1, r13.2.2.1, r13.2.2.2, r14.1, r14.2.1, r14.2.2)) fun r15 => (Option.bind (w_eqDesk_f (r15.1, r15.2.1, r15.2.2.1, r15.2.2.2.1, r4.1, r4.2.1, r4.2.2.1, r4.2.2.2.1)) fun r16 => (cond ((!r16)) (some false) (cond ((!(r15.2.2.2.2 == r4.2.2.2.2))) (some false) (Option.bind (w_heldDesk_f ((markL 1 r7.1), r7.2.1, (markL (1 + (List.length r7.1 : Int)) r7.2.2.1), (markPl ((1 + (List.length r7.1 : Int)) + (List.length r7.2.2.1 : Int)) r7.2.2.2.1), 1)) fun r17 => (cond ((decide (r17 < 0))) (some false) (cond ((r17 != (((1 + (List.length r7.1 : Int)) + (List.length r7.2.2.1 : Int)) + szPl r7.2.2.2.1))) (some false) (some true)))))))), (Option.bind (i_DeskDo_f (r13.1, r13.2.1, r13.2.2.1, r13.2.2.2, r14.1, r14.2.1, r14.2.2)) fun r15 => (Option.bind (w_eqDesk_f (r15.1, r15.2.1, r15.2.2.1, r15.2.2.2.1, r4.1, r4.2.1, r4.2.2.1, r4.2.2.2.1)) fun r16 => (cond ((!r16)) (some false) (cond ((!(r15.2.2.2.2 == r4.2.2.2.2))) (some false) (Option.bind (w_heldDesk_f ((markL 1 r7.1), r7.2.1, (markL (1 + (List.length r7.1 : Int)) r7.2.2.1), (markPl ((1 + (List.length r7.1 : Int)) + (List.length r7.2.2.1 : Int)) r7.2.2.2.1), 1)) fun r17 => (cond ((decide (r17 < 0))) (some false) (cond ((r17 != (((1 + (List.length r7.1 : Int)) + (List.length r7.2.2.1 : Int)) + szPl r7.2.2.2.1))) (some false) (some true))))))))])), (Option.bind (w_toDeed_f (x4, x5, x6)) fun r14 => (Option.bind (i_DeskDo_f (r13.1, r13.2.1, r13.2.2.1, r13.2.2.2, r14.1, r14.2.1, r14.2.2)) fun r15 => (Option.bind (w_eqDesk_f (r15.1, r15.2.1, r15.2.2.1, r15.2.2.2.1, r4.1, r4.2.1, r4.2.2.1, r4.2.2.2.1)) fun r16 => (cond ((!r16)) (some false) (cond ((!(r15.2.2.2.2 == r4.2.2.2.2))) (some false) (Option.bind (w_heldDesk_f ((markL 1 r7.1), r7.2.1, (markL (1 + (List.length r7.1 : Int)) r7.2.2.1), (markPl ((1 + (List.length r7.1 : Int)) + (List.length r7.2.2.1 : Int)) r7.2.2.2.1), 1)) fun r17 => (cond ((decide (r17 < 0))) (some false) (cond ((r17 != (((1 + (List.length r7.1 : Int)) + (List.length r7.2.2.1 : Int)) + szPl r7.2.2.2.1))) (some false) (some true)))))))))])), (Option.bind (w_toDesk_f (x0, x1, x2, x3)) fun r13 => (Option.bind (w_toDeed_f (x4, x5, x6)) fun r14 => (Option.bind (i_DeskDo_f (r13.1, r13.2.1, r13.2.2.1, r13.2.2.2, r14.1, r14.2.1, r14.2.2)) fun r15 => (Option.bind (w_eqDesk_f (r15.1, r15.2.1, r15.2.2.1, r15.2.2.2.1, r4.1, r4.2.1, r4.2.2.1, r4.2.2.2.1)) fun r16 => (cond ((!r16)) (some false) (cond ((!(r15.2.2.2.2 == r4.2.2.2.2))) (some false) (Option.bind (w_heldDesk_f ((markL 1 r7.1), r7.2.1, (markL (1 + (List.length r7.1 : Int)) r7.2.2.1), (markPl ((1 + (List.length r7.1 : Int)) + (List.length r7.2.2.1 : Int)) r7.2.2.2.1), 1)) fun r17 => (cond ((decide (r17 < 0))) (some false) (cond ((r17 != (((1 + (List.length r7.1 : Int)) + (List.length r7.2.2.1 : Int)) + szPl r7.2.2.2.1))) (some false) (some true))))))))))])))) else none) else none) else none))))) else none) else none) else none)))))))))])))])), (Option.bind (w_toDeed_f (x4, x5, x6)) fun r3 => (Option.bind (s_DeskDo_f (r2.1, r2.2.1, r2.2.2.1, r2.2.2.2, r3.1, r3.2.1, r3.2.2)) fun r4 => (Option.bind (w_toDesk_f (x0, x1, x2, x3)) fun r5 => (same [(Option.bind (w_toDeed_f (x4, x5, x6)) fun r6 => (same [(Option.bind (i_DeskDo_f (r5.1, r5.2.1, r5.2.2.1, r5.2.2.2, r6.1, r6.2.1, r6.2.2)) fun r7 => (Option.bind (w_eqDesk_f (r7.1, r7.2.1, r7.2.2.1, r7.2.2.2.1, r4.1, r4.2.1, r4.2.2.1, r4.2.2.2.1)) fun r8 => (cond ((!r8)) (some false) (cond ((!(r7.2.2.2.2 == r4.2.2.2.2))) (some false) (Option.bind (w_toDesk_f (x0, x1, x2, x3)) fun r9 => (Option.bind (w_eqDesk_f (r5.1, r5.2.1, r5.2.2.1, r5.2.2.2, r9.1, r9.2.1, r9.2.2.1, r9.2.2.2)) fun r10 => (cond ((!r10)) (some false) (if (0 : Int) ≤ 1 ∧ 1 + (List.length r5.1 : Int) ≤ 4611686018427387904 then (if (0 : Int) ≤ (1 + (List.length r5.1 : Int)) ∧ (1 + (List.length r5.1 : Int)) + (List.length r5.2.2.1 : Int) ≤ 4611686018427387904 then (if (0 : Int) ≤ ((1 + (List.length r5.1 : Int)) + (List.length r5.2.2.1 : Int)) ∧ ((1 + (List.length r5.1 : Int)) + (List.length r5.2.2.1 : Int)) + szPl r5.2.2.2 ≤ 4611686018427387904 then (cond ((decide ((((1 + (List.length r5.1 : Int)) + (List.length r5.2.2.1 : Int)) + szPl r5.2.2.2) < 0))) (some false) (Option.bind (w_eqDesk_f (r7.1, r7.2.1, r7.2.2.1, r7.2.2.2.1, r4.1, r4.2.1, r4.2.2.1, r4.2.2.2.1)) fun r11 => (cond ((!r11)) (some false) (cond ((!(r7.2.2.2.2 == r4.2.2.2.2))) (some false) (if (0 : Int) ≤ 1 ∧ 1 + (List.length r7.1 : Int) ≤ 4611686018427387904 then (if (0 : Int) ≤ (1 + (List.length r7.1 : Int)) ∧ (1 + (List.length r7.1 : Int)) + (List.length r7.2.2.1 : Int) ≤ 4611686018427387904 then (if (0 : Int) ≤ ((1 + (List.length r7.1 : Int)) + (List.length r7.2.2.1 : Int)) ∧ ((1 + (List.length r7.1 : Int)) + (List.length r7.2.2.1 : Int)) + szPl r7.2.2.2.1 ≤ 4611686018427387904 then (Option.bind (w_heldDesk_f ((markL 1 r7.1), r7.2.1, (markL (1 + (List.length r7.1 : Int)) r7.2.2.1), (markPl ((1 + (List.length r7.1 : Int)) + (List.length r7.2.2.1 : Int)) r7.2.2.2.1), 1)) fun r12 => (cond ((decide (r12 < 0))) (some false) (cond ((r12 != (((1 + (List.length r7.1 : Int)) + (List.length r7.2.2.1 : Int)) + szPl r7.2.2.2.1))) (some false) (same [(Option.bind (w_toDesk_f (x0, x1, x2, x3)) fun r13 => (same [(Option.bind (w_toDeed_f (x4, x5, x6)) fun r14 => (same [(Option.bind (i_DeskDo_f (r13.1, r13.2.1, r13.2.2.1, r13.2.2.2, r14.1, r14.2.1, r14.2.2)) fun r15 => (Option.bind (w_eqDesk_f (r15.1, r15.2.1, r15.2.2.1, r15.2.2.2.1, r4.1, r4.2.1, r4.2.2.1, r4.2.2.2.1)) fun r16 => (cond ((!r16)) (some false) (cond ((!(r15.2.2.2.2 == r4.2.2.2.2))) (some false) (Option.bind (w_heldDesk_f ((markL 1 r7.1), r7.2.1, (markL (1 + (List.length r7.1 : Int)) r7.2.2.1), (markPl ((1 + (List.length r7.1 : Int)) + (List.length r7.2.2.1 : Int)) r7.2.2.2.1), 1)) fun r17 => (cond ((decide (r17 < 0))) (some false) (cond ((r17 != (((1 + (List.length r7.1 : Int)) + (List.length r7.2.2.1 : Int)) + szPl r7.2.2.2.1))) (some false) (some true)))))))), (Option.bind (i_DeskDo_f (r13.1, r13.2.1, r13.2.2.1, r13.2.2.2, r14.1, r14.2.1, r14.2.2)) fun r15 => (Option.bind (w_eqDesk_f (r15.1, r15.2.1, r15.2.2.1, r15.2.2.2.1, r4.1, r4.2.1, r4.2.2.1, r4.2.2.2.1)) fun r16 => (cond ((!r16)) (some false) (cond ((!(r15.2.2.2.2 == r4.2.2.2.2))) (some false) (Option.bind (w_heldDesk_f ((markL 1 r7.1), r7.2.1, (markL (1 + (List.length r7.1 : Int)) r7.2.2.1), (markPl ((1 + (List.length r7.1 : Int)) + (List.length r7.2.2.1 : Int)) r7.2.2.2.1), 1)) fun r17 => (cond ((decide (r17 < 0))) (some false) (cond ((r17 != (((1 + (List.length r7.1 : Int)) + (List.length r7.2.2.1 : Int)) + szPl r7.2.2.2.1))) (some false) (some true))))))))])), (Option.bind (w_toDeed_f (x4, x5, x6)) fun r14 => (Option.bind (i_DeskDo_f (r13.1, r13.2.1, r13.2.2.1, r13.2.2.2, r14.1, r14.2.1, r14.2.2)) fun r15 => (Option.bind (w_eqDesk_f (r15.1, r15.2.1, r15.2.2.1, r15.2.2.2.1, r4.1, r4.2.1, r4.2.2.1, r4.2.2.2.1)) fun r16 => (cond ((!r16)) (some false) (cond ((!(r15.2.2.2.2 == r4.2.2.2.2))) (some false) (Option.bind (w_heldDesk_f ((markL 1 r7.1), r7.2.1, (markL (1 + (List.length r7.1 : Int)) r7.2.2.1), (markPl ((1 + (List.length r7.1 : Int)) + (List.length r7.2.2.1 : Int)) r7.2.2.2.1), 1)) fun r17 => (cond ((decide (r17 < 0))) (some false) (cond ((r17 != (((1 + (List.length r7.1 : Int)) + (List.length r7.2.2.1 : Int)) + szPl r7.2.2.2.1))) (some false) (some true)))))))))])), (Option.bind (w_toDesk_f (x0, x1, x2, x3)) fun r13 => (Option.bind (w_toDeed_f (x4, x5, x6)) fun r14 => (Option.bind (i_DeskDo_f (r13.1, r13.2.1, r13.2.2.1, r13.2.2.2, r14.1, r14.2.1, r14.2.2)) fun r15 => (Option.bind (w_eqDesk_f (r15.1, r15.2.1, r15.2.2.1, r15.2.2.2.1, r4.1, r4.2.1, r4.2.2.1, r4.2.2.2.1)) fun r16 => (cond ((!r16)) (some false) (cond ((!(r15.2.2.2.2 == r4.2.2.2.2))) (some false) (Option.bind (w_heldDesk_f ((markL 1 r7.1), r7.2.1, (markL (1 + (List.length r7.1 : Int)) r7.2.2.1), (markPl ((1 + (List.length r7.1 : Int)) + (List.length r7.2.2.1 : Int)) r7.2.2.2.1), 1)) fun r17 => (cond ((decide (r17 < 0))) (some false) (cond ((r17 != (((1 + (List.length r7.1 : Int)) + (List.length r7.2.2.1 : Int)) + szPl r7.2.2.2.1))) (some false) (some true))))))))))])))) else none) else none) else none))))) else none) else none) else none)))))))), (Option.bind (i_DeskDo_f (r5.1, r5.2.1, r5.2.2.1, r5.2.2.2, r6.1, r6.2.1, r6.2.2)) fun r7 => (Option.bind (w_eqDesk_f (r7.1, r7.2.1, r7.2.2.1, r7.2.2.2.1, r4.1, r4.2.1, r4.2.2.1, r4.2.2.2.1)) fun r8 => (cond ((!r8)) (some false) (cond ((!(r7.2.2.2.2 == r4.2.2.2.2))) (some false) (Option.bind (w_toDesk_f (x0, x1, x2, x3)) fun r9 => (Option.bind (w_eqDesk_f (r5.1, r5.2.1, r5.2.2.1, r5.2.2.2, r9.1, r9.2.1, r9.2.2.1, r9.2.2.2)) fun r10 => (cond ((!r10)) (some false) (if (0 : Int) ≤ 1 ∧ 1 + (List.length r5.1 : Int) ≤ 4611686018427387904 then (if (0 : Int) ≤ (1 + (List.length r5.1 : Int)) ∧ (1 + (List.length r5.1 : Int)) + (List.length r5.2.2.1 : Int) ≤ 4611686018427387904 then (if (0 : Int) ≤ ((1 + (List.length r5.1 : Int)) + (List.length r5.2.2.1 : Int)) ∧ ((1 + (List.length r5.1 : Int)) + (List.length r5.2.2.1 : Int)) + szPl r5.2.2.2 ≤ 4611686018427387904 then (cond ((decide ((((1 + (List.length r5.1 : Int)) + (List.length r5.2.2.1 : Int)) + szPl r5.2.2.2) < 0))) (some false) (Option.bind (w_eqDesk_f (r7.1, r7.2.1, r7.2.2.1, r7.2.2.2.1, r4.1, r4.2.1, r4.2.2.1, r4.2.2.2.1)) fun r11 => (cond ((!r11)) (some false) (cond ((!(r7.2.2.2.2 == r4.2.2.2.2))) (some false) (if (0 : Int) ≤ 1 ∧ 1 + (List.length r7.1 : Int) ≤ 4611686018427387904 then (if (0 : Int) ≤ (1 + (List.length r7.1 : Int)) ∧ (1 + (List.length r7.1 : Int)) + (List.length r7.2.2.1 : Int) ≤ 4611686018427387904 then (if (0 : Int) ≤ ((1 + (List.length r7.1 : Int)) + (List.length r7.2.2.1 : Int)) ∧ ((1 + (List.length r7.1 : Int)) + (List.length r7.2.2.1 : Int)) + szPl r7.2.2.2.1 ≤ 4611686018427387904 then (Option.bind (w_heldDesk_f ((markL 1 r7.1), r7.2.1, (markL (1 + (List.length r7.1 : Int)) r7.2.2.1), (markPl ((1 + (List.length r7.1 : Int)) + (List.length r7.2.2.1 : Int)) r7.2.2.2.1), 1)) fun r12 => (cond ((decide (r12 < 0))) (some false) (cond ((r12 != (((1 + (List.length r7.1 : Int)) + (List.length r7.2.2.1 : Int)) + szPl r7.2.2.2.1))) (some false) (same [(Option.bind (w_toDesk_f (x0, x1, x2, x3)) fun r13 => (same [(Option.bind (w_toDeed_f (x4, x5, x6)) fun r14 => (same [(Option.bind (i_DeskDo_f (r13.1, r13.2.1, r13.2.2.1, r13.2.2.2, r14.1, r14.2.1, r14.2.2)) fun r15 => (Option.bind (w_eqDesk_f (r15.1, r15.2.1, r15.2.2.1, r15.2.2.2.1, r4.1, r4.2.1, r4.2.2.1, r4.2.2.2.1)) fun r16 => (cond ((!r16)) (some false) (cond ((!(r15.2.2.2.2 == r4.2.2.2.2))) (some false) (Option.bind (w_heldDesk_f ((markL 1 r7.1), r7.2.1, (markL (1 + (List.length r7.1 : Int)) r7.2.2.1), (markPl ((1 + (List.length r7.1 : Int)) + (List.length r7.2.2.1 : Int)) r7.2.2.2.1), 1)) fun r17 => (cond ((decide (r17 < 0))) (some false) (cond ((r17 != (((1 + (List.length r7.1 : Int)) + (List.length r7.2.2.1 : Int)) + szPl r7.2.2.2.1))) (some false) (some true)))))))), (Option.bind (i_DeskDo_f (r13.1, r13.2.1, r13.2.2.1, r13.2.2.2, r14.1, r14.2.1, r14.2.2)) fun r15 => (Option.bind (w_eqDesk_f (r15.1, r15.2.1, r15.2.2.1, r15.2.2.2.1, r4.1, r4.2.1, r4.2.2.1, r4.2.2.2.1)) fun r16 => (cond ((!r16)) (some false) (cond ((!(r15.2.2.2.2 == r4.2.2.2.2))) (some false) (Option.bind (w_heldDesk_f ((markL 1 r7.1), r7.2.1, (markL (1 + (List.length r7.1 : Int)) r7.2.2.1), (markPl ((1 + (List.length r7.1 : Int)) + (List.length r7.2.2.1 : Int)) r7.2.2.2.1), 1)) fun r17 => (cond ((decide (r17 < 0))) (some false) (cond ((r17 != (((1 + (List.length r7.1 : Int)) + (List.length r7.2.2.1 : Int)) + szPl r7.2.2.2.1))) (some false) (some true))))))))])), (Option.bind (w_toDeed_f (x4, x5, x6)) fun r14 => (Option.bind (i_DeskDo_f (r13.1, r13.2.1, r13.2.2.1, r13.2.2.2, r14.1, r14.2.1, r14.2.2)) fun r15 => (Option.bind (w_eqDesk_f (r15.1, r15.2.1, r15.2.2.1, r15.2.2.2.1, r4.1, r4.2.1, r4.2.2.1, r4.2.2.2.1)) fun r16 => (cond ((!r16)) (some false) (cond ((!(r15.2.2.2.2 == r4.2.2.2.2))) (some false) (Option.bind (w_heldDesk_f ((markL 1 r7.1), r7.2.1, (markL (1 + (List.length r7.1 : Int)) r7.2.2.1), (markPl ((1 + (List.length r7.1 : Int)) + (List.length r7.2.2.1 : Int)) r7.2.2.2.1), 1)) fun r17 => (cond ((decide (r17 < 0))) (some false) (cond ((r17 != (((1 + (List.length r7.1 : Int)) + (List.length r7.2.2.1 : Int)) + szPl r7.2.2.2.1))) (some false) (some true)))))))))])), (Option.bind (w_toDesk_f (x0, x1, x2, x3)) fun r13 => (Option.bind (w_toDeed_f (x4, x5, x6)) fun r14 => (Option.bind (i_DeskDo_f (r13.1, r13.2.1, r13.2.2.1, r13.2.2.2, r14.1, r14.2.1, r14.2.2)) fun r15 => (Option.bind (w_eqDesk_f (r15.1, r15.2.1, r15.2.2.1, r15.2.2.2.1, r4.1, r4.2.1, r4.2.2.1, r4.2.2.2.1)) fun r16 => (cond ((!r16)) (some false) (cond ((!(r15.2.2.2.2 == r4.2.2.2.2))) (some false) (Option.bind (w_heldDesk_f ((markL 1 r7.1), r7.2.1, (markL (1 + (List.length r7.1 : Int)) r7.2.2.1), (markPl ((1 + (List.length r7.1 : Int)) + (List.length r7.2.2.1 : Int)) r7.2.2.2.1), 1)) fun r17 => (cond ((decide (r17 < 0))) (some false) (cond ((r17 != (((1 + (List.length r7.1 : Int)) + (List.length r7.2.2.1 : Int)) + szPl r7.2.2.2.1))) (some false) (some true))))))))))])))) else none) else none) else none))))) else none) else none) else none))))))))])), (Option.bind (w_toDeed_f (x4, x5, x6)) fun r6 => (Option.bind (i_DeskDo_f (r5.1, r5.2.1, r5.2.2.1, r5.2.2.2, r6.1, r6.2.1, r6.2.2)) fun r7 => (Option.bind (w_eqDesk_f (r7.1, r7.2.1, r7.2.2.1, r7.2.2.2.1, r4.1, r4.2.1, r4.2.2.1, r4.2.2.2.1)) fun r8 => (cond ((!r8)) (some false) (cond ((!(r7.2.2.2.2 == r4.2.2.2.2))) (some false) (Option.bind (w_toDesk_f (x0, x1, x2, x3)) fun r9 => (Option.bind (w_eqDesk_f (r5.1, r5.2.1, r5.2.2.1, r5.2.2.2, r9.1, r9.2.1, r9.2.2.1, r9.2.2.2)) fun r10 => (cond ((!r10)) (some false) (if (0 : Int) ≤ 1 ∧ 1 + (List.length r5.1 : Int) ≤ 4611686018427387904 then (if (0 : Int) ≤ (1 + (List.length r5.1 : Int)) ∧ (1 + (List.length r5.1 : Int)) + (List.length r5.2.2.1 : Int) ≤ 4611686018427387904 then (if (0 : Int) ≤ ((1 + (List.length r5.1 : Int)) + (List.length r5.2.2.1 : Int)) ∧ ((1 + (List.length r5.1 : Int)) + (List.length r5.2.2.1 : Int)) + szPl r5.2.2.2 ≤ 4611686018427387904 then (cond ((decide ((((1 + (List.length r5.1 : Int)) + (List.length r5.2.2.1 : Int)) + szPl r5.2.2.2) < 0))) (some false) (Option.bind (w_eqDesk_f (r7.1, r7.2.1, r7.2.2.1, r7.2.2.2.1, r4.1, r4.2.1, r4.2.2.1, r4.2.2.2.1)) fun r11 => (cond ((!r11)) (some false) (cond ((!(r7.2.2.2.2 == r4.2.2.2.2))) (some false) (if (0 : Int) ≤ 1 ∧ 1 + (List.length r7.1 : Int) ≤ 4611686018427387904 then (if (0 : Int) ≤ (1 + (List.length r7.1 : Int)) ∧ (1 + (List.length r7.1 : Int)) + (List.length r7.2.2.1 : Int) ≤ 4611686018427387904 then (if (0 : Int) ≤ ((1 + (List.length r7.1 : Int)) + (List.length r7.2.2.1 : Int)) ∧ ((1 + (List.length r7.1 : Int)) + (List.length r7.2.2.1 : Int)) + szPl r7.2.2.2.1 ≤ 4611686018427387904 then (Option.bind (w_heldDesk_f ((markL 1 r7.1), r7.2.1, (markL (1 + (List.length r7.1 : Int)) r7.2.2.1), (markPl ((1 + (List.length r7.1 : Int)) + (List.length r7.2.2.1 : Int)) r7.2.2.2.1), 1)) fun r12 => (cond ((decide (r12 < 0))) (some false) (cond ((r12 != (((1 + (List.length r7.1 : Int)) + (List.length r7.2.2.1 : Int)) + szPl r7.2.2.2.1))) (some false) (same [(Option.bind (w_toDesk_f (x0, x1, x2, x3)) fun r13 => (same [(Option.bind (w_toDeed_f (x4, x5, x6)) fun r14 => (same [(Option.bind (i_DeskDo_f (r13.1, r13.2.1, r13.2.2.1, r13.2.2.2, r14.1, r14.2.1, r14.2.2)) fun r15 => (Option.bind (w_eqDesk_f (r15.1, r15.2.1, r15.2.2.1, r15.2.2.2.1, r4.1, r4.2.1, r4.2.2.1, r4.2.2.2.1)) fun r16 => (cond ((!r16)) (some false) (cond ((!(r15.2.2.2.2 == r4.2.2.2.2))) (some false) (Option.bind (w_heldDesk_f ((markL 1 r7.1), r7.2.1, (markL (1 + (List.length r7.1 : Int)) r7.2.2.1), (markPl ((1 + (List.length r7.1 : Int)) + (List.length r7.2.2.1 : Int)) r7.2.2.2.1), 1)) fun r17 => (cond ((decide (r17 < 0))) (some false) (cond ((r17 != (((1 + (List.length r7.1 : Int)) + (List.length r7.2.2.1 : Int)) + szPl r7.2.2.2.1))) (some false) (some true)))))))), (Option.bind (i_DeskDo_f (r13.1, r13.2.1, r13.2.2.1, r13.2.2.2, r14.1, r14.2.1, r14.2.2)) fun r15 => (Option.bind (w_eqDesk_f (r15.1, r15.2.1, r15.2.2.1, r15.2.2.2.1, r4.1, r4.2.1, r4.2.2.1, r4.2.2.2.1)) fun r16 => (cond ((!r16)) (some false) (cond ((!(r15.2.2.2.2 == r4.2.2.2.2))) (some false) (Option.bind (w_heldDesk_f ((markL 1 r7.1), r7.2.1, (markL (1 + (List.length r7.1 : Int)) r7.2.2.1), (markPl ((1 + (List.length r7.1 : Int)) + (List.length r7.2.2.1 : Int)) r7.2.2.2.1), 1)) fun r17 => (cond ((decide (r17 < 0))) (some false) (cond ((r17 != (((1 + (List.length r7.1 : Int)) + (List.length r7.2.2.1 : Int)) + szPl r7.2.2.2.1))) (some false) (some true))))))))])), (Option.bind (w_toDeed_f (x4, x5, x6)) fun r14 => (Option.bind (i_DeskDo_f (r13.1, r13.2.1, r13.2.2.1, r13.2.2.2, r14.1, r14.2.1, r14.2.2)) fun r15 => (Option.bind (w_eqDesk_f (r15.1, r15.2.1, r15.2.2.1, r15.2.2.2.1, r4.1, r4.2.1, r4.2.2.1, r4.2.2.2.1)) fun r16 => (cond ((!r16)) (some false) (cond ((!(r15.2.2.2.2 == r4.2.2.2.2))) (some false) (Option.bind (w_heldDesk_f ((markL 1 r7.1), r7.2.1, (markL (1 + (List.length r7.1 : Int)) r7.2.2.1), (markPl ((1 + (List.length r7.1 : Int)) + (List.length r7.2.2.1 : Int)) r7.2.2.2.1), 1)) fun r17 => (cond ((decide (r17 < 0))) (some false) (cond ((r17 != (((1 + (List.length r7.1 : Int)) + (List.length r7.2.2.1 : Int)) + szPl r7.2.2.2.1))) (some false) (some true)))))))))])), (Option.bind (w_toDesk_f (x0, x1, x2, x3)) fun r13 => (Option.bind (w_toDeed_f (x4, x5, x6)) fun r14 => (Option.bind (i_DeskDo_f (r13.1, r13.2.1, r13.2.2.1, r13.2.2.2, r14.1, r14.2.1, r14.2.2)) fun r15 => (Option.bind (w_eqDesk_f (r15.1, r15.2.1, r15.2.2.1, r15.2.2.2.1, r4.1, r4.2.1, r4.2.2.1, r4.2.2.2.1)) fun r16 => (cond ((!r16)) (some false) (cond ((!(r15.2.2.2.2 == r4.2.2.2.2))) (some false) (Option.bind (w_heldDesk_f ((markL 1 r7.1), r7.2.1, (markL (1 + (List.length r7.1 : Int)) r7.2.2.1), (markPl ((1 + (List.length r7.1 : Int)) + (List.length r7.2.2.1 : Int)) r7.2.2.2.1), 1)) fun r17 => (cond ((decide (r17 < 0))) (some false) (cond ((r17 != (((1 + (List.length r7.1 : Int)) + (List.length r7.2.2.1 : Int)) + szPl r7.2.2.2.1))) (some false) (some true))))))))))])))) else none) else none) else none))))) else none) else none) else none)))))))))]))))])), (Option.bind (w_toDesk_f (x0, x1, x2, x3)) fun r2 => (Option.bind (w_toDeed_f (x4, x5, x6)) fun r3 => (Option.bind (s_DeskDo_f (r2.1, r2.2.1, r2.2.2.1, r2.2.2.2, r3.1, r3.2.1, r3.2.2)) fun r4 => (Option.bind (w_toDesk_f (x0, x1, x2, x3)) fun r5 => (same [(Option.bind (w_toDeed_f (x4, x5, x6)) fun r6 => (same [(Option.bind (i_DeskDo_f (r5.1, r5.2.1, r5.2.2.1, r5.2.2.2, r6.1, r6.2.1, r6.2.2)) fun r7 => (Option.bind (w_eqDesk_f (r7.1, r7.2.1, r7.2.2.1, r7.2.2.2.1, r4.1, r4.2.1, r4.2.2.1, r4.2.2.2.1)) fun r8 => (cond ((!r8)) (some false) (cond ((!(r7.2.2.2.2 == r4.2.2.2.2))) (some false) (Option.bind (w_toDesk_f (x0, x1, x2, x3)) fun r9 => (Option.bind (w_eqDesk_f (r5.1, r5.2.1, r5.2.2.1, r5.2.2.2, r9.1, r9.2.1, r9.2.2.1, r9.2.2.2)) fun r10 => (cond ((!r10)) (some false) (if (0 : Int) ≤ 1 ∧ 1 + (List.length r5.1 : Int) ≤ 4611686018427387904 then (if (0 : Int) ≤ (1 + (List.length r5.1 : Int)) ∧ (1 + (List.length r5.1 : Int)) + (List.length r5.2.2.1 : Int) ≤ 4611686018427387904 then (if (0 : Int) ≤ ((1 + (List.length r5.1 : Int)) + (List.length r5.2.2.1 : Int)) ∧ ((1 + (List.length r5.1 : Int)) + (List.length r5.2.2.1 : Int)) + szPl r5.2.2.2 ≤ 4611686018427387904 then (cond ((decide ((((1 + (List.length r5.1 : Int)) + (List.length r5.2.2.1 : Int)) + szPl r5.2.2.2) < 0))) (some false) (Option.bind (w_eqDesk_f (r7.1, r7.2.1, r7.2.2.1, r7.2.2.2.1, r4.1, r4.2.1, r4.2.2.1, r4.2.2.2.1)) fun r11 => (cond ((!r11)) (some false) (cond ((!(r7.2.2.2.2 == r4.2.2.2.2))) (some false) (if (0 : Int) ≤ 1 ∧ 1 + (List.length r7.1 : Int) ≤ 4611686018427387904 then (if (0 : Int) ≤ (1 + (List.length r7.1 : Int)) ∧ (1 + (List.length r7.1 : Int)) + (List.length r7.2.2.1 : Int) ≤ 4611686018427387904 then (if (0 : Int) ≤ ((1 + (List.length r7.1 : Int)) + (List.length r7.2.2.1 : Int)) ∧ ((1 + (List.length r7.1 : Int)) + (List.length r7.2.2.1 : Int)) + szPl r7.2.2.2.1 ≤ 4611686018427387904 then (Option.bind (w_heldDesk_f ((markL 1 r7.1), r7.2.1, (markL (1 + (List.length r7.1 : Int)) r7.2.2.1), (markPl ((1 + (List.length r7.1 : Int)) + (List.length r7.2.2.1 : Int)) r7.2.2.2.1), 1)) fun r12 => (cond ((decide (r12 < 0))) (some false) (cond ((r12 != (((1 + (List.length r7.1 : Int)) + (List.length r7.2.2.1 : Int)) + szPl r7.2.2.2.1))) (some false) (same [(Option.bind (w_toDesk_f (x0, x1, x2, x3)) fun r13 => (same [(Option.bind (w_toDeed_f (x4, x5, x6)) fun r14 => (same [(Option.bind (i_DeskDo_f (r13.1, r13.2.1, r13.2.2.1, r13.2.2.2, r14.1, r14.2.1, r14.2.2)) fun r15 => (Option.bind (w_eqDesk_f (r15.1, r15.2.1, r15.2.2.1, r15.2.2.2.1, r4.1, r4.2.1, r4.2.2.1, r4.2.2.2.1)) fun r16 => (cond ((!r16)) (some false) (cond ((!(r15.2.2.2.2 == r4.2.2.2.2))) (some false) (Option.bind (w_heldDesk_f ((markL 1 r7.1), r7.2.1, (markL (1 + (List.length r7.1 : Int)) r7.2.2.1), (markPl ((1 + (List.length r7.1 : Int)) + (List.length r7.2.2.1 : Int)) r7.2.2.2.1), 1)) fun r17 => (cond ((decide (r17 < 0))) (some false) (cond ((r17 != (((1 + (List.length r7.1 : Int)) + (List.length r7.2.2.1 : Int)) + szPl r7.2.2.2.1))) (some false) (some true)))))))), (Option.bind (i_DeskDo_f (r13.1, r13.2.1, r13.2.2.1, r13.2.2.2, r14.1, r14.2.1, r14.2.2)) fun r15 => (Option.bind (w_eqDesk_f (r15.1, r15.2.1, r15.2.2.1, r15.2.2.2.1, r4.1, r4.2.1, r4.2.2.1, r4.2.2.2.1)) fun r16 => (cond ((!r16)) (some false) (cond ((!(r15.2.2.2.2 == r4.2.2.2.2))) (some false) (Option.bind (w_heldDesk_f ((markL 1 r7.1), r7.2.1, (markL (1 + (List.length r7.1 : Int)) r7.2.2.1), (markPl ((1 + (List.length r7.1 : Int)) + (List.length r7.2.2.1 : Int)) r7.2.2.2.1), 1)) fun r17 => (cond ((decide (r17 < 0))) (some false) (cond ((r17 != (((1 + (List.length r7.1 : Int)) + (List.length r7.2.2.1 : Int)) + szPl r7.2.2.2.1))) (some false) (some true))))))))])), (Option.bind (w_toDeed_f (x4, x5, x6)) fun r14 => (Option.bind (i_DeskDo_f (r13.1, r13.2.1, r13.2.2.1, r13.2.2.2, r14.1, r14.2.1, r14.2.2)) fun r15 => (Option.bind (w_eqDesk_f (r15.1, r15.2.1, r15.2.2.1, r15.2.2.2.1, r4.1, r4.2.1, r4.2.2.1, r4.2.2.2.1)) fun r16 => (cond ((!r16)) (some false) (cond ((!(r15.2.2.2.2 == r4.2.2.2.2))) (some false) (Option.bind (w_heldDesk_f ((markL 1 r7.1), r7.2.1, (markL (1 + (List.length r7.1 : Int)) r7.2.2.1), (markPl ((1 + (List.length r7.1 : Int)) + (List.length r7.2.2.1 : Int)) r7.2.2.2.1), 1)) fun r17 => (cond ((decide (r17 < 0))) (some false) (cond ((r17 != (((1 + (List.length r7.1 : Int)) + (List.length r7.2.2.1 : Int)) + szPl r7.2.2.2.1))) (some false) (some true)))))))))])), (Option.bind (w_toDesk_f (x0, x1, x2, x3)) fun r13 => (Option.bind (w_toDeed_f (x4, x5, x6)) fun r14 => (Option.bind (i_DeskDo_f (r13.1, r13.2.1, r13.2.2.1, r13.2.2.2, r14.1, r14.2.1, r14.2.2)) fun r15 => (Option.bind (w_eqDesk_f (r15.1, r15.2.1, r15.2.2.1, r15.2.2.2.1, r4.1, r4.2.1, r4.2.2.1, r4.2.2.2.1)) fun r16 => (cond ((!r16)) (some false) (cond ((!(r15.2.2.2.2 == r4.2.2.2.2))) (some false) (Option.bind (w_heldDesk_f ((markL 1 r7.1), r7.2.1, (markL (1 + (List.length r7.1 : Int)) r7.2.2.1), (markPl ((1 + (List.length r7.1 : Int)) + (List.length r7.2.2.1 : Int)) r7.2.2.2.1), 1)) fun r17 => (cond ((decide (r17 < 0))) (some false) (cond ((r17 != (((1 + (List.length r7.1 : Int)) + (List.length r7.2.2.1 : Int)) + szPl r7.2.2.2.1))) (some false) (some true))))))))))])))) else none) else none) else none))))) else none) else none) else none)))))))), (Option.bind (i_DeskDo_f (r5.1, r5.2.1, r5.2.2.1, r5.2.2.2, r6.1, r6.2.1, r6.2.2)) fun r7 => (Option.bind (w_eqDesk_f (r7.1, r7.2.1, r7.2.2.1, r7.2.2.2.1, r4.1, r4.2.1, r4.2.2.1, r4.2.2.2.1)) fun r8 => (cond ((!r8)) (some false) (cond ((!(r7.2.2.2.2 == r4.2.2.2.2))) (some false) (Option.bind (w_toDesk_f (x0, x1, x2, x3)) fun r9 => (Option.bind (w_eqDesk_f (r5.1, r5.2.1, r5.2.2.1, r5.2.2.2, r9.1, r9.2.1, r9.2.2.1, r9.2.2.2)) fun r10 => (cond ((!r10)) (some false) (if (0 : Int) ≤ 1 ∧ 1 + (List.length r5.1 : Int) ≤ 4611686018427387904 then (if (0 : Int) ≤ (1 + (List.length r5.1 : Int)) ∧ (1 + (List.length r5.1 : Int)) + (List.length r5.2.2.1 : Int) ≤ 4611686018427387904 then (if (0 : Int) ≤ ((1 + (List.length r5.1 : Int)) + (List.length r5.2.2.1 : Int)) ∧ ((1 + (List.length r5.1 : Int)) + (List.length r5.2.2.1 : Int)) + szPl r5.2.2.2 ≤ 4611686018427387904 then (cond ((decide ((((1 + (List.length r5.1 : Int)) + (List.length r5.2.2.1 : Int)) + szPl r5.2.2.2) < 0))) (some false) (Option.bind (w_eqDesk_f (r7.1, r7.2.1, r7.2.2.1, r7.2.2.2.1, r4.1, r4.2.1, r4.2.2.1, r4.2.2.2.1)) fun r11 => (cond ((!r11)) (some false) (cond ((!(r7.2.2.2.2 == r4.2.2.2.2))) (some false) (if (0 : Int) ≤ 1 ∧ 1 + (List.length r7.1 : Int) ≤ 4611686018427387904 then (if (0 : Int) ≤ (1 + (List.length r7.1 : Int)) ∧ (1 + (List.length r7.1 : Int)) + (List.length r7.2.2.1 : Int) ≤ 4611686018427387904 then (if (0 : Int) ≤ ((1 + (List.length r7.1 : Int)) + (List.length r7.2.2.1 : Int)) ∧ ((1 + (List.length r7.1 : Int)) + (List.length r7.2.2.1 : Int)) + szPl r7.2.2.2.1 ≤ 4611686018427387904 then (Option.bind (w_heldDesk_f ((markL 1 r7.1), r7.2.1, (markL (1 + (List.length r7.1 : Int)) r7.2.2.1), (markPl ((1 + (List.length r7.1 : Int)) + (List.length r7.2.2.1 : Int)) r7.2.2.2.1), 1)) fun r12 => (cond ((decide (r12 < 0))) (some false) (cond ((r12 != (((1 + (List.length r7.1 : Int)) + (List.length r7.2.2.1 : Int)) + szPl r7.2.2.2.1))) (some false) (same [(Option.bind (w_toDesk_f (x0, x1, x2, x3)) fun r13 => (same [(Option.bind (w_toDeed_f (x4, x5, x6)) fun r14 => (same [(Option.bind (i_DeskDo_f (r13.1, r13.2.1, r13.2.2.1, r13.2.2.2, r14.1, r14.2.1, r14.2.2)) fun r15 => (Option.bind (w_eqDesk_f (r15.1, r15.2.1, r15.2.2.1, r15.2.2.2.1, r4.1, r4.2.1, r4.2.2.1, r4.2.2.2.1)) fun r16 => (cond ((!r16)) (some false) (cond ((!(r15.2.2.2.2 == r4.2.2.2.2))) (some false) (Option.bind (w_heldDesk_f ((markL 1 r7.1), r7.2.1, (markL (1 + (List.length r7.1 : Int)) r7.2.2.1), (markPl ((1 + (List.length r7.1 : Int)) + (List.length r7.2.2.1 : Int)) r7.2.2.2.1), 1)) fun r17 => (cond ((decide (r17 < 0))) (some false) (cond ((r17 != (((1 + (List.length r7.1 : Int)) + (List.length r7.2.2.1 : Int)) + szPl r7.2.2.2.1))) (some false) (some true)))))))), (Option.bind (i_DeskDo_f (r13.1, r13.2.1, r13.2.2.1, r13.2.2.2, r14.1, r14.2.1, r14.2.2)) fun r15 => (Option.bind (w_eqDesk_f (r15.1, r15.2.1, r15.2.2.1, r15.2.2.2.1, r4.1, r4.2.1, r4.2.2.1, r4.2.2.2.1)) fun r16 => (cond ((!r16)) (some false) (cond ((!(r15.2.2.2.2 == r4.2.2.2.2))) (some false) (Option.bind (w_heldDesk_f ((markL 1 r7.1), r7.2.1, (markL (1 + (List.length r7.1 : Int)) r7.2.2.1), (markPl ((1 + (List.length r7.1 : Int)) + (List.length r7.2.2.1 : Int)) r7.2.2.2.1), 1)) fun r17 => (cond ((decide (r17 < 0))) (some false) (cond ((r17 != (((1 + (List.length r7.1 : Int)) + (List.length r7.2.2.1 : Int)) + szPl r7.2.2.2.1))) (some false) (some true))))))))])), (Option.bind (w_toDeed_f (x4, x5, x6)) fun r14 => (Option.bind (i_DeskDo_f (r13.1, r13.2.1, r13.2.2.1, r13.2.2.2, r14.1, r14.2.1, r14.2.2)) fun r15 => (Option.bind (w_eqDesk_f (r15.1, r15.2.1, r15.2.2.1, r15.2.2.2.1, r4.1, r4.2.1, r4.2.2.1, r4.2.2.2.1)) fun r16 => (cond ((!r16)) (some false) (cond ((!(r15.2.2.2.2 == r4.2.2.2.2))) (some false) (Option.bind (w_heldDesk_f ((markL 1 r7.1), r7.2.1, (markL (1 + (List.length r7.1 : Int)) r7.2.2.1), (markPl ((1 + (List.length r7.1 : Int)) + (List.length r7.2.2.1 : Int)) r7.2.2.2.1), 1)) fun r17 => (cond ((decide (r17 < 0))) (some false) (cond ((r17 != (((1 + (List.length r7.1 : Int)) + (List.length r7.2.2.1 : Int)) + szPl r7.2.2.2.1))) (some false) (some true)))))))))])), (Option.bind (w_toDesk_f (x0, x1, x2, x3)) fun r13 => (Option.bind (w_toDeed_f (x4, x5, x6)) fun r14 => (Option.bind (i_DeskDo_f (r13.1, r13.2.1, r13.2.2.1, r13.2.2.2, r14.1, r14.2.1, r14.2.2)) fun r15 => (Option.bind (w_eqDesk_f (r15.1, r15.2.1, r15.2.2.1, r15.2.2.2.1, r4.1, r4.2.1, r4.2.2.1, r4.2.2.2.1)) fun r16 => (cond ((!r16)) (some false) (cond ((!(r15.2.2.2.2 == r4.2.2.2.2))) (some false) (Option.bind (w_heldDesk_f ((markL 1 r7.1), r7.2.1, (markL (1 + (List.length r7.1 : Int)) r7.2.2.1), (markPl ((1 + (List.length r7.1 : Int)) + (List.length r7.2.2.1 : Int)) r7.2.2.2.1), 1)) fun r17 => (cond ((decide (r17 < 0))) (some false) (cond ((r17 != (((1 + (List.length r7.1 : Int)) + (List.length r7.2.2.1 : Int)) + szPl r7.2.2.2.1))) (some false) (some true))))))))))])))) else none) else none) else none))))) else none) else none) else none))))))))])), (Option.bind (w_toDeed_f (x4, x5, x6)) fun r6 => (Option.bind (i_DeskDo_f (r5.1, r5.2.1, r5.2.2.1, r5.2.2.2, r6.1, r6.2.1, r6.2.2)) fun r7 => (Option.bind (w_eqDesk_f (r7.1, r7.2.1, r7.2.2.1, r7.2.2.2.1, r4.1, r4.2.1, r4.2.2.1, r4.2.2.2.1)) fun r8 => (cond ((!r8)) (some false) (cond ((!(r7.2.2.2.2 == r4.2.2.2.2))) (some false) (Option.bind (w_toDesk_f (x0, x1, x2, x3)) fun r9 => (Option.bind (w_eqDesk_f (r5.1, r5.2.1, r5.2.2.1, r5.2.2.2, r9.1, r9.2.1, r9.2.2.1, r9.2.2.2)) fun r10 => (cond ((!r10)) (some false) (if (0 : Int) ≤ 1 ∧ 1 + (List.length r5.1 : Int) ≤ 4611686018427387904 then (if (0 : Int) ≤ (1 + (List.length r5.1 : Int)) ∧ (1 + (List.length r5.1 : Int)) + (List.length r5.2.2.1 : Int) ≤ 4611686018427387904 then (if (0 : Int) ≤ ((1 + (List.length r5.1 : Int)) + (List.length r5.2.2.1 : Int)) ∧ ((1 + (List.length r5.1 : Int)) + (List.length r5.2.2.1 : Int)) + szPl r5.2.2.2 ≤ 4611686018427387904 then (cond ((decide ((((1 + (List.length r5.1 : Int)) + (List.length r5.2.2.1 : Int)) + szPl r5.2.2.2) < 0))) (some false) (Option.bind (w_eqDesk_f (r7.1, r7.2.1, r7.2.2.1, r7.2.2.2.1, r4.1, r4.2.1, r4.2.2.1, r4.2.2.2.1)) fun r11 => (cond ((!r11)) (some false) (cond ((!(r7.2.2.2.2 == r4.2.2.2.2))) (some false) (if (0 : Int) ≤ 1 ∧ 1 + (List.length r7.1 : Int) ≤ 4611686018427387904 then (if (0 : Int) ≤ (1 + (List.length r7.1 : Int)) ∧ (1 + (List.length r7.1 : Int)) + (List.length r7.2.2.1 : Int) ≤ 4611686018427387904 then (if (0 : Int) ≤ ((1 + (List.length r7.1 : Int)) + (List.length r7.2.2.1 : Int)) ∧ ((1 + (List.length r7.1 : Int)) + (List.length r7.2.2.1 : Int)) + szPl r7.2.2.2.1 ≤ 4611686018427387904 then (Option.bind (w_heldDesk_f ((markL 1 r7.1), r7.2.1, (markL (1 + (List.length r7.1 : Int)) r7.2.2.1), (markPl ((1 + (List.length r7.1 : Int)) + (List.length r7.2.2.1 : Int)) r7.2.2.2.1), 1)) fun r12 => (cond ((decide (r12 < 0))) (some false) (cond ((r12 != (((1 + (List.length r7.1 : Int)) + (List.length r7.2.2.1 : Int)) + szPl r7.2.2.2.1))) (some false) (same [(Option.bind (w_toDesk_f (x0, x1, x2, x3)) fun r13 => (same [(Option.bind (w_toDeed_f (x4, x5, x6)) fun r14 => (same [(Option.bind (i_DeskDo_f (r13.1, r13.2.1, r13.2.2.1, r13.2.2.2, r14.1, r14.2.1, r14.2.2)) fun r15 => (Option.bind (w_eqDesk_f (r15.1, r15.2.1, r15.2.2.1, r15.2.2.2.1, r4.1, r4.2.1, r4.2.2.1, r4.2.2.2.1)) fun r16 => (cond ((!r16)) (some false) (cond ((!(r15.2.2.2.2 == r4.2.2.2.2))) (some false) (Option.bind (w_heldDesk_f ((markL 1 r7.1), r7.2.1, (markL (1 + (List.length r7.1 : Int)) r7.2.2.1), (markPl ((1 + (List.length r7.1 : Int)) + (List.length r7.2.2.1 : Int)) r7.2.2.2.1), 1)) fun r17 => (cond ((decide (r17 < 0))) (some false) (cond ((r17 != (((1 + (List.length r7.1 : Int)) + (List.length r7.2.2.1 : Int)) + szPl r7.2.2.2.1))) (some false) (some true)))))))), (Option.bind (i_DeskDo_f (r13.1, r13.2.1, r13.2.2.1, r13.2.2.2, r14.1, r14.2.1, r14.2.2)) fun r15 => (Option.bind (w_eqDesk_f (r15.1, r15.2.1, r15.2.2.1, r15.2.2.2.1, r4.1, r4.2.1, r4.2.2.1, r4.2.2.2.1)) fun r16 => (cond ((!r16)) (some false) (cond ((!(r15.2.2.2.2 == r4.2.2.2.2))) (some false) (Option.bind (w_heldDesk_f ((markL 1 r7.1), r7.2.1, (markL (1 + (List.length r7.1 : Int)) r7.2.2.1), (markPl ((1 + (List.length r7.1 : Int)) + (List.length r7.2.2.1 : Int)) r7.2.2.2.1), 1)) fun r17 => (cond ((decide (r17 < 0))) (some false) (cond ((r17 != (((1 + (List.length r7.1 : Int)) + (List.length r7.2.2.1 : Int)) + szPl r7.2.2.2.1))) (some false) (some true))))))))])), (Option.bind (w_toDeed_f (x4, x5, x6)) fun r14 => (Option.bind (i_DeskDo_f (r13.1, r13.2.1, r13.2.2.1, r13.2.2.2, r14.1, r14.2.1, r14.2.2)) fun r15 => (Option.bind (w_eqDesk_f (r15.1, r15.2.1, r15.2.2.1, r15.2.2.2.1, r4.1, r4.2.1, r4.2.2.1, r4.2.2.2.1)) fun r16 => (cond ((!r16)) (some false) (cond ((!(r15.2.2.2.2 == r4.2.2.2.2))) (some false) (Option.bind (w_heldDesk_f ((markL 1 r7.1), r7.2.1, (markL (1 + (List.length r7.1 : Int)) r7.2.2.1), (markPl ((1 + (List.length r7.1 : Int)) + (List.length r7.2.2.1 : Int)) r7.2.2.2.1), 1)) fun r17 => (cond ((decide (r17 < 0))) (some false) (cond ((r17 != (((1 + (List.length r7.1 : Int)) + (List.length r7.2.2.1 : Int)) + szPl r7.2.2.2.1))) (some false) (some true)))))))))])), (Option.bind (w_toDesk_f (x0, x1, x2, x3)) fun r13 => (Option.bind (w_toDeed_f (x4, x5, x6)) fun r14 => (Option.bind (i_DeskDo_f (r13.1, r13.2.1, r13.2.2.1, r13.2.2.2, r14.1, r14.2.1, r14.2.2)) fun r15 => (Option.bind (w_eqDesk_f (r15.1, r15.2.1, r15.2.2.1, r15.2.2.2.1, r4.1, r4.2.1, r4.2.2.1, r4.2.2.2.1)) fun r16 => (cond ((!r16)) (some false) (cond ((!(r15.2.2.2.2 == r4.2.2.2.2))) (some false) (Option.bind (w_heldDesk_f ((markL 1 r7.1), r7.2.1, (markL (1 + (List.length r7.1 : Int)) r7.2.2.1), (markPl ((1 + (List.length r7.1 : Int)) + (List.length r7.2.2.1 : Int)) r7.2.2.2.1), 1)) fun r17 => (cond ((decide (r17 < 0))) (some false) (cond ((r17 != (((1 + (List.length r7.1 : Int)) + (List.length r7.2.2.1 : Int)) + szPl r7.2.2.2.1))) (some false) (some true))))))))))])))) else none) else none) else none))))) else none) else none) else none)))))))))])))))])))) (by kernel_rfl) ?_
  simp only [same2, same3, same4, same5, same6, obind_ite]
theorem w_FnExactDeskDo_ent : Entb Tryd.prog 3 := ⟨Tryd.f3, by kernel_rfl, by kernel_rfl, by kernel_rfl⟩
theorem w_FnExactDeskDo_ok : CtrOk Tryd.prog 3 ⟨w_FnExactDeskDo_sig, w_FnExactDeskDo_f⟩ :=
  ctr_of (fn := Tryd.f3) (by kernel_rfl) (by kernel_rfl) (fun x : Ts w_FnExactDeskDo_sig.pc => w_FnExactDeskDo_E) (fun x => withWr_ok ⟨(fn_cons ⟨w_szDesk_ok, w_szDesk_ent⟩ (fn_cons ⟨s_DeskDo_ok, s_DeskDo_ent⟩ (fn_cons ⟨w_toDesk_ok, w_toDesk_ent⟩ (fn_cons ⟨w_toDeed_ok, w_toDeed_ent⟩ (fn_cons ⟨i_DeskDo_ok, i_DeskDo_ent⟩ (fn_cons ⟨w_eqDesk_ok, w_eqDesk_ent⟩ (fn_cons ⟨w_heldDesk_ok, w_heldDesk_ent⟩ fn_none))))))), clo_none, wr_none⟩ (tab_cons w_markDesk_mk (tab_none))) (fun h => by cases h) follows_ (fun _ _ => trivial)
end FN
set_option linter.unusedVariables false
namespace FN
open Go Go.Proofs
/-! loop.example/firingnets/impl.DeskRun -/
@[reducible] def i_DeskRun_sig : Sig := { ps := [some 4, none], pc := [.view .i64, .int .i64, .view .i64, .view .place, .view .deed], rs := [some 4, none], rc := [.row 3 .i64, .int .i64, .row 3 .i64, .drow false 31 3, .int .i64] }
noncomputable def i_DeskRun_E : Env' := { fn := fun f => if f = 18 then some ⟨i_DeskOk_sig, i_DeskOk_f⟩ else if f = 64 then some ⟨i_doAll_sig, i_doAll_f⟩ else none, ck := ckT, cuts := [], mine := fun i => i == 7 || i == 17 }
noncomputable def i_DeskRun_f (x : Ts i_DeskRun_sig.pc) : Option (Ts i_DeskRun_sig.rc) := runFn Tryd.prog (i_DeskRun_E) Tryd.f22 i_DeskRun_sig x
theorem i_DeskRun_f_eq (x0 : (List (Int))) (x1 : (Int)) (x2 : (List (Int))) (x3 : (List (List Int × Int × List Int))) (x4 : (List (Int × Int × Int))) : i_DeskRun_f (x0, x1, x2, x3, x4) = (Option.bind (i_DeskOk_f (x0, x1, x2, x3)) fun r1 => (cond ((!r1)) (some ([], 0, [], [], 0)) (cond ((decide (40 < (List.length x4 : Int)))) (some ([], 0, [], [], 0)) (Option.bind (i_doAll_f (x0, x1, x2, x3, x4)) fun r2 => (some (r2.1, r2.2.1, r2.2.2.1, r2.2.2.2.1, r2.2.2.2.2)))))) := by
  kernel_rfl
theorem i_DeskRun_ent : Entb Tryd.prog 22 := ⟨Tryd.f22, by kernel_rfl, by kernel_rfl, by kernel_rfl⟩
theorem i_DeskRun_ok : CtrOk Tryd.prog 22 ⟨i_DeskRun_sig, i_DeskRun_f⟩ :=
  ctr_of (fn := Tryd.f22) (by kernel_rfl) (by kernel_rfl) (fun x : Ts i_DeskRun_sig.pc => i_DeskRun_E) (fun x => ⟨(fn_cons ⟨i_DeskOk_ok, i_DeskOk_ent⟩ (fn_cons ⟨i_doAll_ok, i_doAll_ent⟩ fn_none)), clo_none, wr_none⟩) (fun h => by cases h) follows_ (fun _ _ => trivial)
end FN
set_option linter.unusedVariables false
namespace FN
open Go Go.Proofs
/-! loop.example/firingnets/spec.DeskRun -/
@[reducible] def s_DeskRun_sig : Sig := { ps := [some 4, none], pc := [.view .i64, .int .i64, .view .i64, .view .place, .view .deed], rs := [some 4, none], rc := [.view .i64, .int .i64, .view .i64, .view .place, .int .i64] }
noncomputable def s_DeskRun_E : Env' := { fn := fun f => if f = 24 then some ⟨s_DeskOk_sig, s_DeskOk_f⟩ else if f = 65 then some ⟨s_l15Run_sig, s_l15Run_f⟩ else none, ck := ckT, cuts := [], mine := fun i => false }
noncomputable def s_DeskRun_f (x : Ts s_DeskRun_sig.pc) : Option (Ts s_DeskRun_sig.rc) := runFn Tryd.prog (s_DeskRun_E) Tryd.f23 s_DeskRun_sig x
theorem s_DeskRun_f_eq (x0 : (List (Int))) (x1 : (Int)) (x2 : (List (Int))) (x3 : (List (List Int × Int × List Int))) (x4 : (List (Int × Int × Int))) : s_DeskRun_f (x0, x1, x2, x3, x4) = (Option.bind (s_DeskOk_f (x0, x1, x2, x3)) fun r1 => (cond ((!r1)) (some ([], 0, [], [], 0)) (cond ((decide (40 < (List.length x4 : Int)))) (some ([], 0, [], [], 0)) (Option.bind (s_l15Run_f (x0, x1, x2, x3, x4)) fun r2 => (some (r2.1, r2.2.1, r2.2.2.1, r2.2.2.2.1, r2.2.2.2.2)))))) := by
  kernel_rfl
theorem s_DeskRun_ent : Entb Tryd.prog 23 := ⟨Tryd.f23, by kernel_rfl, by kernel_rfl, by kernel_rfl⟩
theorem s_DeskRun_ok : CtrOk Tryd.prog 23 ⟨s_DeskRun_sig, s_DeskRun_f⟩ :=
  ctr_of (fn := Tryd.f23) (by kernel_rfl) (by kernel_rfl) (fun x : Ts s_DeskRun_sig.pc => s_DeskRun_E) (fun x => ⟨(fn_cons ⟨s_DeskOk_ok, s_DeskOk_ent⟩ (fn_cons ⟨s_l15Run_ok, s_l15Run_ent⟩ fn_none)), clo_none, wr_none⟩) (fun h => by cases h) follows_ (fun _ _ => trivial)
end FN
set_option linter.unusedVariables false
namespace FN
open Go Go.Proofs
/-! loop.example/firingnets/laws.eqDeed -/
@[reducible] def w_eqDeed_sig : Sig := { ps := [some 3, some 3], pc := [.int .i64, .int .i64, .int .i64, .int .i64, .int .i64, .int .i64], rs := [none], rc := [.bool] }
noncomputable def w_eqDeed_E : Env' := { fn := fun f => none, ck := ckT, cuts := [], mine := fun i => false }
noncomputable def w_eqDeed_f (x : Ts w_eqDeed_sig.pc) : Option (Ts w_eqDeed_sig.rc) := runFn Tryd.prog (w_eqDeed_E) Tryd.f66 w_eqDeed_sig x
theorem w_eqDeed_f_eq (x0 : (Int)) (x1 : (Int)) (x2 : (Int)) (x3 : (Int)) (x4 : (Int)) (x5 : (Int)) : w_eqDeed_f (x0, x1, x2, x3, x4, x5) = (cond ((x0 != x3)) (some false) (cond ((x1 != x4)) (some false) (cond ((x2 != x5)) (some false) (some true)))) := by
  kernel_rfl
theorem w_eqDeed_ent : Entb Tryd.prog 66 := ⟨Tryd.f66, by kernel_rfl, by kernel_rfl, by kernel_rfl⟩
theorem w_eqDeed_ok : CtrOk Tryd.prog 66 ⟨w_eqDeed_sig, w_eqDeed_f⟩ :=
  ctr_of (fn := Tryd.f66) (by kernel_rfl) (by kernel_rfl) (fun x : Ts w_eqDeed_sig.pc => w_eqDeed_E) (fun x => ⟨fn_none, clo_none, wr_none⟩) (fun h => by cases h) follows_ (fun _ _ => trivial)
end FN
set_option linter.unusedVariables false
namespace FN
open Go Go.Proofs
/-! loop.example/firingnets/laws.eqDeedS -/
@[reducible] def w_eqDeedS_sig : Sig := { ps := [none, none], pc := [.view .deed, .view .deed], rs := [none], rc := [.bool] }
noncomputable def w_eqDeedS_E : Env' := { fn := fun f => if f = 66 then some ⟨w_eqDeed_sig, w_eqDeed_f⟩ else none, ck := ckT, cuts := [(4, [0, 1, 5])], mine := fun i => false }
noncomputable def w_eqDeedS_f (x : Ts w_eqDeedS_sig.pc) : Option (Ts w_eqDeedS_sig.rc) := runFn Tryd.prog (w_eqDeedS_E) Tryd.f28 w_eqDeedS_sig x
noncomputable def w_eqDeedS_l0 (y0 : List (Int × Int × Int)) (y1 : List (Int × Int × Int)) (y2 : Int) : Option ((Bool)) := from_ Tryd.prog (w_eqDeedS_E) Tryd.f28 w_eqDeedS_sig [1, 1, 0, 1, 0] ⟨mkT 27 [(0, .row false .deed y0), (1, .row false .deed y1), (5, .int .i64 y2)], []⟩
theorem w_eqDeedS_f_eq (x0 : (List (Int × Int × Int))) (x1 : (List (Int × Int × Int))) : w_eqDeedS_f (x0, x1) = (cond (((List.length x0 : Int) != (List.length x1 : Int))) (some false) (w_eqDeedS_l0 x0 x1 0)) := by
  kernel_rfl
theorem w_eqDeedS_l0_eq (y0 : List (Int × Int × Int)) (y1 : List (Int × Int × Int)) (y2 : Int) : w_eqDeedS_l0 y0 y1 y2 = (cond ((decide (y2 < (List.length y0 : Int)))) (if (0 : Int) ≤ y2 ∧ y2 < (List.length y0 : Int) then (if (0 : Int) ≤ y2 ∧ y2 < (List.length y1 : Int) then (Option.bind (w_eqDeed_f ((List.getD y0 (y2 : Int).toNat (0, 0, 0)).1, (List.getD y0 (y2 : Int).toNat (0, 0, 0)).2.1, (List.getD y0 (y2 : Int).toNat (0, 0, 0)).2.2, (List.getD y1 (y2 : Int).toNat (0, 0, 0)).1, (List.getD y1 (y2 : Int).toNat (0, 0, 0)).2.1, (List.getD y1 (y2 : Int).toNat (0, 0, 0)).2.2)) fun r1 => (cond ((!r1)) (some false) (w_eqDeedS_l0 y0 y1 (IntKind.i64.wrap (y2 + 1))))) else none) else none) (some true)) := by
  refine (loopK_eq Tryd.prog (w_eqDeedS_E) (sub (Tryd.f28.body.getD .skip) [1, 1, 0, 1, 0, 0]) _ _).trans ?_
  kernel_rfl
theorem w_eqDeedS_ent : Entb Tryd.prog 28 := ⟨Tryd.f28, by kernel_rfl, by kernel_rfl, by kernel_rfl⟩
theorem w_eqDeedS_ok : CtrOk Tryd.prog 28 ⟨w_eqDeedS_sig, w_eqDeedS_f⟩ :=
  ctr_of (fn := Tryd.f28) (by kernel_rfl) (by kernel_rfl) (fun x : Ts w_eqDeedS_sig.pc => w_eqDeedS_E) (fun x => ⟨(fn_cons ⟨w_eqDeed_ok, w_eqDeed_ent⟩ fn_none), clo_none, wr_none⟩) (fun h => by cases h) follows_ (fun _ _ => trivial)
end FN
set_option linter.unusedVariables false
namespace FN
open Go Go.Proofs
/-! loop.example/firingnets/laws.szDeedS -/
@[reducible] def w_szDeedS_sig : Sig := { ps := [none, none], pc := [.view .deed, .int .i64], rs := [none], rc := [.int .i64] }
noncomputable def w_szDeedS_E : Env' := { fn := fun f => none, ck := ckT, cuts := [], mine := fun i => false }
noncomputable def w_szDeedS_f (x : Ts w_szDeedS_sig.pc) : Option (Ts w_szDeedS_sig.rc) := runFn Tryd.prog (w_szDeedS_E) Tryd.f26 w_szDeedS_sig x
theorem w_szDeedS_f_eq (x0 : (List (Int × Int × Int))) (x1 : (Int)) : w_szDeedS_f (x0, x1) = (cond ((decide ((IntKind.i64.wrap (x1 - (List.length x0 : Int))) < 0))) (some (-1)) (some (IntKind.i64.wrap (x1 - (List.length x0 : Int))))) := by
  kernel_rfl
theorem w_szDeedS_ent : Entb Tryd.prog 26 := ⟨Tryd.f26, by kernel_rfl, by kernel_rfl, by kernel_rfl⟩
theorem w_szDeedS_ok : CtrOk Tryd.prog 26 ⟨w_szDeedS_sig, w_szDeedS_f⟩ :=
  ctr_of (fn := Tryd.f26) (by kernel_rfl) (by kernel_rfl) (fun x : Ts w_szDeedS_sig.pc => w_szDeedS_E) (fun x => ⟨fn_none, clo_none, wr_none⟩) (fun h => by cases h) follows_ (fun _ _ => trivial)
end FN
set_option linter.unusedVariables false
namespace FN
open Go Go.Proofs
/-! loop.example/firingnets/laws.toDeedS -/
@[reducible] def w_toDeedS_sig : Sig := { ps := [none], pc := [.view .deed], rs := [none], rc := [.row 38 .deed] }
noncomputable def w_toDeedS_E : Env' := { fn := fun f => if f = 11 then some ⟨w_toDeed_sig, w_toDeed_f⟩ else none, ck := ckT, cuts := [(3, [0, 3, 4])], mine := fun i => false }
noncomputable def w_toDeedS_f (x : Ts w_toDeedS_sig.pc) : Option (Ts w_toDeedS_sig.rc) := runFn Tryd.prog (w_toDeedS_E) Tryd.f27 w_toDeedS_sig x
noncomputable def w_toDeedS_l0 (y0 : List (Int × Int × Int)) (y1 : Int) (y2 : List (Int × Int × Int)) : Option ((List (Int × Int × Int))) := from_ Tryd.prog (w_toDeedS_E) Tryd.f27 w_toDeedS_sig [1, 1, 0, 1, 0] ⟨mkT 23 [(0, .row false .deed y0), (3, .own 0), (4, .int .i64 y1)], [some (.arr 38 true .deed y2)]⟩
theorem w_toDeedS_f_eq (x0 : (List (Int × Int × Int))) : w_toDeedS_f x0 = (if (0 : Int) ≤ (List.length x0 : Int) ∧ (List.length x0 : Int) * 24 ≤ 140737488355328 ∧ (List.length x0 : Int) ≤ 140737488355328 then (w_toDeedS_l0 x0 0 (List.replicate ((List.length x0 : Int) : Int).toNat (0, 0, 0) : List (Int × Int × Int))) else none) := by
  kernel_rfl
theorem w_toDeedS_l0_eq (y0 : List (Int × Int × Int)) (y1 : Int) (y2 : List (Int × Int × Int)) : w_toDeedS_l0 y0 y1 y2 = (cond ((decide (y1 < (List.length y0 : Int)))) (if (0 : Int) ≤ y1 ∧ y1 < (List.length y0 : Int) then (Option.bind (w_toDeed_f ((List.getD y0 (y1 : Int).toNat (0, 0, 0)).1, (List.getD y0 (y1 : Int).toNat (0, 0, 0)).2.1, (List.getD y0 (y1 : Int).toNat (0, 0, 0)).2.2)) fun r1 => (if (0 : Int) ≤ y1 ∧ y1 < (List.length y2 : Int) then (w_toDeedS_l0 y0 (IntKind.i64.wrap (y1 + 1)) (List.set y2 (y1 : Int).toNat (r1.1, r1.2.1, r1.2.2))) else none)) else none) (some y2)) := by
  refine (loopK_eq Tryd.prog (w_toDeedS_E) (sub (Tryd.f27.body.getD .skip) [1, 1, 0, 1, 0, 0]) _ _).trans ?_
  kernel_rfl
theorem w_toDeedS_ent : Entb Tryd.prog 27 := ⟨Tryd.f27, by kernel_rfl, by kernel_rfl, by kernel_rfl⟩
theorem w_toDeedS_ok : CtrOk Tryd.prog 27 ⟨w_toDeedS_sig, w_toDeedS_f⟩ :=
  ctr_of (fn := Tryd.f27) (by kernel_rfl) (by kernel_rfl) (fun x : Ts w_toDeedS_sig.pc => w_toDeedS_E) (fun x => ⟨(fn_cons ⟨w_toDeed_ok, w_toDeed_ent⟩ fn_none), clo_none, wr_none⟩) (fun h => by cases h) follows_ (fun _ _ => trivial)
end FN
/-! markDeedS: it writes one number behind the other into a row of deeds. -/
namespace FN.MD
open Go Go.Proofs
noncomputable def E0 : Env' := { fn := fun _ => none, ck := ckT, cuts := [], mine := fun _ => false }
theorem E0c : E0.cuts = [] := rfl
theorem E0_ok : EnvOk Tryd.prog E0 := ⟨fn_none, clo_none, wr_none⟩
noncomputable def mB : Code := sub (Tryd.f29.body.getD .skip) [1, 0, 1, 0, 0]
theorem m_el : elemT Tryd.prog 51 = some 38 := by kernel_rfl
theorem m_sz : szOf Tryd.prog 3 = 1 := by kernel_rfl
theorem m_sz3 : szOf Tryd.prog 38 = 3 := by kernel_rfl
theorem m_info : (Tryd.prog.info? 3).isSome = true := by kernel_rfl
theorem m_o0 : offOf Tryd.prog 38 0 = some (0, 3) := by kernel_rfl
theorem m_o1 : offOf Tryd.prog 38 1 = some (1, 3) := by kernel_rfl
theorem m_o2 : offOf Tryd.prog 38 2 = some (2, 3) := by kernel_rfl
abbrev Dm := Int × Int × Int
section
variable {R : Type} {id : Nat} {e : TypeId} {f : Bool}
theorem m_store0 {h : Hp} {xs : List Dm} (hg : h.get id = some (.arr e f .deed xs)) (n : Nat) (k : Int) (K : Hp → Option R) :
    storeK Tryd.prog 3 (.ep id .deed n 0) (.int .i64 k) h K = K (h.set id (some (.arr e f .deed (xs.set n (k, (xs.getD n (0, 0, 0)).2.1, (xs.getD n (0, 0, 0)).2.2))))) := by
  simp only [storeK, cellsOf, frzs, frz, hg, m_sz, m_info]
  simp [CK.sz, oneP, CK.flds, decE, CK.dflt]
theorem m_store1 {h : Hp} {xs : List Dm} (hg : h.get id = some (.arr e f .deed xs)) (n : Nat) (k : Int) (K : Hp → Option R) :
    storeK Tryd.prog 3 (.ep id .deed n 1) (.int .i64 k) h K = K (h.set id (some (.arr e f .deed (xs.set n ((xs.getD n (0, 0, 0)).1, k, (xs.getD n (0, 0, 0)).2.2))))) := by
  simp only [storeK, cellsOf, frzs, frz, hg, m_sz, m_info]
  simp [CK.sz, oneP, CK.flds, decE, CK.dflt]
theorem m_store2 {h : Hp} {xs : List Dm} (hg : h.get id = some (.arr e f .deed xs)) (n : Nat) (k : Int) (K : Hp → Option R) :
    storeK Tryd.prog 3 (.ep id .deed n 2) (.int .i64 k) h K = K (h.set id (some (.arr e f .deed (xs.set n ((xs.getD n (0, 0, 0)).1, (xs.getD n (0, 0, 0)).2.1, k))))) := by
  simp only [storeK, cellsOf, frzs, frz, hg, m_sz, m_info]
  simp [CK.sz, oneP, CK.flds, decE, CK.dflt]
theorem get_set {h : Hp} {b b' : Blk} (hg : h.get id = some b) : Hp.get (h.set id (some b')) id = some b' := by
  have hl : id < h.length := by
    rcases Nat.lt_or_ge id h.length with hh | hh
    · exact hh
    · simp [Hp.get, List.getElem?_eq_none hh] at hg
  simp [Hp.get, hl]
theorem getD_set {xs : List Dm} {n : Nat} (h : n < xs.length) (d : Dm) : (xs.set n d).getD n (0, 0, 0) = d := by
  rw [List.getD_eq_getElem?_getD, List.getElem?_set_self h]; rfl
theorem exSeq {x y : Code} {s : St} {K : AX → St → Option R} : exCode Tryd.prog E0 (.seq x y) s K = exCode Tryd.prog E0 x s (fun e s' => match e with | .norm => exCode Tryd.prog E0 y s' K | e => K e s') := by
  rw [exCode]
  congr 1
  funext e s'
  cases e <;> first | rfl | exact cutS0 E0c
theorem exBlock {i : Nat} {b : Code} {s : St} {K : AX → St → Option R} : exCode Tryd.prog E0 (.block i b) s K = exCode Tryd.prog E0 b s (fun e s' => match e with | .ex j => if j = i then K .norm s' else K (.ex j) s' | e => K e s') := by
  rw [exCode]
  congr 1
noncomputable def q2 : Code := sub mB [0]
noncomputable def q4 : Code := sub mB [1, 0, 0, 0]
noncomputable def q5 : Code := sub mB [1, 0, 0, 1, 0]
noncomputable def q6 : Code := sub mB [1, 0, 0, 1, 1, 0]
noncomputable def q7 : Code := sub mB [1, 0, 0, 1, 1, 1, 0]
noncomputable def q8 : Code := sub mB [1, 0, 0, 1, 1, 1, 1, 0]
noncomputable def q9 : Code := sub mB [1, 0, 0, 1, 1, 1, 1, 1]
noncomputable def q3 : Code := sub mB [1, 1]
theorem q_body : mB = .seq q2 (.seq (.block 1 (.seq q4 (.seq q5 (.seq q6 (.seq q7 (.seq q8 q9)))))) q3) := by kernel_rfl
theorem q2_run {h : Hp} {xs : List Dm} (hg : h.get id = some (.arr e f .deed xs)) {i : Int} (p1 p2 p3 p4 p6 p7 p8 p9 p10 p11 p12 p13 p14 p15 p16 p17 p18 p19 p20 p21 p22 p23 p24 p25 p26 p27 p28 p29 p30 p31 p32 p33 : PV) (K : AX → St → Option R) :
    exCode Tryd.prog E0 q2 ⟨[.own id, p1, p2, p3, p4, .int .i64 i, p6, p7, p8, p9, p10, p11, p12, p13, p14, p15, p16, p17, p18, p19, p20, p21, p22, p23, p24, p25, p26, p27, p28, p29, p30, p31, p32, p33], h⟩ K = if i < xs.length then K .norm ⟨[.own id, p1, p2, p3, p4, .int .i64 i, .int .i64 i, .own id, .int .i64 xs.length, .bool true, p10, p11, p12, p13, p14, p15, p16, p17, p18, p19, p20, p21, p22, p23, p24, p25, p26, p27, p28, p29, p30, p31, p32, p33], h⟩ else K (.ex 0) ⟨[.own id, p1, p2, p3, p4, .int .i64 i, .int .i64 i, .own id, .int .i64 xs.length, .bool false, p10, p11, p12, p13, p14, p15, p16, p17, p18, p19, p20, p21, p22, p23, p24, p25, p26, p27, p28, p29, p30, p31, p32, p33], h⟩ := by
  simp only [q2, mB, sub, Tryd.f29, Option.getD_some, exCode, cutS0 E0c]
  simp only [regOrd, Bool.false_eq_true, if_false, exOps, opK, ev, ofVal, List.getD_cons_zero, List.getD_cons_succ, putT, List.set_cons_zero, List.set_cons_succ]
  simp only [lenK, hg, m_el, Option.isSome_some, if_true, binK]
  by_cases c : i < xs.length
  · rw [if_pos c]; simp only [decide_eq_true c, cond_true]
  · rw [if_neg c]; simp only [decide_eq_false c, cond_false]
theorem q4_run {h : Hp} {xs : List Dm} (hg : h.get id = some (.arr e f .deed xs)) {i k : Int} (hi : 0 ≤ i) (c : i < xs.length) (p2 p3 p4 p6 p7 p8 p9 p10 p11 p12 p13 p14 p15 p16 p17 p18 p19 p20 p21 p22 p23 p24 p25 p26 p27 p28 p29 p30 p31 p32 p33 : PV) (K : AX → St → Option R) :
    exCode Tryd.prog E0 q4 ⟨[.own id, .int .i64 k, p2, p3, p4, .int .i64 i, p6, p7, p8, p9, p10, p11, p12, p13, p14, p15, p16, p17, p18, p19, p20, p21, p22, p23, p24, p25, p26, p27, p28, p29, p30, p31, p32, p33], h⟩ K = K .norm ⟨[.own id, .int .i64 k, p2, p3, p4, .int .i64 i, p6, p7, p8, p9, p10, p11, .own id, .int .i64 i, .int .i64 k, .ep id .deed i.toNat 0, .ep id .deed i.toNat 0, p17, p18, p19, p20, p21, p22, p23, p24, p25, p26, p27, p28, p29, p30, p31, p32, p33], h.set id (some (.arr e f .deed (xs.set i.toNat (k, (xs.getD i.toNat (0, 0, 0)).2.1, (xs.getD i.toNat (0, 0, 0)).2.2))))⟩ := by
  simp only [q4, mB, sub, Tryd.f29, Option.getD_some, exCode]
  simp only [regOrd, Bool.false_eq_true, if_false, exOps, opK, ev, ofVal, List.getD_cons_zero, List.getD_cons_succ, putT, List.set_cons_zero, List.set_cons_succ]
  simp only [hg, m_el, m_sz, m_sz3, CK.sz, if_true, m_o0, Nat.one_ne_zero, if_false, Nat.zero_add]
  rw [if_pos ⟨hi, c⟩, m_store0 hg]
theorem q6_run {h : Hp} {xs : List Dm} (hg : h.get id = some (.arr e f .deed xs)) {i k : Int} (hi : 0 ≤ i) (c : i < xs.length) (p2 p3 p4 p6 p7 p8 p9 p10 p11 p12 p13 p14 p15 p16 p17 p18 p19 p20 p21 p22 p23 p24 p25 p26 p27 p28 p29 p30 p31 p32 p33 : PV) (K : AX → St → Option R) :
    exCode Tryd.prog E0 q6 ⟨[.own id, .int .i64 k, p2, p3, p4, .int .i64 i, p6, p7, p8, p9, p10, p11, p12, p13, p14, p15, p16, p17, p18, p19, p20, p21, p22, p23, p24, p25, p26, p27, p28, p29, p30, p31, p32, p33], h⟩ K = K .norm ⟨[.own id, .int .i64 k, p2, p3, p4, .int .i64 i, p6, p7, p8, p9, p10, p11, p12, p13, p14, p15, p16, p17, p18, .own id, .int .i64 i, .int .i64 k, .ep id .deed i.toNat 0, .ep id .deed i.toNat 1, p24, p25, p26, p27, p28, p29, p30, p31, p32, p33], h.set id (some (.arr e f .deed (xs.set i.toNat ((xs.getD i.toNat (0, 0, 0)).1, k, (xs.getD i.toNat (0, 0, 0)).2.2))))⟩ := by
  simp only [q6, mB, sub, Tryd.f29, Option.getD_some, exCode]
  simp only [regOrd, Bool.false_eq_true, if_false, exOps, opK, ev, ofVal, List.getD_cons_zero, List.getD_cons_succ, putT, List.set_cons_zero, List.set_cons_succ]
  simp only [hg, m_el, m_sz, m_sz3, CK.sz, if_true, m_o1, Nat.one_ne_zero, if_false, Nat.zero_add]
  rw [if_pos ⟨hi, c⟩, m_store1 hg]
theorem q8_run {h : Hp} {xs : List Dm} (hg : h.get id = some (.arr e f .deed xs)) {i k : Int} (hi : 0 ≤ i) (c : i < xs.length) (p2 p3 p4 p6 p7 p8 p9 p10 p11 p12 p13 p14 p15 p16 p17 p18 p19 p20 p21 p22 p23 p24 p25 p26 p27 p28 p29 p30 p31 p32 p33 : PV) (K : AX → St → Option R) :
    exCode Tryd.prog E0 q8 ⟨[.own id, .int .i64 k, p2, p3, p4, .int .i64 i, p6, p7, p8, p9, p10, p11, p12, p13, p14, p15, p16, p17, p18, p19, p20, p21, p22, p23, p24, p25, p26, p27, p28, p29, p30, p31, p32, p33], h⟩ K = K .norm ⟨[.own id, .int .i64 k, p2, p3, p4, .int .i64 i, p6, p7, p8, p9, p10, p11, p12, p13, p14, p15, p16, p17, p18, p19, p20, p21, p22, p23, p24, p25, .own id, .int .i64 i, .int .i64 k, .ep id .deed i.toNat 0, .ep id .deed i.toNat 2, p31, p32, p33], h.set id (some (.arr e f .deed (xs.set i.toNat ((xs.getD i.toNat (0, 0, 0)).1, (xs.getD i.toNat (0, 0, 0)).2.1, k))))⟩ := by
  simp only [q8, mB, sub, Tryd.f29, Option.getD_some, exCode]
  simp only [regOrd, Bool.false_eq_true, if_false, exOps, opK, ev, ofVal, List.getD_cons_zero, List.getD_cons_succ, putT, List.set_cons_zero, List.set_cons_succ]
  simp only [hg, m_el, m_sz, m_sz3, CK.sz, if_true, m_o2, Nat.one_ne_zero, if_false, Nat.zero_add]
  rw [if_pos ⟨hi, c⟩, m_store2 hg]
theorem q5_run {h : Hp} {k : Int} (p0 p2 p3 p4 p5 p6 p7 p8 p9 p10 p11 p12 p13 p14 p15 p16 p17 p18 p19 p20 p21 p22 p23 p24 p25 p26 p27 p28 p29 p30 p31 p32 p33 : PV) (K : AX → St → Option R) : exCode Tryd.prog E0 q5 ⟨[p0, .int .i64 k, p2, p3, p4, p5, p6, p7, p8, p9, p10, p11, p12, p13, p14, p15, p16, p17, p18, p19, p20, p21, p22, p23, p24, p25, p26, p27, p28, p29, p30, p31, p32, p33], h⟩ K = K .norm ⟨[p0, .int .i64 (IntKind.i64.wrap (k + 1)), p2, p3, p4, p5, p6, p7, p8, p9, p10, p11, p12, p13, p14, p15, p16, .int .i64 k, .int .i64 (IntKind.i64.wrap (k + 1)), p19, p20, p21, p22, p23, p24, p25, p26, p27, p28, p29, p30, p31, p32, p33], h⟩ := by kernel_rfl
theorem q7_run {h : Hp} {k : Int} (p0 p2 p3 p4 p5 p6 p7 p8 p9 p10 p11 p12 p13 p14 p15 p16 p17 p18 p19 p20 p21 p22 p23 p24 p25 p26 p27 p28 p29 p30 p31 p32 p33 : PV) (K : AX → St → Option R) : exCode Tryd.prog E0 q7 ⟨[p0, .int .i64 k, p2, p3, p4, p5, p6, p7, p8, p9, p10, p11, p12, p13, p14, p15, p16, p17, p18, p19, p20, p21, p22, p23, p24, p25, p26, p27, p28, p29, p30, p31, p32, p33], h⟩ K = K .norm ⟨[p0, .int .i64 (IntKind.i64.wrap (k + 1)), p2, p3, p4, p5, p6, p7, p8, p9, p10, p11, p12, p13, p14, p15, p16, p17, p18, p19, p20, p21, p22, p23, .int .i64 k, .int .i64 (IntKind.i64.wrap (k + 1)), p26, p27, p28, p29, p30, p31, p32, p33], h⟩ := by kernel_rfl
theorem q9_run {h : Hp} {k : Int} (p0 p2 p3 p4 p5 p6 p7 p8 p9 p10 p11 p12 p13 p14 p15 p16 p17 p18 p19 p20 p21 p22 p23 p24 p25 p26 p27 p28 p29 p30 p31 p32 p33 : PV) (K : AX → St → Option R) : exCode Tryd.prog E0 q9 ⟨[p0, .int .i64 k, p2, p3, p4, p5, p6, p7, p8, p9, p10, p11, p12, p13, p14, p15, p16, p17, p18, p19, p20, p21, p22, p23, p24, p25, p26, p27, p28, p29, p30, p31, p32, p33], h⟩ K = K .norm ⟨[p0, .int .i64 (IntKind.i64.wrap (k + 1)), p2, p3, p4, p5, p6, p7, p8, p9, p10, p11, p12, p13, p14, p15, p16, p17, p18, p19, p20, p21, p22, p23, p24, p25, p26, p27, p28, p29, p30, .int .i64 k, .int .i64 (IntKind.i64.wrap (k + 1)), p33], h⟩ := by kernel_rfl
theorem q3_run {h : Hp} {i : Int} (p0 p1 p2 p3 p4 p6 p7 p8 p9 p10 p11 p12 p13 p14 p15 p16 p17 p18 p19 p20 p21 p22 p23 p24 p25 p26 p27 p28 p29 p30 p31 p32 p33 : PV) (K : AX → St → Option R) : exCode Tryd.prog E0 q3 ⟨[p0, p1, p2, p3, p4, .int .i64 i, p6, p7, p8, p9, p10, p11, p12, p13, p14, p15, p16, p17, p18, p19, p20, p21, p22, p23, p24, p25, p26, p27, p28, p29, p30, p31, p32, p33], h⟩ K = K .norm ⟨[p0, p1, p2, p3, p4, .int .i64 (IntKind.i64.wrap (i + 1)), p6, p7, p8, p9, .int .i64 i, .int .i64 (IntKind.i64.wrap (i + 1)), p12, p13, p14, p15, p16, p17, p18, p19, p20, p21, p22, p23, p24, p25, p26, p27, p28, p29, p30, p31, p32, p33], h⟩ := by kernel_rfl
theorem m_iter {h : Hp} {xs : List Dm} (hg : h.get id = some (.arr e f .deed xs)) (hl : xs.length ≤ 2000000000000000000) {i k : Int} (hi : 0 ≤ i) (hi' : i ≤ xs.length) (hk : 0 ≤ k) (hk' : k ≤ 4611686018427387904) (a2 a3 a4 a6 a7 a8 a9 a10 a11 a12 a13 a14 a15 a16 a17 a18 a19 a20 a21 a22 a23 a24 a25 a26 a27 a28 a29 a30 a31 a32 a33 : PV) (K : AX → St → Option R) :
    exCode Tryd.prog E0 mB ⟨[.own id, .int .i64 k, a2, a3, a4, .int .i64 i, a6, a7, a8, a9, a10, a11, a12, a13, a14, a15, a16, a17, a18, a19, a20, a21, a22, a23, a24, a25, a26, a27, a28, a29, a30, a31, a32, a33], h⟩ K =
      if i < xs.length then K .norm ⟨[.own id, .int .i64 (k + 1 + 1 + 1), a2, a3, a4, .int .i64 (i + 1), .int .i64 i, .own id, .int .i64 xs.length, .bool true, .int .i64 i, .int .i64 (i + 1), .own id, .int .i64 i, .int .i64 k, .ep id .deed i.toNat 0, .ep id .deed i.toNat 0, .int .i64 k, .int .i64 (k + 1), .own id, .int .i64 i, .int .i64 (k + 1), .ep id .deed i.toNat 0, .ep id .deed i.toNat 1, .int .i64 (k + 1), .int .i64 (k + 1 + 1), .own id, .int .i64 i, .int .i64 (k + 1 + 1), .ep id .deed i.toNat 0, .ep id .deed i.toNat 2, .int .i64 (k + 1 + 1), .int .i64 (k + 1 + 1 + 1), a33], h.set id (some (.arr e f .deed (xs.set i.toNat (k, k + 1, k + 1 + 1))))⟩
      else K (.ex 0) ⟨[.own id, .int .i64 k, a2, a3, a4, .int .i64 i, .int .i64 i, .own id, .int .i64 xs.length, .bool false, a10, a11, a12, a13, a14, a15, a16, a17, a18, a19, a20, a21, a22, a23, a24, a25, a26, a27, a28, a29, a30, a31, a32, a33], h⟩ := by
  have w1 : IntKind.i64.wrap (k + 1) = k + 1 := by simp [IntKind.wrap, IntKind.bits, IntKind.signed]; split <;> omega
  have w3 : IntKind.i64.wrap (k + 1 + 1) = k + 1 + 1 := by simp [IntKind.wrap, IntKind.bits, IntKind.signed]; split <;> omega
  have w4 : IntKind.i64.wrap (k + 1 + 1 + 1) = k + 1 + 1 + 1 := by simp [IntKind.wrap, IntKind.bits, IntKind.signed]; split <;> omega
  have w2 : IntKind.i64.wrap (i + 1) = i + 1 := by simp [IntKind.wrap, IntKind.bits, IntKind.signed]; split <;> omega
  rw [q_body, exSeq, q2_run hg]
  by_cases c : i < xs.length
  · have hn : i.toNat < xs.length := by omega
    rw [if_pos c, if_pos c]
    simp only
    rw [exSeq, exBlock, exSeq, q4_run hg hi c]
    simp only
    rw [exSeq, q5_run, w1]
    simp only
    rw [exSeq, q6_run (get_set hg) hi (by rw [List.length_set]; exact c)]
    simp only
    rw [exSeq, q7_run, w3]
    simp only
    rw [exSeq, q8_run (get_set (get_set hg)) hi (by rw [List.length_set, List.length_set]; exact c)]
    simp only
    rw [q9_run, w4]
    simp only
    rw [q3_run, w2, List.set_set, List.set_set, List.set_set, List.set_set, getD_set hn, getD_set (by rw [List.length_set]; exact hn)]
  · rw [if_neg c, if_neg c]
theorem hset_same {h : Hp} {b : Blk} (hg : h.get id = some b) : h.set id (some b) = h := by
  apply List.ext_getElem?
  intro j
  rw [List.getElem?_set]
  split
  · rename_i e
    subst e
    split
    · rename_i hl
      simp only [Hp.get] at hg
      rw [List.getElem?_eq_getElem hl] at hg ⊢
      simp only [Option.getD_some] at hg
      rw [hg]
    · rename_i hl
      rw [List.getElem?_eq_none (by omega)]
  · rfl
theorem m_loop (r : Option R) (K : AX → St → Option R) : ∀ (n : Nat) {h : Hp} {xs : List Dm} (_ : h.get id = some (.arr e f .deed xs)) (_ : xs.length ≤ 2000000000000000000) {i k : Int} (_ : 0 ≤ i) (_ : i + n = xs.length) (_ : 0 ≤ k) (_ : k + 3 * n ≤ 4611686018427387904) (a2 a3 a4 a6 a7 a8 a9 a10 a11 a12 a13 a14 a15 a16 a17 a18 a19 a20 a21 a22 a23 a24 a25 a26 a27 a28 a29 a30 a31 a32 a33 : PV),
    (∀ c6 c7 c8 c9 c10 c11 c12 c13 c14 c15 c16 c17 c18 c19 c20 c21 c22 c23 c24 c25 c26 c27 c28 c29 c30 c31 c32 : PV, K (.ex 0) ⟨[.own id, .int .i64 (k + 3 * n), a2, a3, a4, .int .i64 (i + n), c6, c7, c8, c9, c10, c11, c12, c13, c14, c15, c16, c17, c18, c19, c20, c21, c22, c23, c24, c25, c26, c27, c28, c29, c30, c31, c32, a33], h.set id (some (.arr e f .deed (xs.take i.toNat ++ markD k (xs.drop i.toNat))))⟩ = r) →
    loopK E0 (exCode Tryd.prog E0 mB) mB ⟨[.own id, .int .i64 k, a2, a3, a4, .int .i64 i, a6, a7, a8, a9, a10, a11, a12, a13, a14, a15, a16, a17, a18, a19, a20, a21, a22, a23, a24, a25, a26, a27, a28, a29, a30, a31, a32, a33], h⟩ K = r := by
  intro n
  induction n with
  | zero =>
    intro h xs hg hl i k hi hn hk hk' a2 a3 a4 a6 a7 a8 a9 a10 a11 a12 a13 a14 a15 a16 a17 a18 a19 a20 a21 a22 a23 a24 a25 a26 a27 a28 a29 a30 a31 a32 a33 hr
    rw [loopK_eq, m_iter hg hl hi (by omega) hk (by omega), if_neg (by omega)]
    simp only
    have e1 : xs.take i.toNat ++ markD k (xs.drop i.toNat) = xs := by
      rw [List.drop_eq_nil_of_le (by omega), List.take_of_length_le (by omega)]
      simp [markD]
    rw [e1, hset_same hg] at hr
    have := hr (.int .i64 i) (.own id) (.int .i64 xs.length) (.bool false) a10 a11 a12 a13 a14 a15 a16 a17 a18 a19 a20 a21 a22 a23 a24 a25 a26 a27 a28 a29 a30 a31 a32
    simpa using this
  | succ n ih =>
    intro h xs hg hl i k hi hn hk hk' a2 a3 a4 a6 a7 a8 a9 a10 a11 a12 a13 a14 a15 a16 a17 a18 a19 a20 a21 a22 a23 a24 a25 a26 a27 a28 a29 a30 a31 a32 a33 hr
    rw [loopK_eq, m_iter hg hl hi (by omega) hk (by omega), if_pos (by omega)]
    simp only
    rw [cutK0 E0c]
    refine ih (get_set hg) (by rw [List.length_set]; exact hl) (by omega) (by rw [List.length_set]; omega) (by omega) (by omega) a2 a3 a4 _ _ _ _ _ _ _ _ _ _ _ _ _ _ _ _ _ _ _ _ _ _ _ _ _ _ _ a33 fun c6 c7 c8 c9 c10 c11 c12 c13 c14 c15 c16 c17 c18 c19 c20 c21 c22 c23 c24 c25 c26 c27 c28 c29 c30 c31 c32 => ?_
    have := hr c6 c7 c8 c9 c10 c11 c12 c13 c14 c15 c16 c17 c18 c19 c20 c21 c22 c23 c24 c25 c26 c27 c28 c29 c30 c31 c32
    rw [List.set_set]
    have hlt : i.toNat < xs.length := by omega
    have e1 : (xs.set i.toNat (k, k + 1, k + 1 + 1)).take (i + 1).toNat ++ markD (k + 1 + 1 + 1) ((xs.set i.toNat (k, k + 1, k + 1 + 1)).drop (i + 1).toNat) = xs.take i.toNat ++ markD k (xs.drop i.toNat) := by
      rw [show (i + 1).toNat = i.toNat + 1 by omega, List.drop_eq_getElem_cons hlt, markD, List.take_succ_eq_append_getElem (by simpa using hlt), List.append_assoc]
      congr 1
      · rw [List.take_set_of_le (Nat.le_refl _)]
      · rw [List.getElem_set_self, List.drop_set_of_lt (Nat.lt_succ_self _), show k + 1 + 1 + 1 = k + 3 by omega, show k + 1 + 1 = k + 2 by omega]
        rfl
    rw [e1, show k + 1 + 1 + 1 + 3 * (n : Int) = k + 3 * ((n + 1 : Nat) : Int) by omega, show i + 1 + (n : Int) = i + ((n + 1 : Nat) : Int) by omega]
    exact this
end
noncomputable def mR0 : Code := sub (Tryd.f29.body.getD .skip) [0]
noncomputable def mR1 : Code := sub (Tryd.f29.body.getD .skip) [1, 0, 0]
noncomputable def mR6 : Code := sub (Tryd.f29.body.getD .skip) [1, 1, 0]
theorem m_body : Tryd.f29.body.getD .skip = .seq mR0 (.seq (.seq mR1 (.block 0 (.loop mB))) (.seq mR6 .ret)) := by kernel_rfl
theorem m_r0 {R : Type} (p0 p1 p2 p3 p4 p5 p6 p7 p8 p9 p10 p11 p12 p13 p14 p15 p16 p17 p18 p19 p20 p21 p22 p23 p24 p25 p26 p27 p28 p29 p30 p31 p32 p33 : PV) (h : Hp) (K : AX → St → Option R) :
    exCode Tryd.prog E0 mR0 ⟨[p0, p1, p2, p3, p4, p5, p6, p7, p8, p9, p10, p11, p12, p13, p14, p15, p16, p17, p18, p19, p20, p21, p22, p23, p24, p25, p26, p27, p28, p29, p30, p31, p32, p33], h⟩ K = K .norm ⟨[p0, p1, p2, p3, .int .i64 0, p5, p6, p7, p8, p9, p10, p11, p12, p13, p14, p15, p16, p17, p18, p19, p20, p21, p22, p23, p24, p25, p26, p27, p28, p29, p30, p31, p32, p33], h⟩ := by kernel_rfl
theorem m_r1 {R : Type} (p0 p1 p2 p3 p4 p5 p6 p7 p8 p9 p10 p11 p12 p13 p14 p15 p16 p17 p18 p19 p20 p21 p22 p23 p24 p25 p26 p27 p28 p29 p30 p31 p32 p33 : PV) (h : Hp) (K : AX → St → Option R) :
    exCode Tryd.prog E0 mR1 ⟨[p0, p1, p2, p3, p4, p5, p6, p7, p8, p9, p10, p11, p12, p13, p14, p15, p16, p17, p18, p19, p20, p21, p22, p23, p24, p25, p26, p27, p28, p29, p30, p31, p32, p33], h⟩ K = K .norm ⟨[p0, p1, p2, p3, p4, .int .i64 0, p6, p7, p8, p9, p10, p11, p12, p13, p14, p15, p16, p17, p18, p19, p20, p21, p22, p23, p24, p25, p26, p27, p28, p29, p30, p31, p32, p33], h⟩ := by kernel_rfl
theorem m_r6 {R : Type} (p0 p1 p2 p3 p4 p5 p6 p7 p8 p9 p10 p11 p12 p13 p14 p15 p16 p17 p18 p19 p20 p21 p22 p23 p24 p25 p26 p27 p28 p29 p30 p31 p32 p33 : PV) (h : Hp) (K : AX → St → Option R) :
    exCode Tryd.prog E0 mR6 ⟨[p0, p1, p2, p3, p4, p5, p6, p7, p8, p9, p10, p11, p12, p13, p14, p15, p16, p17, p18, p19, p20, p21, p22, p23, p24, p25, p26, p27, p28, p29, p30, p31, p32, p33], h⟩ K = K .norm ⟨[p0, p1, p2, p3, p1, p5, p6, p7, p8, p9, p10, p11, p12, p13, p14, p15, p16, p17, p18, p19, p20, p21, p22, p23, p24, p25, p26, p27, p28, p29, p30, p31, p32, p1], h⟩ := by kernel_rfl
theorem m_end (p0 p1 p2 p3 p4 p5 p6 p7 p8 p9 p10 p11 p12 p13 p14 p15 p16 p17 p18 p19 p20 p21 p22 p23 p24 p25 p26 p27 p28 p29 p30 p31 p32 p33 : PV) (h : Hp) : endW Tryd.prog Tryd.f29 .ret ⟨[p0, p1, p2, p3, p4, p5, p6, p7, p8, p9, p10, p11, p12, p13, p14, p15, p16, p17, p18, p19, p20, p21, p22, p23, p24, p25, p26, p27, p28, p29, p30, p31, p32, p33], h⟩ = some (p4, h) := by kernel_rfl
theorem exLoop {R : Type} {b : Code} {s : St} {K : AX → St → Option R} : exCode Tryd.prog E0 (.loop b) s K = loopK E0 (exCode Tryd.prog E0 b) b s K := by
  rw [exCode, cutK0 E0c]
theorem exRet {R : Type} {s : St} {K : AX → St → Option R} : exCode Tryd.prog E0 .ret s K = K .ret s := by rw [exCode]
theorem m_whole {p0 p1 : PV} {h : Hp} {r : Option (PV × Hp)} (hl : ∀ K : AX → St → Option (PV × Hp), (∀ c2 c3 c4 c6 c7 c8 c9 c10 c11 c12 c13 c14 c15 c16 c17 c18 c19 c20 c21 c22 c23 c24 c25 c26 c27 c28 c29 c30 c31 c32 c33 k i q g, K (.ex 0) ⟨[q, k, c2, c3, c4, i, c6, c7, c8, c9, c10, c11, c12, c13, c14, c15, c16, c17, c18, c19, c20, c21, c22, c23, c24, c25, c26, c27, c28, c29, c30, c31, c32, c33], g⟩ = some (k, g)) → loopK E0 (exCode Tryd.prog E0 mB) mB ⟨[p0, p1, .junk, .junk, .int .i64 0, .int .i64 0, .junk, .junk, .junk, .junk, .junk, .junk, .junk, .junk, .junk, .junk, .junk, .junk, .junk, .junk, .junk, .junk, .junk, .junk, .junk, .junk, .junk, .junk, .junk, .junk, .junk, .junk, .junk, .junk], h⟩ K = r) :
    exCode Tryd.prog E0 (Tryd.f29.body.getD .skip) ⟨[p0, p1] ++ List.replicate (Tryd.f29.ntmps - 2) .junk, h⟩ (endW Tryd.prog Tryd.f29) = r := by
  have e : List.replicate (Tryd.f29.ntmps - 2) PV.junk = [.junk, .junk, .junk, .junk, .junk, .junk, .junk, .junk, .junk, .junk, .junk, .junk, .junk, .junk, .junk, .junk, .junk, .junk, .junk, .junk, .junk, .junk, .junk, .junk, .junk, .junk, .junk, .junk, .junk, .junk, .junk, .junk] := by kernel_rfl
  rw [m_body, e, exSeq, List.cons_append, List.cons_append, List.nil_append, m_r0]
  simp only
  rw [exSeq, exSeq, m_r1]
  simp only
  rw [exBlock, exLoop]
  refine hl _ fun c2 c3 c4 c6 c7 c8 c9 c10 c11 c12 c13 c14 c15 c16 c17 c18 c19 c20 c21 c22 c23 c24 c25 c26 c27 c28 c29 c30 c31 c32 c33 k i q g => ?_
  simp only [if_true]
  rw [exSeq, m_r6]
  simp only
  rw [exRet]
  exact m_end _ _ _ _ _ _ _ _ _ _ _ _ _ _ _ _ _ _ _ _ _ _ _ _ _ _ _ _ _ _ _ _ _ _ g
theorem deeds_run {id : Nat} {e : TypeId} {f : Bool} {h : Hp} {xs : List Dm} (hg : h.get id = some (.arr e f .deed xs)) (hl : xs.length ≤ 2000000000000000000) {k : Int} (hk : 0 ≤ k) (hk' : k + 3 * xs.length ≤ 4611686018427387904) :
    exCode Tryd.prog E0 (Tryd.f29.body.getD .skip) ⟨[.own id, .int .i64 k] ++ List.replicate (Tryd.f29.ntmps - 2) .junk, h⟩ (endW Tryd.prog Tryd.f29) = some (.int .i64 (k + 3 * xs.length), h.set id (some (.arr e f .deed (markD k xs)))) :=
  m_whole fun K hK => m_loop _ K xs.length hg hl (by omega) (by omega) hk hk' _ _ _ _ _ _ _ _ _ _ _ _ _ _ _ _ _ _ _ _ _ _ _ _ _ _ _ _ _ _ _ fun c6 c7 c8 c9 c10 c11 c12 c13 c14 c15 c16 c17 c18 c19 c20 c21 c22 c23 c24 c25 c26 c27 c28 c29 c30 c31 c32 => hK _ _ _ _ _ _ _ _ _ _ _ _ _ _ _ _ _ _ _ _ _ _ _ _ _ _ _ _ _ _ _ _ _ _ _
theorem m_nil {R : Type} (h : Hp) (p1 : PV) (K : AX → St → Option R) : exCode Tryd.prog E0 mB ⟨[.nilS, p1, .junk, .junk, .int .i64 0, .int .i64 0, .junk, .junk, .junk, .junk, .junk, .junk, .junk, .junk, .junk, .junk, .junk, .junk, .junk, .junk, .junk, .junk, .junk, .junk, .junk, .junk, .junk, .junk, .junk, .junk, .junk, .junk, .junk, .junk], h⟩ K = K (.ex 0) ⟨[.nilS, p1, .junk, .junk, .int .i64 0, .int .i64 0, .int .i64 0, .nilS, .int .i64 0, .bool false, .junk, .junk, .junk, .junk, .junk, .junk, .junk, .junk, .junk, .junk, .junk, .junk, .junk, .junk, .junk, .junk, .junk, .junk, .junk, .junk, .junk, .junk, .junk, .junk], h⟩ := by kernel_rfl
theorem deeds_nil {h : Hp} {k : Int} : exCode Tryd.prog E0 (Tryd.f29.body.getD .skip) ⟨[.nilS, .int .i64 k] ++ List.replicate (Tryd.f29.ntmps - 2) .junk, h⟩ (endW Tryd.prog Tryd.f29) = some (.int .i64 k, h) :=
  m_whole fun K hK => by
    rw [loopK_eq, m_nil]
    exact hK _ _ _ _ _ _ _ _ _ _ _ _ _ _ _ _ _ _ _ _ _ _ _ _ _ _ _ _ _ _ _ _ _ _ _
theorem w_markDeedS_mk : MkOk Tryd.prog 29 .deeds := by
  intro ps h h' p pin base w ρ us hk hI hH hus
  have fin : exCode Tryd.prog E0 (Tryd.f29.body.getD .skip) ⟨ps ++ List.replicate (Tryd.f29.ntmps - ps.length) .junk, h⟩ (endW Tryd.prog Tryd.f29) = some (p, h') := by
    unfold markK at hk
    split at hk
    case h_6 q k he =>
      unfold markDs at hk
      split at hk
      · injection hk with hk; injection hk with h1 h2; subst h1; subst h2; exact deeds_nil
      · split at hk
        · rename_i id e f xs hg
          split at hk
          · rename_i hc
            injection hk with hk; injection hk with h1 h2; subst h1; subst h2
            exact deeds_run hg (by have := hc.2; omega) hc.1 hc.2
          · cases hk
        · cases hk
      · cases hk
    all_goals first | (cases hk; done) | (rename_i he; cases he; done) | (rename_i he _; cases he; done) | contradiction
  exact wr_of (E := E0) E0_ok E0c follows_ (fn := Tryd.f29) (c := Tryd.f29.body.getD .skip) (by kernel_rfl) (by kernel_rfl) rfl fin hI hH hus
end FN.MD
namespace FN
open Go Go.Proofs
theorem w_markDeedS_mk : MkOk Tryd.prog 29 .deeds := MD.w_markDeedS_mk
end FN
set_option linter.unusedVariables false
namespace FN
open Go Go.Proofs
/-! loop.example/firingnets/laws.FnExactDeskRun -/
@[reducible] def w_FnExactDeskRun_sig : Sig := { ps := [some 4, none], pc := [.view .i64, .int .i64, .view .i64, .view .place, .view .deed], rs := [none], rc := [.bool] }
noncomputable def w_FnExactDeskRun_E : Env' := withWr { fn := fun f => if f = 8 then some ⟨w_szDesk_sig, w_szDesk_f⟩ else if f = 10 then some ⟨w_toDesk_sig, w_toDesk_f⟩ else if f = 13 then some ⟨w_eqDesk_sig, w_eqDesk_f⟩ else if f = 15 then some ⟨w_heldDesk_sig, w_heldDesk_f⟩ else if f = 22 then some ⟨i_DeskRun_sig, i_DeskRun_f⟩ else if f = 23 then some ⟨s_DeskRun_sig, s_DeskRun_f⟩ else if f = 26 then some ⟨w_szDeedS_sig, w_szDeedS_f⟩ else if f = 27 then some ⟨w_toDeedS_sig, w_toDeedS_f⟩ else if f = 28 then some ⟨w_eqDeedS_sig, w_eqDeedS_f⟩ else none, ck := ckT, cuts := [], mine := fun i => i == 19 || i == 24 || i == 29 || i == 31 || i == 32 || i == 36 || i == 38 || i == 42 || i == 47 || i == 56 || i == 57 || i == 61 || i == 62 || i == 66 || i == 69 || i == 75 || i == 85 || i == 88 || i == 96 || i == 98 || i == 99 || i == 104 || i == 113 } (fun f => if f = 14 then some (.desk 34 31) else if f = 29 then some (.deeds) else none)
noncomputable def w_FnExactDeskRun_f (x : Ts w_FnExactDeskRun_sig.pc) : Option (Ts w_FnExactDeskRun_sig.rc) := runFn Tryd.prog (w_FnExactDeskRun_E) Tryd.f6 w_FnExactDeskRun_sig x
theorem w_FnExactDeskRun_f_eq (x0 : (List (Int))) (x1 : (Int)) (x2 : (List (Int))) (x3 : (List (List Int × Int × List Int))) (x4 : (List (Int × Int × Int))) : w_FnExactDeskRun_f (x0, x1, x2, x3, x4) = (Option.bind (w_szDesk_f (x0, x1, x2, x3, 1048576)) fun r1 => (cond ((decide (r1 < 0))) (some true) (Option.bind (w_szDeedS_f (x4, r1)) fun r2 => (cond ((decide (r2 < 0))) (some true) (Option.bind (w_toDesk_f (x0, x1, x2, x3)) fun r3 => (Option.bind (w_toDeedS_f x4) fun r4 => (Option.bind (s_DeskRun_f (r3.1, r3.2.1, r3.2.2.1, r3.2.2.2, r4)) fun r5 => (Option.bind (w_toDesk_f (x0, x1, x2, x3)) fun r6 => (Option.bind (w_toDeedS_f x4) fun r7 => (Option.bind (i_DeskRun_f (r6.1, r6.2.1, r6.2.2.1, r6.2.2.2, r7)) fun r8 => (Option.bind (w_eqDesk_f (r8.1, r8.2.1, r8.2.2.1, r8.2.2.2.1, r5.1, r5.2.1, r5.2.2.1, r5.2.2.2.1)) fun r9 => (cond ((!r9)) (some false) (cond ((r8.2.2.2.2 != r5.2.2.2.2)) (some false) (Option.bind (w_toDesk_f (x0, x1, x2, x3)) fun r10 => (Option.bind (w_eqDesk_f (r6.1, r6.2.1, r6.2.2.1, r6.2.2.2, r10.1, r10.2.1, r10.2.2.1, r10.2.2.2)) fun r11 => (cond ((!r11)) (some false) (Option.bind (w_toDeedS_f x4) fun r12 => (Option.bind (w_eqDeedS_f (r7, r12)) fun r13 => (cond ((!r13)) (some false) (if (0 : Int) ≤ 1 ∧ 1 + (List.length r6.1 : Int) ≤ 4611686018427387904 then (if (0 : Int) ≤ (1 + (List.length r6.1 : Int)) ∧ (1 + (List.length r6.1 : Int)) + (List.length r6.2.2.1 : Int) ≤ 4611686018427387904 then (if (0 : Int) ≤ ((1 + (List.length r6.1 : Int)) + (List.length r6.2.2.1 : Int)) ∧ ((1 + (List.length r6.1 : Int)) + (List.length r6.2.2.1 : Int)) + szPl r6.2.2.2 ≤ 4611686018427387904 then (if (0 : Int) ≤ (((1 + (List.length r6.1 : Int)) + (List.length r6.2.2.1 : Int)) + szPl r6.2.2.2) ∧ (((1 + (List.length r6.1 : Int)) + (List.length r6.2.2.1 : Int)) + szPl r6.2.2.2) + 3 * (List.length r7 : Int) ≤ 4611686018427387904 then (cond ((decide (((((1 + (List.length r6.1 : Int)) + (List.length r6.2.2.1 : Int)) + szPl r6.2.2.2) + 3 * (List.length r7 : Int)) < 0))) (some false) (Option.bind (w_eqDesk_f (r8.1, r8.2.1, r8.2.2.1, r8.2.2.2.1, r5.1, r5.2.1, r5.2.2.1, r5.2.2.2.1)) fun r14 => (cond ((!r14)) (some false) (cond ((r8.2.2.2.2 != r5.2.2.2.2)) (some false) (if (0 : Int) ≤ 1 ∧ 1 + (List.length r8.1 : Int) ≤ 4611686018427387904 then (if (0 : Int) ≤ (1 + (List.length r8.1 : Int)) ∧ (1 + (List.length r8.1 : Int)) + (List.length r8.2.2.1 : Int) ≤ 4611686018427387904 then (if (0 : Int) ≤ ((1 + (List.length r8.1 : Int)) + (List.length r8.2.2.1 : Int)) ∧ ((1 + (List.length r8.1 : Int)) + (List.length r8.2.2.1 : Int)) + szPl r8.2.2.2.1 ≤ 4611686018427387904 then (Option.bind (w_heldDesk_f ((markL 1 r8.1), r8.2.1, (markL (1 + (List.length r8.1 : Int)) r8.2.2.1), (markPl ((1 + (List.length r8.1 : Int)) + (List.length r8.2.2.1 : Int)) r8.2.2.2.1), 1)) fun r15 => (cond ((decide (r15 < 0))) (some false) (cond ((r15 != (((1 + (List.length r8.1 : Int)) + (List.length r8.2.2.1 : Int)) + szPl r8.2.2.2.1))) (some false) (Option.bind (w_toDesk_f (x0, x1, x2, x3)) fun r16 => (Option.bind (w_toDeedS_f x4) fun r17 => (Option.bind (i_DeskRun_f (r16.1, r16.2.1, r16.2.2.1, r16.2.2.2, r17)) fun r18 => (Option.bind (w_eqDesk_f (r18.1, r18.2.1, r18.2.2.1, r18.2.2.2.1, r5.1, r5.2.1, r5.2.2.1, r5.2.2.2.1)) fun r19 => (cond ((!r19)) (some false) (cond ((r18.2.2.2.2 != r5.2.2.2.2)) (some false) (Option.bind (w_heldDesk_f ((markL 1 r8.1), r8.2.1, (markL (1 + (List.length r8.1 : Int)) r8.2.2.1), (markPl ((1 + (List.length r8.1 : Int)) + (List.length r8.2.2.1 : Int)) r8.2.2.2.1), 1)) fun r20 => (cond ((decide (r20 < 0))) (some false) (cond ((r20 != (((1 + (List.length r8.1 : Int)) + (List.length r8.2.2.1 : Int)) + szPl r8.2.2.2.1))) (some false) (some true))))))))))))) else none) else none) else none))))) else none) else none) else none) else none)))))))))))))))))))) := by
  kernel_rfl
theorem w_FnExactDeskRun_ent : Entb Tryd.prog 6 := ⟨Tryd.f6, by kernel_rfl, by kernel_rfl, by kernel_rfl⟩
theorem w_FnExactDeskRun_ok : CtrOk Tryd.prog 6 ⟨w_FnExactDeskRun_sig, w_FnExactDeskRun_f⟩ :=
  ctr_of (fn := Tryd.f6) (by kernel_rfl) (by kernel_rfl) (fun x : Ts w_FnExactDeskRun_sig.pc => w_FnExactDeskRun_E) (fun x => withWr_ok ⟨(fn_cons ⟨w_szDesk_ok, w_szDesk_ent⟩ (fn_cons ⟨w_toDesk_ok, w_toDesk_ent⟩ (fn_cons ⟨w_eqDesk_ok, w_eqDesk_ent⟩ (fn_cons ⟨w_heldDesk_ok, w_heldDesk_ent⟩ (fn_cons ⟨i_DeskRun_ok, i_DeskRun_ent⟩ (fn_cons ⟨s_DeskRun_ok, s_DeskRun_ent⟩ (fn_cons ⟨w_szDeedS_ok, w_szDeedS_ent⟩ (fn_cons ⟨w_toDeedS_ok, w_toDeedS_ent⟩ (fn_cons ⟨w_eqDeedS_ok, w_eqDeedS_ent⟩ fn_none))))))))), clo_none, wr_none⟩ (tab_cons w_markDesk_mk (tab_cons w_markDeedS_mk (tab_none)))) (fun h => by cases h) follows_ (fun _ _ => trivial)
end FN
