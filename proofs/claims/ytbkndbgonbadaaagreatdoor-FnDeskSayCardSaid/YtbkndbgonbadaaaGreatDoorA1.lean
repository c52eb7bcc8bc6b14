/- Texts of the proof, joined: The interpreter, and that it is sound. -/
import Derived.OrdersHeld
import Derived.Control
import Derived.Test.YtbkndbgonbadaaaGreatDoorA0
set_option linter.unusedVariables false
set_option linter.unusedSimpArgs false
set_option linter.unusedSectionVars false
namespace FN
open Go Go.RowKit
theorem setRow_back {w : World} {g : Nat} {a b : Array Value} {t : TypeId} {fr : Nat × Nat} (h : w.heap[g]? = some (.cells b t fr)) : (w.setRow g a).setRow g b = w := by
  have : ((w.setRow g a).setRow g b).heap = w.heap := by
    apply Array.ext_getElem?
    intro k
    by_cases hk : k = g
    · subst hk
      have h1 := setRow_heap w k b a t fr h
      rw [setRow_heap _ k a b t fr h1, h]
    · rw [setRow_other _ g k b hk, setRow_other w g k a hk]
  unfold World.setRow at this ⊢
  simp only at this ⊢
  cases w
  simp only at this ⊢
  rw [this]
theorem F2.snoc {α β : Type} {R : α → β → Prop} {as : List α} {bs : List β} {q : α} {b : β} (h : F2 R as (bs ++ [b])) (hq : as.getLast? = some q) : F2 R as.dropLast bs ∧ R q b := by
  have hl := h.len
  simp at hl
  have h1 := h.take bs.length
  have h2 := h.drop bs.length
  rw [List.take_left] at h1
  rw [List.drop_left] at h2
  have hd : as.dropLast = as.take bs.length := by rw [List.dropLast_eq_take, hl]; rfl
  refine ⟨by rw [hd]; exact h1, ?_⟩
  have hne : as ≠ [] := by intro e; subst e; simp at hl
  have : as.drop bs.length = [q] := by
    rw [List.getLast?_eq_some_iff] at hq
    obtain ⟨ys, rfl⟩ := hq
    have : ys.length = bs.length := by simp at hl; exact hl
    rw [← this, List.drop_left]
  rw [this] at h2
  cases h2 with
  | cons h3 _ => exact h3
section
variable [Gl] {P : Program} {E : Env'} {w : World} {base : Nat} {ρ : Rh} {h : Hp} {pin : Pn}
/-- What a call brings. -/
def CallR (P : Program) (pin : Pn) (base : Nat) (f : FuncId) (w : World) (us : List Value) (ρ : Rh) (h : Hp) (p : PV) (h' : Hp) (gg : Bool) : Prop :=
  Calls P f us.toArray w fun e w' => ∃ v, e = .returned v ∧ ∃ ρ', HRel (mine pin base) w' base ρ' h' ∧ (vw w base ρ h).Le (vw w' base ρ' h') ∧ V (vw w' base ρ' h') p v ∧ Kp pin base w w' ∧ (gg = true → Grows w w')
theorem callG_none (hI : Gl.I w) {c : Ctr'} {f : FuncId} (hc : CtrOk P f c) (hH : HRel (mine pin base) w base ρ h) {args : List PV} {us : List Value} (hargs : F2 (V (vw w base ρ h)) args us) (hrd : c.sig.rd = none) {mn : Bool} {p : PV} {h' : Hp}
    (hk : callG c args mn h (fun p h => some (p, h)) = some (p, h')) : CallR P pin base f w us ρ h p h' true := by
  unfold callG at hk
  simp only [hrd] at hk
  -- the arguments
  have hz : ∀ z : List PV × Hp, z = (if c.sig.sh then frzDs h args else (args, h)) → ∃ ρ1, HRel (mine pin base) w base ρ1 z.2 ∧ (vw w base ρ h).Le (vw w base ρ1 z.2) ∧ F2 (V (vw w base ρ1 z.2)) z.1 us := by
    rintro z rfl
    by_cases hs : c.sig.sh = true
    · rw [if_pos hs]
      obtain ⟨ρ1, a1, a2, a3, _⟩ := frzDs_sound hH (qs := (frzDs h args).1) (H' := (frzDs h args).2) rfl hargs
      exact ⟨ρ1, a1, a2, a3⟩
    · rw [if_neg hs]
      exact ⟨ρ, hH, Vw.Le.refl _, hargs⟩
  generalize hzz : (if c.sig.sh then frzDs h args else (args, h)) = z at hk
  obtain ⟨ρ1, H1, L1, A1⟩ := hz z hzz.symm
  let okc : Nat → Prop := if c.sig.sh = true then okOf ρ1 z.2 else fun _ => True
  have hA : F2 (V2 (av w okc)) (z.1.map (if c.sig.sh then plain else seen z.2)) us := by
    by_cases hs : c.sig.sh = true
    · simp only [hs, if_true, okc]
      exact F2.map (A1.imp fun _ _ hv => plain_av hv)
    · simp only [hs, okc]
      exact F2.map (A1.imp fun _ _ hv => seen_V H1 hv fun _ => trivial)
  split at hk
  · cases hk
  · rename_i fl hfl
    obtain ⟨fls, e1, e2⟩ := flat_V hfl hA
    split at hk
    · cases hk
    · rename_i x hx
      have hX := inCs_V hx e2
      obtain ⟨r, hr, hk⟩ := Option.bind_eq_some_iff.1 hk
      have hcall := hc w okc us.toArray none x r hI (by unfold ArgR; simp only [hrd]; exact ⟨trivial, fls, by simpa using e1, hX⟩) hr
      refine hcall.mono fun e w' hh => ?_
      obtain ⟨v, rfl, hret, hkp⟩ := hh
      refine ⟨v, rfl, ?_⟩
      have hkp' : ∀ k, k < w.heap.size → w'.heap[k]? = w.heap[k]? := fun k hk' => hkp.block k hk' (by rintro ⟨b, hb⟩; cases hb)
      have hK : Kp pin base w w' := ⟨hkp.os, hkp.tape, hkp.output, hkp.size, fun k hk' _ => hkp' k (by have := hH.bs; omega)⟩
      obtain ⟨us', sp, ho, hinj, hsh⟩ := hret
      have hview : c.sig.rc.any isView = true → ∀ (ck : CK) xs u, SlR w' (fun k => (okc k ∨ w.heap.size ≤ k) ∧ (∀ u ∈ rowsV c.sig.rc us', blkOf u ≠ some k) ∧ ¬ sp k) ck xs u → SlR w' (fun k => (okOf ρ1 z.2 k ∨ w.heap.size ≤ k) ∧ ∀ u ∈ rowsV c.sig.rc us', blkOf u ≠ some k) ck xs u := by
        intro hv ck xs u hu
        have hs : c.sig.sh = true := hv
        refine hu.tr ⟨Nat.le_refl _, fun k hk' _ => ⟨rfl, ?_, hk'.2.1⟩⟩
        have := hk'.1
        simp only [okc, hs, if_true] at this
        exact this
      cases hnn : nnB c.sig r with
      | true =>
        rw [hnn, condA_true] at hk
        injection hk with hk
        injection hk with hk1 hk2
        subst hk1; subst hk2
        have hv0 : v = .slice none 0 0 := by
          cases hnw : c.sig.nw with
          | none =>
            simp only [hrd, hnw] at hsh
            exact hsh.2.1 hnn
          | some t =>
            exfalso
            simp only [hrd, hnw] at hsh
            obtain ⟨g, u, q, rfl, _⟩ := hsh
            have hone : ∀ (rs : List RS) (x : Ts rs) (W : World) (b : Nat) (o1 o2 : Nat → Prop), emptyB rs x = true → OutsR W b o1 o2 rs x [u, q] → False := by
              intro rs x W b o1 o2 he ho
              unfold emptyB at he
              split at he
              · obtain ⟨_, h1, _⟩ := ho
                cases h1
              · cases he
            unfold nnB at hnn
            simp only [Bool.and_eq_true] at hnn
            exact hone _ _ _ _ _ _ hnn.2 ho
        obtain ⟨g1, g2⟩ := H1.grow (H1 := z.2) (W' := w') (news := []) (vs := []) rfl (fun _ _ h => h) hkp.size (fun k hk' _ => hkp' k hk') rfl (fun j v g hv => by simp at hv) (fun i j u v g hu => by simp at hu) (fun _ j b v hb => by simp at hb)
        refine ⟨_, by simpa using g1, L1.trans (by simpa using g2), ?_, hK, fun _ => ⟨hkp.size, hkp'⟩⟩
        rw [hv0]
        rfl
      | false =>
      rw [hnn, condA_false] at hk
      cases hnw : c.sig.nw with
      | none =>
        simp only [hrd, hnw] at hsh
        simp only [hnw] at hk
        obtain ⟨_, _, vs, hvs, rfl⟩ := hsh
        obtain ⟨G1, G2, G3⟩ := grow_outs H1 hkp.size hkp' (fun _ _ => rfl) ho hinj rfl (fun k hk => hk.2.1) hview
        obtain ⟨p', h2, ρ2, b1, b2, b3, b4⟩ := resK_sound (R := PV × Hp) (mine' := mn) G1 G3 hvs
        rw [b1] at hk
        injection hk with hk
        injection hk with hk1 hk2
        subst hk1; subst hk2
        exact ⟨ρ2, b2, (L1.trans G2).trans b3, b4, hK, fun _ => ⟨hkp.size, hkp'⟩⟩
      | some t =>
        simp only [hrd, hnw] at hsh
        simp only [hnw] at hk
        obtain ⟨g, u, q, rfl, rfl, hg, hcell, hsp⟩ := hsh
        obtain ⟨hln, hblk, hV⟩ := outs_all z.2.length ho
        split at hk
        · rename_i po qo hout
          injection hk with hk
          injection hk with hk1 hk2
          subst hk1; subst hk2
          rw [hout] at hln hV
          have hnil : rowsV c.sig.rc [u, q] = [] := List.eq_nil_of_length_eq_zero hln.symm
          have hgrow := H1.grow (H1 := z.2) (W' := w') (news := [.box t [po, qo]]) (vs := [.pointer (some ⟨g, 0, none⟩)]) rfl (fun _ _ h => h) hkp.size (fun k hk' _ => hkp' k hk') rfl (fun j v g' hv hg' => by
              cases j with
              | zero => simp at hv; subst hv; simp [blkOf] at hg'; exact .inl (by omega)
              | succ j => simp at hv) (fun i j u1 u2 g' hi hj _ _ => by
              have h1 := (List.getElem?_eq_some_iff.1 hi).1
              have h2 := (List.getElem?_eq_some_iff.1 hj).1
              simp at h1 h2; omega) (fun hle j b v hb hv => by
              cases j with
              | succ j => simp at hb
              | zero =>
                simp at hb hv
                subst hb; subst hv
                refine ⟨g, _, rfl, .inl (Nat.le_trans hH.bs hg), hcell, ?_⟩
                have hnew : ∀ k, w.heap.size ≤ k → ¬ sp k → okOf (ext ρ1 z.2.length [.pointer (some ⟨g, 0, none⟩)]) (z.2 ++ [some (.box t [po, qo])]) k := by
                  refine fun k h1 hns => ⟨H1.ok0 k (Nat.le_trans H1.bs h1), fun i hi hb => ?_⟩
                  have hi' : Hp.get (z.2 ++ [Blk.box t [po, qo]].map some) i ≠ none := hi
                  rw [Hp.get_app] at hi'
                  by_cases hc' : i < z.2.length
                  · rw [if_pos hc'] at hi'
                    rw [ext_old hc'] at hb
                    have := H1.lt hi' hb; omega
                  · rw [if_neg hc'] at hi'
                    have hi0 : i - z.2.length = 0 := by
                      rcases Nat.eq_zero_or_pos (i - z.2.length) with h' | h'
                      · exact h'
                      · rw [List.getElem?_eq_none (by simp only [List.length_cons, List.length_nil]; omega)] at hi'; exact absurd rfl hi'
                    have he := ext_new (ρ := ρ1) (N := z.2.length) (vs := [.pointer (some ⟨g, 0, none⟩)]) (j := 0) rfl
                    rw [show i = z.2.length + 0 by omega, he] at hb
                    simp [blkOf] at hb
                    exact hns ((hsp k).2 hb.symm)
                refine hV _ (fun hv ck xs u' hu' => ?_) (fun ck xs u' hu' => hu'.tr ⟨Nat.le_refl _, fun k hk' _ => ⟨rfl, hnew k hk'.2 hk'.1.2.2, fun _ => Nat.le_trans hH.bs hk'.2⟩⟩) (fun j u' hj => by rw [hnil] at hj; simp at hj)
                have hs : c.sig.sh = true := hv
                refine hu'.tr ⟨Nat.le_refl _, fun k hk' _ => ⟨rfl, ⟨?_, fun i hi hb => ?_⟩, fun e => by cases e⟩⟩
                · rcases hk'.1 with h1 | h1
                  · simp only [okc, hs, if_true] at h1
                    exact h1.1
                  · exact H1.ok0 k (Nat.le_trans H1.bs h1)
                · rw [Hp.get_app] at hi
                  by_cases hc' : i < z.2.length
                  · rw [if_pos hc'] at hi
                    rw [ext_old hc'] at hb
                    rcases hk'.1 with h1 | h1
                    · simp only [okc, hs, if_true] at h1
                      exact h1.2 i hi hb
                    · have := H1.lt hi hb; omega
                  · rw [if_neg hc'] at hi
                    have hi0 : i - z.2.length = 0 := by
                      rcases Nat.eq_zero_or_pos (i - z.2.length) with h' | h'
                      · exact h'
                      · rw [List.getElem?_eq_none (by simp only [List.length_cons, List.length_nil]; omega)] at hi; exact absurd rfl hi
                    have he := ext_new (ρ := ρ1) (N := z.2.length) (vs := [.pointer (some ⟨g, 0, none⟩)]) (j := 0) rfl
                    rw [show i = z.2.length + 0 by omega, he] at hb
                    simp [blkOf] at hb
                    exact hk'.2.2 ((hsp k).2 hb.symm))
          obtain ⟨G1, G2⟩ := hgrow
          refine ⟨_, G1, L1.trans G2, ?_, hK, fun _ => ⟨hkp.size, hkp'⟩⟩
          refine ⟨by simp [vw], g, ?_, rfl⟩
          have := ext_new (ρ := ρ1) (N := z.2.length) (vs := [.pointer (some ⟨g, 0, none⟩)]) (j := 0) rfl
          simpa [vw] using this
        · cases hk
end
end FN

namespace FN
open Go Go.RowKit
section
variable [Gl] {P : Program} {E : Env'} {w : World} {base : Nat} {ρ : Rh} {h : Hp} {pin : Pn}
theorem rdOf_some {t : TypeId} {args : List PV} {id : Nat} {cells rest : List PV} (hr : rdOf t h args = some (id, cells, rest)) : args = .ptr id 0 :: rest ∧ h.get id = some (.box t cells) := by
  unfold rdOf at hr
  split at hr
  · rename_i id' rest'
    split at hr
    · rename_i t' cells' hg
      split at hr
      · rename_i ht
        subst ht
        injection hr with hr
        injection hr with h1 h2
        injection h2 with h2 h3
        subst h1; subst h2; subst h3
        exact ⟨rfl, hg⟩
      · cases hr
    · cases hr
  · cases hr
theorem callG_rd (hI : Gl.I w) {gg : Bool} (hgg : gg = false) {c : Ctr'} {f : FuncId} (hc : CtrOk P f c) (hH : HRel (mine pin base) w base ρ h) {args : List PV} {us : List Value} (hargs : F2 (V (vw w base ρ h)) args us) {t : TypeId} (hrd : c.sig.rd = some t) {mn : Bool} {p : PV} {h' : Hp}
    (hk : callG c args mn h (fun p h => some (p, h)) = some (p, h')) : CallR P pin base f w us ρ h p h' gg := by
  unfold callG at hk
  simp only [hrd] at hk
  split at hk
  · cases hk
  · rename_i id cells rest hro
    obtain ⟨rfl, hbox⟩ := rdOf_some hro
    cases hargs with
    | @cons _ u0 _ us' hu0 hrest =>
    obtain ⟨ρ1, H1, L1, A1, hlen, hsub⟩ := frzDs_sound hH (qs := (frzDs h rest).1) (H' := (frzDs h rest).2) rfl hrest
    have hbox1 := frzDs_box (ps := rest) hbox
    generalize frzDs h rest = z at *
    have hid : id < h.length := Hp.get_lt (by rw [hbox]; simp)
    obtain ⟨g, cur, hρ, hmine, hcell, hcs⟩ := H1.blk id _ hbox1
    have hρ0 : ρ id = ρ1 id := (L1.ρ id hid).symm
    have hu0' : u0 = .pointer (some ⟨g, 0, none⟩) := by
      obtain ⟨_, g', e1, e2⟩ := hu0
      have e1' : ρ id = .pointer (some ⟨g', 0, none⟩) := e1
      rw [hρ0, hρ] at e1'
      injection e1' with e1'
      injection e1' with e1'
      injection e1' with e1'
      rw [e2, e1']
    have hgl : g < w.heap.size := (Array.getElem?_eq_some_iff.1 hcell).1
    split at hk
    · cases hk
    · rename_i fl hfl
      have hA : F2 (V2 (av w (okOf ρ1 z.2))) (z.1.map plain) us' := F2.map (A1.imp fun _ _ hv => plain_av hv)
      obtain ⟨fls, e1, e2⟩ := flat_V hfl hA
      split at hk
      · cases hk
      · rename_i x hx
        obtain ⟨r, hr, hk⟩ := Option.bind_eq_some_iff.1 hk
        split at hk
        · rename_i c0 c1 b ps q hps hq _
          -- the box's cells
          obtain ⟨u, pv, rfl⟩ : ∃ u pv, cur = #[u, pv] := by
            have two : ∀ l : List Value, F2 (V1 (vw w base ρ1 z.2)) [c0, c1] l → ∃ u pv, l = [u, pv] := by
              intro l hl
              cases hl with
              | cons _ h2 => cases h2 with
                | cons _ h3 => cases h3; exact ⟨_, _, rfl⟩
            obtain ⟨u, pv, e⟩ := two _ hcs
            exact ⟨u, pv, by rw [← Array.toArray_toList (xs := cur), e]⟩
          have hcs' : F2 (V2 (av w (okOf ρ1 z.2))) ([c0, c1].map plain1) [u, pv] := F2.map (hcs.imp fun _ _ hv => V2_of_V1 (plain1_av hv))
          have hX := inCs_V hx (hcs'.app e2)
          have hng : ¬ okOf ρ1 z.2 g := fun hk' => hk'.2 id (by rw [hbox1]; simp) (by rw [hρ]; rfl)
          have hcall := hc w (okOf ρ1 z.2) (u0 :: us').toArray (some (g, b)) x r hI (by
            unfold ArgR
            simp only [hrd]
            exact ⟨g, b, u, pv, us', fls, ps, rfl, by simp [hu0'], hcell, hng, e1, hps, hX⟩) hr
          refine hcall.mono fun e w' hh => ?_
          obtain ⟨v, rfl, hret, hkp⟩ := hh
          refine ⟨v, rfl, ?_⟩
          have hkp' : ∀ k, k < w.heap.size → k ≠ g → w'.heap[k]? = w.heap[k]? := fun k hk' hne => hkp.block k hk' (by rintro ⟨b', hb⟩; injection hb with hb; injection hb with hb _; exact hne hb.symm)
          have hK : Kp pin base w w' := ⟨hkp.os, hkp.tape, hkp.output, hkp.size, fun k hk' hp => hkp' k (by have := hH.bs; omega) (by
            rintro rfl
            rcases hmine with hm | hm
            · omega
            · exact hp hm)⟩
          obtain ⟨us'', sp, ho, hinj, hsh⟩ := hret
          cases hnw : c.sig.nw with
          | some t' => simp only [hrd, hnw] at hsh
          | none =>
            simp only [hrd, hnw] at hsh
            obtain ⟨g', b', u', q', us0, vs, hbx, rfl, hvs, rfl, hcell', hbr, hsp⟩ := hsh
            injection hbx with hbx
            injection hbx with h1 h2
            subst h1; subst h2
            -- the world with the reader as it was
            have hWg : (w'.setRow g #[u, pv]).heap[g]? = some (.cells #[u, pv] t (0, 0)) := setRow_heap w' g _ _ t (0, 0) hcell'
            have hsz : w'.heap.size = (w'.setRow g #[u, pv]).heap.size := by simp
            have hview : c.sig.rc.any isView = true → ∀ (ck : CK) xs v, SlR w' (fun k => (okOf ρ1 z.2 k ∨ w.heap.size ≤ k) ∧ (∀ v ∈ rowsV c.sig.rc (us0 ++ [q']), blkOf v ≠ some k) ∧ ¬ sp k) ck xs v → SlR (w'.setRow g #[u, pv]) (fun k => (okOf ρ1 z.2 k ∨ w.heap.size ≤ k) ∧ ∀ v ∈ rowsV c.sig.rc (us0 ++ [q']), blkOf v ≠ some k) ck xs v := by
              intro _ ck xs v hv
              exact hv.tr ⟨Nat.le_of_eq hsz, fun k hk' _ => ⟨setRow_other w' g k _ (fun e => hk'.2.2 ((hsp k).2 e)), hk'.1, hk'.2.1⟩⟩
            obtain ⟨G1, G2, G3⟩ := grow_outs (w' := w') (W := w'.setRow g #[u, pv]) (x := r) H1 (hsz ▸ hkp.size) (fun k hk' => by
                by_cases hkg : k = g
                · subst hkg; exact hWg.trans hcell.symm
                · rw [setRow_other w' g k _ hkg]; exact hkp' k hk' hkg) (fun k hk' => setRow_other w' g k _ (by omega)) ho hinj hsz (fun k hk => hk.2.1) hview
            obtain ⟨G4, G5⟩ := F2.snoc G3 hq
            have hidz : id < z.2.length := by omega
            have hbox2 : Hp.get (z.2 ++ (outCs z.2.length c.sig.rc r).1.map some) id = some (.box t [c0, c1]) := by
              rw [Hp.get_app, if_pos hidz]; exact hbox1
            have hρ2 : (ext ρ1 z.2.length (rowsV c.sig.rc (us0 ++ [q']))) id = .pointer (some ⟨g, 0, none⟩) := by rw [ext_old hidz]; exact hρ
            have hput := G1.put (id := id) (g := g) (b' := .box t [.row false .u8 b, q]) (arr := #[u', q']) hbox2 (by rw [hρ2]; rfl) hWg (fun hle hg2 => by
              refine ⟨g, #[u', q'], hρ2, hmine, hg2, .cons ?_ (.cons (G5.le hle) .nil)⟩
              show SlR ((w'.setRow g #[u, pv]).setRow g #[u', q']) _ .u8 b u'
              rw [setRow_back hcell']
              refine hbr.tr ⟨Nat.le_refl _, fun k hk' _ => ⟨rfl, ⟨?_, fun i hi hb => ?_⟩, fun e => by cases e⟩⟩
              · rcases hk'.1 with h1 | h1
                · exact h1.1
                · exact H1.ok0 k (Nat.le_trans H1.bs h1)
              · have hi' : Hp.get (z.2 ++ (outCs z.2.length c.sig.rc r).1.map some) i ≠ none := by
                  rw [Hp.get_set] at hi
                  split at hi
                  · rename_i he; rw [he.1, hbox2]; simp
                  · exact hi
                rw [Hp.get_app] at hi'
                by_cases hc' : i < z.2.length
                · rw [if_pos hc'] at hi'
                  rw [ext_old hc'] at hb
                  by_cases hig : i = id
                  · rw [hig, hρ] at hb
                    simp [blkOf] at hb
                    exact hk'.2.2 ((hsp k).2 hb.symm)
                  · rcases hk'.1 with h1 | h1
                    · exact h1.2 i hi' hb
                    · have := H1.lt hi' hb; omega
                · rw [if_neg hc'] at hi'
                  have hln := (outs_all z.2.length ho).1
                  have hj : i - z.2.length < (rowsV c.sig.rc (us0 ++ [q'])).length := by
                    rcases Nat.lt_or_ge (i - z.2.length) (outCs z.2.length c.sig.rc r).1.length with h' | h'
                    · omega
                    · rw [List.getElem?_eq_none h'] at hi'; exact absurd rfl hi'
                  have he := ext_new (ρ := ρ1) (N := z.2.length) (List.getElem?_eq_getElem hj)
                  rw [show z.2.length + (i - z.2.length) = i by omega] at he
                  rw [he] at hb
                  exact hk'.2.1 _ (List.getElem_mem hj) hb)
            rw [setRow_back hcell'] at hput
            obtain ⟨G6, G7⟩ := hput
            obtain ⟨p', h2, ρ2, b1, b2, b3, b4⟩ := resK_sound (R := PV × Hp) (mine' := mn) G6 (G4.imp fun _ _ => V1.le G7) hvs
            rw [b1] at hk
            injection hk with hk
            injection hk with hk1 hk2
            subst hk1; subst hk2
            exact ⟨ρ2, b2, ((L1.trans G2).trans G7).trans b3, b4, hK, fun h => by rw [hgg] at h; cases h⟩
        · cases hk
theorem callG_sound (hI : Gl.I w) {c : Ctr'} {f : FuncId} (hc : CtrOk P f c) (hH : HRel (mine pin base) w base ρ h) {args : List PV} {us : List Value} (hargs : F2 (V (vw w base ρ h)) args us) {mn : Bool} {p : PV} {h' : Hp}
    (hk : callG c args mn h (fun p h => some (p, h)) = some (p, h')) : CallR P pin base f w us ρ h p h' c.sig.rd.isNone := by
  cases hrd : c.sig.rd with
  | none => exact callG_none hI hc hH hargs hrd hk
  | some t => exact callG_rd hI rfl hc hH hargs hrd hk
end
end FN

namespace FN
open Go Go.RowKit
section
variable [Gl] {P : Program} {E : Env'} {gg : Bool} {w : World} {base : Nat} {ρ : Rh} {h : Hp} {pin : Pn} {o : Oper} {a : Act} {t : List PV}
theorem run_call {f : FuncId} {as : Array Operand} {ts : Array TypeId} (he : Entb P f) (ho : o.op = .call { callee := .value (.func f), args := as, argTypes := ts }) : (execOp a.eval o).run P w = .ok (.enter f (as.toList.map a.eval).toArray) w := by
  obtain ⟨fn, hf, hname, hb⟩ := he
  have h1 : fn.name ≠ "runtime.NumGoroutine" := by simpa using hname
  obtain ⟨c, hc⟩ := Option.isSome_iff_exists.1 hb
  have he : (callFunc f (as.toList.map a.eval).toArray).run P w = .ok (.enter f (as.toList.map a.eval).toArray) w := by simp [callFunc, hf, h1, hc]
  have hm : (as.toList.map a.eval).toArray = as.map a.eval := by apply Array.ext'; simp
  unfold execOp
  rw [hm] at he ⊢
  simp [ho, resolve, Deferred.ofValue, invoke, Act.eval]
  exact he
variable (hE : EnvOk P E) (hI : ∀ w', Kp pin base w w' → Gl.I w') (hH : HRel (mine pin base) w base ρ h) (hop : ∀ x, V (vw w base ρ h) (ev t x) (a.eval x))
include hE hI hH hop
theorem good_call {f : FuncId} (hgg : gg = true → (E.fn f).isSome = true ∧ ∀ c, E.fn f = some c → c.sig.rd.isNone = true) {as : Array Operand} {ts : Array TypeId} (mn : Bool) (ho : o.op = .call { callee := .value (.func f), args := as, argTypes := ts }) : Good P pin base gg o a w ρ h fun _ K => callK E f (as.toList.map (ev t)) mn h K := by
  refine ⟨fun R K r hk => ?_⟩
  obtain ⟨⟨p, h'⟩, h1, h2⟩ := callK_D E f (as.toList.map (ev t)) mn h R (fun x => K x.1 x.2) r hk
  refine ⟨p, h', h1, fun R' K' => h2 R' (fun x => K' x.1 x.2), ?_⟩
  have h3 : callK E f (as.toList.map (ev t)) mn h (fun p h => some (p, h)) = some (p, h') := h2 (PV × Hp) (fun x => some x)
  unfold callK at h3
  have hargs : F2 (V (vw w base ρ h)) (as.toList.map (ev t)) (as.toList.map a.eval) := by
    generalize as.toList = l
    induction l with
    | nil => exact .nil
    | cons x l ih => exact .cons (hop x) ih
  split at h3
  · rename_i hnone
    obtain ⟨hent, hcall⟩ := hE.2.2 f _ h h' p pin base w ρ _ h3 hI hH hargs
    refine ⟨fun next Q hn => ?_, fun hq => by (rw [ho] at hq; cases hq), fun hq => by (rw [ho] at hq; cases hq)⟩
    unfold Oper.wp
    rw [run_call hent ho, Oper.upon_enter]
    refine hcall.mono fun e w' hh => ?_
    obtain ⟨v, rfl, ρ', g1, g2, g3, g4⟩ := hh
    exact hn v w' ρ' g1 g2 g3 g4 (fun h => by have := (hgg h).1; rw [hnone] at this; cases this)
  · rename_i c hc
    obtain ⟨hok, hent⟩ := hE.1 f c hc
    have hcall := callG_sound (hI w (Kp.refl _ _ _)) hok hH hargs h3
    refine ⟨fun next Q hn => ?_, fun hq => by (rw [ho] at hq; cases hq), fun hq => by (rw [ho] at hq; cases hq)⟩
    unfold Oper.wp
    rw [run_call hent ho, Oper.upon_enter]
    refine hcall.mono fun e w' hh => ?_
    obtain ⟨v, rfl, ρ', g1, g2, g3, g4, g5⟩ := hh
    exact hn v w' ρ' g1 g2 g3 g4 (fun h => g5 ((hgg h).2 c hc))
theorem good_clo (hgg : gg = false) {j : Nat} {as : Array Operand} {ts : Array TypeId} (ho : o.op = .call { callee := .value (.tmp j), args := as, argTypes := ts }) : Good P pin base gg o a w ρ h fun _ K => cloK E (ev t (.tmp j)) (as.toList.map (ev t)) h K := by
  refine ⟨fun R K r hk => ?_⟩
  obtain ⟨⟨p, h'⟩, h1, h2⟩ := cloK_D E (ev t (.tmp j)) (as.toList.map (ev t)) h R (fun x => K x.1 x.2) r hk
  refine ⟨p, h', h1, fun R' K' => h2 R' (fun x => K' x.1 x.2), ?_⟩
  have h3 : cloK E (ev t (.tmp j)) (as.toList.map (ev t)) h (fun p h => some (p, h)) = some (p, h') := h2 (PV × Hp) (fun x => some x)
  have hfn := hop (.tmp j)
  unfold cloK at h3
  split at h3
  · rename_i f c cs hf
    split at h3
    · rename_i hone
      obtain ⟨h'', e1, e2⟩ := E.cloD f ((as.toList.map (ev t)) ++ c :: cs) h (PV × Hp) (fun h' => some (.tup [], h')) (p, h') h3
      injection e1 with e1
      injection e1 with e1 e3
      subst e1; subst e3
      have hclo := e2 Hp some
      rw [hf] at hfn
      obtain ⟨vs, hv, hcaps⟩ := (show ∃ vs, a.eval (.tmp j) = .func (.func f) #[] vs ∧ F2 (V1 (vw w base ρ h)) (c :: cs) vs.toList from hfn)
      have hargs : ∀ l : List Operand, (l.map (ev t)).all oneP = true → F2 (V1 (vw w base ρ h)) (l.map (ev t)) (l.map a.eval) := by
        intro l
        induction l with
        | nil => intro _; exact .nil
        | cons x l ih =>
          intro hl
          simp only [List.map_cons, List.all_cons, Bool.and_eq_true] at hl
          exact .cons (V1_of_V (hop x) hl.1) (ih hl.2)
      obtain ⟨⟨fn, hfs, hname, hb⟩, hcall⟩ := hE.2.1 f _ h h'' pin base w ρ (as.map a.eval ++ vs) hclo hI hH (by simpa using (hargs as.toList hone).app hcaps)
      refine ⟨fun next Q hn => ?_, fun hq => by (rw [ho] at hq; cases hq), fun hq => by (rw [ho] at hq; cases hq)⟩
      have hrun : (execOp a.eval o).run P w = .ok (.enter f (as.map a.eval ++ vs)) w := by
        have h1 : fn.name ≠ "runtime.NumGoroutine" := by simpa using hname
        obtain ⟨c0, hc0⟩ := Option.isSome_iff_exists.1 hb
        have he : (callFunc f (as.map a.eval ++ vs)).run P w = .ok (.enter f (as.map a.eval ++ vs)) w := by simp [callFunc, hfs, h1, hc0]
        unfold execOp
        simp [ho, resolve, Deferred.ofValue, invoke, hv]
        exact he
      unfold Oper.wp
      rw [hrun, Oper.upon_enter]
      refine hcall.mono fun e w' hh => ?_
      obtain ⟨rfl, ρ', g1, g2, g3⟩ := hh
      exact hn (.tuple #[]) w' ρ' g1 g2 ⟨#[], rfl, .nil⟩ g3 (fun h => by rw [hgg] at h; cases h)
    · cases h3
  · cases h3
theorem opK_sound (hgr : gg = true → growB E o.op = true) : Good P pin base gg o a w ρ h fun R K => opK P E o t h K := by
  have hno : growB E o.op = false → gg = false := fun h => by
    cases hgg : gg with
    | false => rfl
    | true => rw [hgr hgg] at h; cases h
  unfold opK
  split
  case h_1 ho => exact good_move hH hop ho
  case h_2 ho => exact good_assign hH hop ho
  case h_3 ho => exact good_pick hH hop ho
  case h_4 ho => exact good_bin hH hop ho
  case h_5 ho => exact good_un hH hop ho
  case h_6 ho => exact good_load hH hop ho
  case h_7 ho => exact good_store hH hop (hno (by rw [ho]; rfl)) ho
  case h_8 ho => exact good_nil hH hop ho
  case h_9 ho => exact good_fieldAddr hH hop ho
  case h_10 ho => exact good_indexAddr hH hop ho
  case h_11 ho => exact good_index hH hop ho
  case h_12 ho => exact good_alloc hH hop ho
  case h_13 ho => exact good_box hH hop ho
  case h_14 ho => exact good_build hH hop ho
  case h_15 ho => exact good_buildSlice hH hop ho
  case h_16 ho => exact good_makeSlice hH hop ho
  case h_17 ho =>
    split
    · exact good_sliceO hH hop ho
    · exact good_slice hH hop ho
  case h_18 ho => exact good_slice3 hH hop ho
  case h_19 ho => exact good_extract hH hop ho
  case h_20 ho => exact good_convert hH hop ho
  case h_21 ho => exact good_makeFunc hH hop ho
  case h_22 ho =>
    split
    · rename_i ha ht
      exact good_len hH hop ho ha ht
    · exact Good.none_
  case h_23 ho =>
    split
    · rename_i hm
      exact good_max hH hop ho hm
    · exact Good.none_
  case h_24 ho =>
    split
    · rename_i hm
      exact good_min hH hop ho hm
    · exact Good.none_
  case h_25 ho =>
    split
    · rename_i ha ht
      refine Good.ite (fun he => ?_) (fun _ => Good.none_)
      subst he
      exact good_append (hno (by rw [ho]; rfl)) hH hop ho ha ht
    · exact Good.none_
  case h_26 ho => exact good_clo hE hI hH hop (hno (by rw [ho]; rfl)) ho
  case h_27 ho =>
    refine good_call hE hI hH hop (fun hg => ?_) _ ho
    have := hgr hg
    rw [ho] at this
    simp only [growB] at this
    split at this
    · rename_i c' hc'
      refine ⟨by rw [hc']; rfl, fun c hc => ?_⟩
      rw [hc] at hc'
      injection hc' with hc'
      rw [hc']
      exact this
    · cases this
  case h_28 ho => exact good_field hH hop ho
  case h_29 => exact Good.none_
end
end FN

namespace FN
open Go Go.RowKit
section
variable [Gl] {P : Program} {E : Env'} {pin : Pn} {base : Nat} {rv : Option Value}
/-- A state is told. -/
structure StR (pin : Pn) (base : Nat) (rv : Option Value) (w : World) (ρ : Rh) (s : St) (a : Act) : Prop where
  H : HRel (mine pin base) w base ρ s.h
  tm : ∀ i, V (vw w base ρ s.h) (s.t.getD i .junk) (a.tmps.getD i undef)
  sz : s.t.length ≤ a.tmps.size
  df : a.defers = []
  k0 : ∀ v, rv = some v → ρ 0 = v ∧ 0 < s.h.length
  iv : ∀ w', Kp pin base w w' → Gl.I w'
theorem StR.hop {w : World} {ρ : Rh} {s : St} {a : Act} (h : StR pin base rv w ρ s a) (x : Operand) : V (vw w base ρ s.h) (ev s.t x) (a.eval x) := by
  cases x with
  | tmp i => exact h.tm i
  | const v => exact V_of_V1 (ofVal_V1 _ v)
  | global g => trivial
  | func f => exact ⟨#[], rfl, .nil⟩
theorem getD_set_list {t : List PV} {d i : Nat} {p : PV} : (t.set d p).getD i .junk = if i = d ∧ d < t.length then p else t.getD i .junk := by
  simp only [List.getD_eq_getElem?_getD]
  by_cases h : i = d
  · subst h
    by_cases hl : i < t.length
    · simp [hl]
    · simp [hl]
  · rw [List.getElem?_set_ne (Ne.symm h)]
    simp [h]
theorem getD_put {a : Act} {d : Tmp} {i : Nat} {u : Value} : (a.put (some d) u).tmps.getD i undef = if i = d ∧ d < a.tmps.size then u else a.tmps.getD i undef := by
  simp only [Act.put, Array.getD_eq_getD_getElem?]
  by_cases h : i = d
  · subst h
    by_cases hl : i < a.tmps.size
    · simp [hl]
    · simp [hl]
  · rw [Array.getElem?_setIfInBounds_ne (Ne.symm h)]
    simp [h]
theorem StR.put {w w' : World} {ρ ρ' : Rh} {s : St} {a : Act} {h' : Hp} {d : Option Tmp} {p : PV} {u : Value} (hS : StR pin base rv w ρ s a) (hH : HRel (mine pin base) w' base ρ' h') (hl : (vw w base ρ s.h).Le (vw w' base ρ' h')) (hv : V (vw w' base ρ' h') p u) (hkp : Kp pin base w w') :
    StR pin base rv w' ρ' ⟨putT s.t d p, h'⟩ (a.put d u) := by
  refine ⟨hH, fun i => ?_, ?_, ?_, fun v hv' => ?_, fun w2 h2 => hS.iv w2 (hkp.trans h2)⟩
  · cases d with
    | none => exact V.le hl (hS.tm i)
    | some d =>
      simp only [putT]
      rw [getD_set_list, getD_put]
      by_cases h1 : i = d ∧ d < s.t.length
      · rw [if_pos h1, if_pos ⟨h1.1, Nat.lt_of_lt_of_le h1.2 hS.sz⟩]; exact hv
      · rw [if_neg h1]
        by_cases h2 : i = d ∧ d < a.tmps.size
        · rw [if_pos h2]
          have : s.t.getD i .junk = .junk := by
            rw [List.getD_eq_getElem?_getD, List.getElem?_eq_none (by rw [h2.1]; exact Nat.le_of_not_lt fun hh => h1 ⟨h2.1, hh⟩)]; rfl
          rw [this]
          trivial
        · rw [if_neg h2]; exact V.le hl (hS.tm i)
  · cases d with
    | none => exact hS.sz
    | some d => simpa [putT, Act.put] using hS.sz
  · cases d with
    | none => exact hS.df
    | some d => exact hS.df
  · obtain ⟨h1, h2⟩ := hS.k0 v hv'
    exact ⟨(hl.ρ 0 h2).trans h1, Nat.lt_of_lt_of_le h2 hl.N⟩
theorem StR.know {w : World} {ρ : Rh} {s : St} {a : Act} {d : Tmp} {b : Bool} (hS : StR pin base rv w ρ s a) (hb : s.t.getD d .junk = .bool b) : StR pin base rv w ρ ⟨s.t.set d (.bool b), s.h⟩ a := by
  refine ⟨hS.H, fun i => ?_, by simpa using hS.sz, hS.df, hS.k0, hS.iv⟩
  simp only
  rw [getD_set_list]
  split
  · rename_i h
    have := hS.tm d
    rw [hb] at this
    rw [h.1]
    exact this
  · exact hS.tm i
/-- After the region. -/
def PostR {R : Type} (pin : Pn) (base : Nat) (rv : Option Value) (K : List PV → Hp → Option R) (r : R) (w0 : World) (v0 : Vw) (a : Act) (w : World) : Prop :=
  ∃ t h ρ, K t h = some r ∧ StR pin base rv w ρ ⟨t, h⟩ a ∧ Kp pin base w0 w ∧ v0.Le (vw w base ρ h)
variable (hE : EnvOk P E)
include hE
/-- One operation of a region. -/
theorem exOps_step {R : Type} {all : Array Oper} {o : Oper} {rest : List Oper} {s : St} {K : List PV → Hp → Option R} {r : R} {w : World} {ρ : Rh} {a : Act} (hk : exOps P E all (o :: rest) s.t s.h K = some r) (hS : StR pin base rv w ρ s a) (next : Act → World → Prop) (Q : Exit → Act → World → Prop)
    (hn : ∀ t h w' ρ' a', exOps P E all rest t h K = some r → StR pin base rv w' ρ' ⟨t, h⟩ a' → Kp pin base w w' → (growB E o.op = true → Grows w w') → (vw w base ρ s.h).Le (vw w' base ρ' h) → next a' w') :
    if Region.wanted o (yielded all a.tmps) = true then o.wp P a w next Q else next (a.put o.dst undef) w := by
  have go : ∀ t1 : List PV, StR pin base rv w ρ ⟨t1, s.h⟩ a → (opK P E o t1 s.h fun p h' => exOps P E all rest (putT t1 o.dst p) h' K) = some r → o.wp P a w next Q := by
    intro t1 hS1 hk1
    obtain ⟨p, h', h1, _, hres⟩ := (opK_sound (gg := growB E o.op) (o := o) hE hS1.iv hS1.H (t := t1) (a := a) (fun x => hS1.hop x) id).go R _ r hk1
    refine hres.1 next Q fun u w' ρ' g1 g2 g3 g4 g5 => ?_
    exact hn _ _ w' ρ' _ h1 (StR.put (s := ⟨t1, s.h⟩) hS1 g1 g2 g3 g4) g4 g5 g2
  have skip : ∀ t1 : List PV, StR pin base rv w ρ ⟨t1, s.h⟩ a → exOps P E all rest (putT t1 o.dst (.tup [])) s.h K = some r → next (a.put o.dst undef) w := by
    intro t1 hS1 hk1
    exact hn _ _ w ρ _ hk1 (StR.put (s := ⟨t1, s.h⟩) hS1 hS1.H (Vw.Le.refl _) ⟨#[], rfl, .nil⟩ (Kp.refl _ _ _)) (Kp.refl _ _ _) (fun _ => Grows.refl _) (Vw.Le.refl _)
  cases hg : o.guard with
  | none =>
    simp only [exOps, hg] at hk
    rw [if_pos (by simp [Region.wanted, hg])]
    exact go s.t hS hk
  | some g =>
    obtain ⟨j, want⟩ := g
    simp only [exOps, hg] at hk
    split at hk
    · cases hk
    · rename_i d hd
      split at hk
      · rename_i b hb
        have hS1 := hS.know hb
        have hy : yielded all a.tmps j = some b := by
          have hv := hS.tm d
          rw [hb] at hv
          have hv' : a.tmps.getD d undef = .bool b := hv
          unfold yielded
          rw [hd]
          simp only [Option.bind_some]
          cases he : a.tmps[d]? with
          | none => rw [Array.getD_eq_getD_getElem?, he] at hv'; exact absurd hv' (by simp [undef])
          | some v => rw [Array.getD_eq_getD_getElem?, he] at hv'; simp at hv'; subst hv'; rfl
        have hw : Region.wanted o (yielded all a.tmps) = (b == want) := by
          simp only [Region.wanted, hg, hy]
          cases b <;> cases want <;> rfl
        rw [hw]
        cases b with
        | true =>
          try simp only [condA_true, cond_true] at hk
          by_cases hc : (true == want) = true
          · rw [if_pos hc] at hk ⊢; exact go _ hS1 hk
          · rw [if_neg hc] at hk ⊢; exact skip _ hS1 hk
        | false =>
          try simp only [condA_false, cond_false] at hk
          by_cases hc : (false == want) = true
          · rw [if_pos hc] at hk ⊢; exact go _ hS1 hk
          · rw [if_neg hc] at hk ⊢; exact skip _ hS1 hk
      · rename_i hb
        have hv := hS.tm d
        rw [hb] at hv
        obtain ⟨vs, hv', hvs⟩ := hv
        have hy : yielded all a.tmps j = none := by
          unfold yielded
          rw [hd]
          simp only [Option.bind_some]
          cases he : a.tmps[d]? with
          | none => rfl
          | some v => rw [Array.getD_eq_getD_getElem?, he] at hv'; simp at hv'; subst hv'; rfl
        rw [if_neg (by simp [Region.wanted, hg, hy])]
        exact skip s.t hS hk
      · cases hk
/-- An operation that asks nothing of the memory. -/
theorem exOps_mv {R : Type} {all : Array Oper} {o : Oper} {rest : List Oper} {s : St} {K : List PV → Hp → Option R} {r : R} {w : World} {ρ : Rh} {a : Act} (hm : (isMove o || loadOp o.op) = true) (hk : exOps P E all (o :: rest) s.t s.h K = some r) (hS : StR pin base rv w ρ s a) :
    ∃ v, YieldsIf P all (fun w' => loadOp o.op = true → Grows w w') o v a ∧ ∃ t h ρ', exOps P E all rest t h K = some r ∧ StR pin base rv w ρ' ⟨t, h⟩ (a.put o.dst v) ∧ (vw w base ρ s.h).Le (vw w base ρ' h) := by
  have go : ∀ t1 : List PV, StR pin base rv w ρ ⟨t1, s.h⟩ a → (opK P E o t1 s.h fun p h' => exOps P E all rest (putT t1 o.dst p) h' K) = some r →
      ∃ v, (∀ w', (loadOp o.op = true → Grows w w') → (execOp a.eval o).run P w' = .ok (.value v) w') ∧ ∃ t h ρ', exOps P E all rest t h K = some r ∧ StR pin base rv w ρ' ⟨t, h⟩ (a.put o.dst v) ∧ (vw w base ρ s.h).Le (vw w base ρ' h) := by
    intro t1 hS1 hk1
    obtain ⟨p, h', h1, _, hres⟩ := (opK_sound (gg := false) (o := o) hE hS1.iv hS1.H (t := t1) (a := a) (fun x => hS1.hop x) (fun h => by cases h)).go R _ r hk1
    obtain ⟨v, hv⟩ := hres.2.2 hm
    refine ⟨v, hv, putT t1 o.dst p, h', ?_⟩
    have := hres.1 (fun a' w' => ∃ ρ', StR pin base rv w' ρ' ⟨putT t1 o.dst p, h'⟩ a' ∧ (vw w base ρ s.h).Le (vw w' base ρ' h')) (fun _ _ _ => False) fun u w' ρ' g1 g2 g3 g4 _ => ⟨ρ', StR.put (s := ⟨t1, s.h⟩) hS1 g1 g2 g3 g4, g2⟩
    simp only [Oper.wp, Oper.upon, hv w (fun _ => Grows.refl w)] at this
    obtain ⟨ρ', e2⟩ := this
    exact ⟨ρ', h1, e2⟩
  have skip : ∀ t1 : List PV, StR pin base rv w ρ ⟨t1, s.h⟩ a → exOps P E all rest (putT t1 o.dst (.tup [])) s.h K = some r →
      ∃ t h ρ', exOps P E all rest t h K = some r ∧ StR pin base rv w ρ' ⟨t, h⟩ (a.put o.dst undef) ∧ (vw w base ρ s.h).Le (vw w base ρ' h) := fun t1 hS1 hk1 =>
    ⟨_, _, _, hk1, StR.put (s := ⟨t1, s.h⟩) hS1 hS1.H (Vw.Le.refl _) ⟨#[], rfl, .nil⟩ (Kp.refl _ _ _), Vw.Le.refl _⟩
  have yes : Region.wanted o (yielded all a.tmps) = true → (∃ v, (∀ w', (loadOp o.op = true → Grows w w') → (execOp a.eval o).run P w' = .ok (.value v) w') ∧ ∃ t h ρ', exOps P E all rest t h K = some r ∧ StR pin base rv w ρ' ⟨t, h⟩ (a.put o.dst v) ∧ (vw w base ρ s.h).Le (vw w base ρ' h)) →
      ∃ v, YieldsIf P all (fun w' => loadOp o.op = true → Grows w w') o v a ∧ ∃ t h ρ', exOps P E all rest t h K = some r ∧ StR pin base rv w ρ' ⟨t, h⟩ (a.put o.dst v) ∧ (vw w base ρ s.h).Le (vw w base ρ' h) := fun hw ⟨v, h1, h2⟩ => ⟨v, .inl ⟨hw, h1⟩, h2⟩
  have no : Region.wanted o (yielded all a.tmps) = false → (∃ t h ρ', exOps P E all rest t h K = some r ∧ StR pin base rv w ρ' ⟨t, h⟩ (a.put o.dst undef) ∧ (vw w base ρ s.h).Le (vw w base ρ' h)) →
      ∃ v, YieldsIf P all (fun w' => loadOp o.op = true → Grows w w') o v a ∧ ∃ t h ρ', exOps P E all rest t h K = some r ∧ StR pin base rv w ρ' ⟨t, h⟩ (a.put o.dst v) ∧ (vw w base ρ s.h).Le (vw w base ρ' h) := fun hw h2 => ⟨undef, .inr ⟨hw, rfl⟩, h2⟩
  cases hg : o.guard with
  | none =>
    simp only [exOps, hg] at hk
    exact yes (by simp [Region.wanted, hg]) (go s.t hS hk)
  | some g =>
    obtain ⟨j, want⟩ := g
    simp only [exOps, hg] at hk
    split at hk
    · cases hk
    · rename_i d hd
      split at hk
      · rename_i b hb
        have hS1 := hS.know hb
        have hy : yielded all a.tmps j = some b := by
          have hv := hS.tm d
          rw [hb] at hv
          have hv' : a.tmps.getD d undef = .bool b := hv
          unfold yielded
          rw [hd]
          simp only [Option.bind_some]
          cases he : a.tmps[d]? with
          | none => rw [Array.getD_eq_getD_getElem?, he] at hv'; exact absurd hv' (by simp [undef])
          | some v => rw [Array.getD_eq_getD_getElem?, he] at hv'; simp at hv'; subst hv'; rfl
        have hw : Region.wanted o (yielded all a.tmps) = (b == want) := by
          simp only [Region.wanted, hg, hy]
          cases b <;> cases want <;> rfl
        cases b with
        | true =>
          try simp only [condA_true, cond_true] at hk
          by_cases hc : (true == want) = true
          · rw [if_pos hc] at hk; exact yes (hw.trans hc) (go _ hS1 hk)
          · rw [if_neg hc] at hk; exact no (hw.trans (by simpa using hc)) (skip _ hS1 hk)
        | false =>
          try simp only [condA_false, cond_false] at hk
          by_cases hc : (false == want) = true
          · rw [if_pos hc] at hk; exact yes (hw.trans hc) (go _ hS1 hk)
          · rw [if_neg hc] at hk; exact no (hw.trans (by simpa using hc)) (skip _ hS1 hk)
      · rename_i hb
        have hv := hS.tm d
        rw [hb] at hv
        obtain ⟨vs, hv', hvs⟩ := hv
        have hy : yielded all a.tmps j = none := by
          unfold yielded
          rw [hd]
          simp only [Option.bind_some]
          cases he : a.tmps[d]? with
          | none => rfl
          | some v => rw [Array.getD_eq_getD_getElem?, he] at hv'; simp at hv'; subst hv'; rfl
        exact no (by simp [Region.wanted, hg, hy]) (skip s.t hS hk)
      · cases hk
theorem exOps_list {R : Type} {all : Array Oper} {K : List PV → Hp → Option R} {r : R} {w0 : World} {v0 : Vw} {Q : Exit → Act → World → Prop} (hQ : ∀ a w, PostR pin base rv K r w0 v0 a w → Q .normal a w) :
    ∀ {l : List Oper} {t : List PV} {h : Hp} {w : World} {ρ : Rh} {a : Act}, exOps P E all l t h K = some r → StR pin base rv w ρ ⟨t, h⟩ a → Kp pin base w0 w → v0.Le (vw w base ρ h) → wpList P all Q l a w
  | [], t, h, w, ρ, a, hk, hS, hp, hv => hQ a w ⟨t, h, ρ, hk, hS, hp, hv⟩
  | o :: rest, t, h, w, ρ, a, hk, hS, hp, hv => wpList_step fun next hnext =>
      exOps_step hE (s := ⟨t, h⟩) hk hS next Q fun t' h' w' ρ' a' h1 h2 h3 _ h5 => hnext _ _ (exOps_list hQ h1 h2 (hp.trans h3) (hv.trans h5))
/-- Whatever order is picked, and what stood stands behind every operation. -/
def wpAnyG (P : Program) (ops : Array Oper) (Q : Exit → Act → World → Prop) (gb : Nat → Bool) : Nat → Array Bool → Act → World → Prop
  | 0, listed, a, w => Region.ready .any ops listed = [] ∧ Q .normal a w
  | fuel + 1, listed, a, w =>
    (Region.ready .any ops listed = [] → Q .normal a w) ∧
    ∀ i ∈ Region.ready .any ops listed, wpOp P ops Q i (fun a' w' => (gb i = true → Grows w w') ∧ wpAnyG P ops Q gb fuel (listed.setIfInBounds i true) a' w') a w
omit hE in
theorem wpAny_of_G {ops : Array Oper} {Q : Exit → Act → World → Prop} {gb : Nat → Bool} : ∀ (fuel : Nat) (listed : Array Bool) (a : Act) (w : World), wpAnyG P ops Q gb fuel listed a w → wpAny P .any ops Q fuel listed a w
  | 0, _, _, _, h => h
  | fuel + 1, _, _, _, h => ⟨h.1, fun i hi => wpOp_mono (fun a' w' h' => wpAny_of_G fuel _ a' w' h'.2) (h.2 i hi)⟩
omit hE in
theorem wpAnyG_done {ops : Array Oper} {Q : Exit → Act → World → Prop} {gb : Nat → Bool} {listed : Array Bool} {a : Act} {w : World} (hr : Region.ready .any ops listed = []) (h : Q .normal a w) : ∀ fuel, wpAnyG P ops Q gb fuel listed a w
  | 0 => ⟨hr, h⟩
  | _ + 1 => ⟨fun _ => h, by rw [hr]; simp⟩
omit hE in
theorem wpAnyG_first {ops : Array Oper} {Q : Exit → Act → World → Prop} {gb : Nat → Bool} {g : Bool} {w0 : World} {i : Nat} {oi : Oper} {v : Value} (hi : ops[i]? = some oi) (hsel : ∀ (j : Nat) (o : Oper) cs b, ops[j]? = some o → o.op ≠ .select cs b)
    (hQ : ∀ c a w, Q (.panic c) (a.put oi.dst v) w → Q (.panic c) a w) :
    ∀ (fuel : Nat) (listed : Array Bool) (a : Act) (w : World),
      (∀ j oj, ops[j]? = some oj → j ≠ i → listed.getD j true = false → (∀ e ∈ oj.after, Region.binds .any e = true → e.on ≠ i) → oi.apart ops oj = true ∧ (g = true → gb j = true)) →
      i ∈ Region.ready .any ops listed → YieldsIf P ops (fun w' => g = true → Grows w0 w') oi v a → (g = true → Grows w0 w) →
      wpAnyG P ops Q gb fuel (listed.setIfInBounds i true) (a.put oi.dst v) w → wpAnyG P ops Q gb (fuel + 1) listed a w := by
  intro fuel
  induction fuel with
  | zero =>
    intro listed a w _ hr hy hS H
    refine ⟨fun h => (by rw [h] at hr; cases hr), fun j hj => ?_⟩
    by_cases hji : j = i
    · subst hji; exact hy.wpOp hi hS ⟨fun _ => Grows.refl _, H⟩
    · have := ready_mono hj hji
      rw [H.1] at this
      cases this
  | succ fuel ih =>
    intro listed a w hfree hr hy hS H
    refine ⟨fun h => (by rw [h] at hr; cases hr), fun j hj => ?_⟩
    by_cases hji : j = i
    · subst hji; exact hy.wpOp hi hS ⟨fun _ => Grows.refl _, H⟩
    · have h1 := H.2 j (ready_mono hj hji)
      obtain ⟨hjun, oj, hoj, hall⟩ := mem_ready.1 hj
      have hnot : ∀ e ∈ oj.after, Region.binds .any e = true → e.on ≠ i := fun e he hb heq => by
        have h1 := hall e he hb
        have h0 := (mem_ready.1 hr).1
        rw [heq] at h1
        rcases Nat.lt_or_ge i listed.size with h' | h'
        · simp [h'] at h0 h1; rw [h0] at h1; cases h1
        · simp [Array.getElem?_eq_none h'] at h1
      have h2 := wpOp_putIf hoj (hfree j oj hoj hji hjun hnot).1 (fun cs b => hsel i oi cs b hi) (fun cs b => hsel j oj cs b hoj) hQ hy h1
      have hfree' : ∀ k ok, ops[k]? = some ok → k ≠ i → (listed.setIfInBounds j true).getD k true = false →
          (∀ e ∈ ok.after, Region.binds .any e = true → e.on ≠ i) → oi.apart ops ok = true ∧ (g = true → gb k = true) := fun k ok hk hki hun hno => by
        refine hfree k ok hk hki ?_ hno
        by_cases hjk : j = k
        · subst hjk; exact hjun
        · rw [getD_set_ne true hjk] at hun; exact hun
      refine wpOp_mono (fun a' w' h3 => ⟨h3.2.1, ih (listed.setIfInBounds j true) a' w' hfree' (ready_mono hr (Ne.symm hji)) h3.1 (fun hg => (hS hg).trans (h3.2.1 ((hfree j oj hoj hji hjun hnot).2 hg))) ?_⟩) h2
      rw [Array.setIfInBounds_comm _ _ hji]
      exact h3.2.2
theorem exOps_any {R : Type} {ops : Array Oper} {K : List PV → Hp → Option R} {r : R} {w0 : World} {v0 : Vw} {Q : Exit → Act → World → Prop} (hQ : ∀ a w, PostR pin base rv K r w0 v0 a w → Q .normal a w) (hP : ∀ c a w, ¬ Q (.panic c) a w) (hns : Region.noSelect ops = true) :
    ∀ (n : Nat) {listed : Array Bool} {l : List Oper} {t : List PV} {h : Hp} {w : World} {ρ : Rh} {a : Act}, drawnGo (gbOf E ops) ops n listed = some l → exOps P E ops l t h K = some r → StR pin base rv w ρ ⟨t, h⟩ a → Kp pin base w0 w → v0.Le (vw w base ρ h) → wpAnyG P ops Q (gbOf E ops) n listed a w
  | 0, listed, l, t, h, w, ρ, a, hd, hk, hS, hp, hv => by
    simp only [drawnGo] at hd
    split at hd
    · rename_i hr
      injection hd with hd
      subst hd
      exact wpAnyG_done hr (hQ a w ⟨t, h, ρ, hk, hS, hp, hv⟩) 0
    · cases hd
  | n + 1, listed, l, t, h, w, ρ, a, hd, hk, hS, hp, hv => by
    simp only [drawnGo] at hd
    split at hd
    · rename_i hr
      injection hd with hd
      subst hd
      exact wpAnyG_done hr (hQ a w ⟨t, h, ρ, hk, hS, hp, hv⟩) (n + 1)
    · rename_i i hr
      obtain ⟨o, ho, hd⟩ := Option.bind_eq_some_iff.1 hd
      obtain ⟨l', hl', rfl⟩ := Option.map_eq_some_iff.1 hd
      refine ⟨fun h0 => (by rw [hr] at h0; cases h0), fun j hj => ?_⟩
      rw [hr] at hj
      simp at hj
      subst hj
      unfold wpOp
      simp only [ho]
      have := exOps_step hE (s := ⟨t, h⟩) hk hS (fun a' w' => (gbOf E ops j = true → Grows w w') ∧ wpAnyG P ops Q (gbOf E ops) n (listed.setIfInBounds j true) a' w') Q fun t' h' w' ρ' a' h1 h2 h3 h4 h5 => ⟨fun hg => h4 (by
        simpa [gbOf, ho] using hg), exOps_any hQ hP hns n hl' h1 h2 (hp.trans h3) (hv.trans h5)⟩
      split
      · rename_i hw; rw [if_pos hw] at this; exact .inl this
      · rename_i hw; rw [if_neg hw] at this; exact this
    · rename_i is _ hr
      obtain ⟨i, hi, hd⟩ := Option.bind_eq_some_iff.1 hd
      obtain ⟨o, ho, hd⟩ := Option.bind_eq_some_iff.1 hd
      obtain ⟨l', hl', rfl⟩ := Option.map_eq_some_iff.1 hd
      have hmem := List.mem_of_find?_eq_some hi
      have hcond := List.find?_some hi
      simp only [ho, Option.map_some, Option.getD_some, Bool.and_eq_true] at hcond
      obtain ⟨hmv, hfree⟩ := hcond
      have hmv' : (isMove o || loadOp o.op) = true := by
        rw [Bool.or_eq_true] at hmv ⊢
        exact hmv.imp id fun h => (Bool.and_eq_true _ _ ▸ h).1
      obtain ⟨v, hy, t', h', ρ', e1, e2, e3⟩ := exOps_mv hE (s := ⟨t, h⟩) hmv' hk hS
      have hcalm : loadOp o.op = true → isMove o = true ∨ calmB (gbOf E ops) ops listed i = true := fun _ => by
        rw [Bool.or_eq_true] at hmv
        exact hmv.imp (fun h => h) fun h => (Bool.and_eq_true _ _ ▸ h).2
      have hex : ¬ (isMove o = true ∧ loadOp o.op = true) := by
        rintro ⟨h, hld⟩
        unfold isMove at h
        cases hop : o.op <;> rw [hop] at h hld <;> first | (cases hld; done) | (cases h; done)
      refine wpAnyG_first (g := loadOp o.op) (w0 := w) ho (Region.noSelect_spec hns) (fun c a w hq => absurd hq (hP c _ w)) n listed a w (fun j oj hj hne hun hno => ⟨Region.free_spec ho hfree j oj hj hne hun hno, fun hld => ?_⟩) hmem hy (fun _ => Grows.refl w) (exOps_any hQ hP hns n hl' e1 e2 hp (hv.trans e3))
      rcases hcalm hld with h | h
      · exact absurd ⟨h, hld⟩ hex
      · simp only [calmB, List.all_eq_true, List.mem_range] at h
        have h1 := h j (Array.getElem?_eq_some_iff.1 hj).1
        simp only [hj, Bool.or_eq_true, beq_iff_eq, hne, false_or, hun, Bool.false_eq_true] at h1
        rcases h1 with h1 | h1
        · exact h1
        · obtain ⟨e, he, hb⟩ := Array.any_eq_true'.1 h1
          simp only [Bool.and_eq_true, beq_iff_eq] at hb
          exact absurd hb.2 (hno e he hb.1)
end
end FN

namespace FN
open Go Go.RowKit
section
variable [Gl] {P : Program} {E : Env'}
/-- Is the operation wanted, by what is known. -/
def wantedA (all : Array Oper) (o : Oper) (t : List PV) : Option Bool := match o.guard with
  | none => some true
  | some (j, want) => match (all[j]?).bind (·.dst) with
    | none => none
    | some d => match t.getD d .junk with
      | .bool b => some (b == want)
      | .tup [] => some false
      | _ => none
theorem set_same {t : List PV} {d : Nat} {p : PV} (h : t.getD d .junk = p) (hp : p ≠ .junk) : t.set d p = t := by
  have hl : d < t.length := by
    rcases Nat.lt_or_ge d t.length with h' | h'
    · exact h'
    · rw [List.getD_eq_getElem?_getD, List.getElem?_eq_none h'] at h; exact absurd h.symm hp
  apply List.ext_getElem?
  intro i
  by_cases hi : d = i
  · subst hi
    rw [List.getElem?_set_self hl, ← h, List.getD_eq_getElem?_getD, List.getElem?_eq_getElem hl]; rfl
  · rw [List.getElem?_set_ne hi]
theorem exOps_abs {R : Type} {all : Array Oper} {o : Oper} {rest : List Oper} {t : List PV} {h : Hp} {K : List PV → Hp → Option R} {r : R} (hk : exOps P E all (o :: rest) t h K = some r) :
    (wantedA all o t = some true ∧ (opK P E o t h fun p h' => exOps P E all rest (putT t o.dst p) h' K) = some r) ∨ (wantedA all o t = some false ∧ exOps P E all rest (putT t o.dst (.tup [])) h K = some r) := by
  cases hg : o.guard with
  | none =>
    simp only [exOps, hg] at hk
    exact .inl ⟨by simp [wantedA, hg], hk⟩
  | some g =>
    obtain ⟨j, want⟩ := g
    simp only [exOps, hg] at hk
    split at hk
    · cases hk
    · rename_i d hd
      split at hk
      · rename_i b hb
        have hs : t.set d (.bool b) = t := set_same hb (by simp)
        have hw : wantedA all o t = some (b == want) := by simp only [wantedA, hg, hd]; rw [hb]
        rw [hw]
        cases b with
        | true =>
          try simp only [condA_true, cond_true, hs] at hk
          by_cases hc : (true == want) = true
          · rw [if_pos hc] at hk; exact .inl ⟨by rw [hc], hk⟩
          · rw [if_neg hc] at hk; exact .inr ⟨by simpa using hc, hk⟩
        | false =>
          try simp only [condA_false, cond_false, hs] at hk
          by_cases hc : (false == want) = true
          · rw [if_pos hc] at hk; exact .inl ⟨by rw [hc], hk⟩
          · rw [if_neg hc] at hk; exact .inr ⟨by simpa using hc, hk⟩
      · rename_i hb
        exact .inr ⟨by simp only [wantedA, hg, hd]; rw [hb], hk⟩
      · cases hk
/-- A quiet operation leaves the memory. -/
theorem opK_quiet {R : Type} {o : Oper} {t : List PV} {h : Hp} {K : PV → Hp → Option R} {r : R} (hq : quiet o.op = true) (hk : opK P E o t h K = some r) : ∃ p, K p h = some r ∧ ∀ (R' : Type) (K' : PV → Hp → Option R'), opK P E o t h K' = K' p h := by
  have main : ∀ (A : Type) (F : (R : Type) → (PV × Hp → Option R) → Option R), D F → (∀ R (K : PV → Hp → Option R), opK P E o t h K = F R (fun x => K x.1 x.2)) → (∀ a, F (PV × Hp) some = some a → a.2 = h) → ∃ p, K p h = some r ∧ ∀ (R' : Type) (K' : PV → Hp → Option R'), opK P E o t h K' = K' p h := by
    intro A F hD he hh
    obtain ⟨⟨p, h'⟩, h1, h2⟩ := hD R (fun x => K x.1 x.2) r (by rw [← he]; exact hk)
    have h3 := hh (p, h') (h2 (PV × Hp) some)
    simp only at h3
    subst h3
    exact ⟨p, h1, fun R' K' => by rw [he]; exact h2 R' _⟩
  refine main Unit (fun R K => opK P E o t h (uc K)) (opK_D P E o t h) (fun R K => rfl) fun a ha => ?_
  have lift : ∀ (F : (R : Type) → (PV → Option R) → Option R), D F → F (PV × Hp) (fun p => uc some p h) = some a → a.2 = h := by
    intro F hF hx
    obtain ⟨p, h1, _⟩ := hF (PV × Hp) _ a hx
    have : (p, h) = a := Option.some.inj h1
    rw [← this]
  unfold opK at ha
  split at ha
  all_goals first
    | (rename_i ho; rw [ho] at hq; cases hq; done)
    | exact lift _ (binK_D _ _ _ _ _ _) ha
    | exact lift _ (unK_D _ _) ha
    | exact lift _ (loadK_D P _ _ _) ha
    | skip
  all_goals repeat' (split at ha)
  all_goals first
    | (cases ha; done)
    | exact lift _ (lenK_D P _ _ _) ha
    | exact lift _ (readK_D P _ _ _) ha
    | (have := Option.some.inj ha; rw [← this]; done)
    | (rename_i d _; cases d <;> (have := Option.some.inj ha; rw [← this]))
/-- The listed order, operation by operation. -/
structure QRun (P : Program) (E : Env') (all : Array Oper) (l : List Oper) (h : Hp) (T : Nat → List PV) (p : Nat → PV) (b : Nat → Bool) : Prop where
  step : ∀ (i : Nat) o, l[i]? = some o → wantedA all o (T i) = some (b i) ∧ (b i = true → ∀ (R' : Type) (K' : PV → Hp → Option R'), opK P E o (T i) h K' = K' (p i) h) ∧ (b i = false → p i = .tup []) ∧ T (i + 1) = putT (T i) o.dst (p i)
theorem qrun {R : Type} {all : Array Oper} {h : Hp} {K : List PV → Hp → Option R} {r : R} : ∀ {l : List Oper} {t : List PV}, (∀ o ∈ l, quiet o.op = true) → exOps P E all l t h K = some r →
    ∃ T p b, T 0 = t ∧ QRun P E all l h T p b ∧ K (T l.length) h = some r
  | [], t, _, hk => ⟨fun _ => t, fun _ => .junk, fun _ => false, rfl, ⟨fun i o hi => by simp at hi⟩, hk⟩
  | o :: rest, t, hq, hk => by
    have cons : ∀ (p0 : PV) (b0 : Bool), wantedA all o t = some b0 → (b0 = true → ∀ (R' : Type) (K' : PV → Hp → Option R'), opK P E o t h K' = K' p0 h) → (b0 = false → p0 = .tup []) → exOps P E all rest (putT t o.dst p0) h K = some r →
        ∃ T p b, T 0 = t ∧ QRun P E all (o :: rest) h T p b ∧ K (T (o :: rest).length) h = some r := by
      intro p0 b0 h1 h2 h3 h4
      obtain ⟨T, p, b, e1, e2, e3⟩ := qrun (fun o ho => hq o (by simp [ho])) h4
      refine ⟨fun i => match i with | 0 => t | i + 1 => T i, fun i => match i with | 0 => p0 | i + 1 => p i, fun i => match i with | 0 => b0 | i + 1 => b i, rfl, ⟨fun i o' hi => ?_⟩, e3⟩
      cases i with
      | zero =>
        simp at hi
        subst hi
        exact ⟨h1, h2, h3, e1⟩
      | succ i => exact e2.step i o' (by simpa using hi)
    rcases exOps_abs hk with ⟨h1, h2⟩ | ⟨h1, h2⟩
    · obtain ⟨p0, h3, h4⟩ := opK_quiet (hq o (by simp)) h2
      exact cons p0 true h1 (fun _ => h4) (fun h => by cases h) h3
    · exact cons (.tup []) false h1 (fun h => by cases h) (fun _ => rfl) h2
theorem getD_putT {t : List PV} {d : Option Tmp} {x : Tmp} {p : PV} (h : d ≠ some x) : (putT t d p).getD x .junk = t.getD x .junk := by
  cases d with
  | none => rfl
  | some d =>
    simp only [putT]
    rw [getD_set_list, if_neg (fun hh => h (by rw [hh.1]))]
theorem putT_len {t : List PV} {d : Option Tmp} {p : PV} : (putT t d p).length = t.length := by
  cases d <;> simp [putT]
/-- What quietB tells. -/
theorem quietB_spec {ops : Array Oper} (hq : quietB ops = true) {i : Nat} {o : Oper} (hi : ops[i]? = some o) :
    quiet o.op = true ∧ o.dst.isSome = true ∧ (∀ e ∈ o.after, Region.binds .any e = true → e.on < i) ∧
    ∀ (j : Nat) q x, ops[j]? = some q → q.dst = some x → (j ≠ i → o.dst ≠ some x) ∧ (x ∈ o.looksAt ops → j < i ∧ ∃ e ∈ o.after, Region.binds .any e = true ∧ e.on = j) := by
  have hil : i < ops.size := (Array.getElem?_eq_some_iff.1 hi).1
  unfold quietB at hq
  have h1 := List.all_eq_true.1 hq i (by simpa using hil)
  simp only [hi, Bool.and_eq_true] at h1
  obtain ⟨⟨⟨a1, a2⟩, a3⟩, a4⟩ := h1
  refine ⟨a1, a2, fun e he hb => ?_, fun j q x hj hx => ?_⟩
  · have := Array.all_eq_true_iff_forall_mem.1 a3 e he
    simp only [hb, Bool.not_true, Bool.false_or] at this
    exact of_decide_eq_true this
  · have hjl : j < ops.size := (Array.getElem?_eq_some_iff.1 hj).1
    have h2 := List.all_eq_true.1 a4 j (by simpa using hjl)
    simp only [hj, hx, Bool.and_eq_true] at h2
    obtain ⟨b1, b2⟩ := h2
    refine ⟨fun hne he => ?_, fun hl => ?_⟩
    · rw [he] at b1
      simp [hne] at b1
    · have hc : (o.looksAt ops).contains x = true := by simpa using hl
      rw [hc] at b2
      simp only [Bool.not_true, Bool.false_or, Bool.and_eq_true] at b2
      refine ⟨of_decide_eq_true b2.1, ?_⟩
      obtain ⟨e, he, hb⟩ := Array.any_eq_true'.1 b2.2
      simp only [Bool.and_eq_true, beq_iff_eq] at hb
      exact ⟨e, he, hb.1, hb.2⟩
end
end FN

namespace FN
open Go Go.RowKit
section
variable [Gl] {P : Program} {E : Env'}
theorem opK_congr {R : Type} {o : Oper} {t t' : List PV} {h : Hp} {K : PV → Hp → Option R} (hq : quiet o.op = true) (hx : ∀ x ∈ o.op.operands, ev t x = ev t' x) : opK P E o t h K = opK P E o t' h K := by
  have hq' := hq
  unfold quiet at hq'
  split at hq'
  all_goals try (cases hq'; done)
  all_goals rename_i ho
  all_goals rw [ho] at hx
  all_goals simp only [opK, ho]
  all_goals try (simp [Op.operands] at hx)
  all_goals try (simp only [hx]; done)
  · rename_i as ts
    split
    · rename_i x ty ha ht
      have : x ∈ as := by
        have : x ∈ as.toList := by rw [ha]; simp
        simpa using this
      rw [hx x (by simp [Call.operands, this])]
    · rfl
variable {pin : Pn} {base : Nat} {rv : Option Value} {w : World} {ρ : Rh} {h : Hp}
/-- Temporaries not yet set, those that are set. -/
structure QInv (P : Program) (pin : Pn) (base : Nat) (rv : Option Value) (w : World) (ρ : Rh) (h : Hp) (ops : Array Oper) (t tn : List PV) (listed : Array Bool) (a : Act) : Prop where
  H : HRel (mine pin base) w base ρ h
  no : ∀ x, (∀ (j : Nat) o, ops[j]? = some o → o.dst ≠ some x) → V (vw w base ρ h) (t.getD x .junk) (a.tmps.getD x undef)
  yes : ∀ (j : Nat) o x, ops[j]? = some o → o.dst = some x → listed.getD j false = true → V (vw w base ρ h) (tn.getD x .junk) (a.tmps.getD x undef)
  sz : t.length ≤ a.tmps.size
  df : a.defers = []
  k0 : ∀ v, rv = some v → ρ 0 = v ∧ 0 < h.length
  ls : listed.size = ops.size
  iv : ∀ w', Kp pin base w w' → Gl.I w'
variable (hE : EnvOk P E) {ops : Array Oper} (hq : quietB ops = true) {T : Nat → List PV} {p : Nat → PV} {b : Nat → Bool} (hT : QRun P E ops ops.toList h T p b)
include hq hT
theorem T_len : ∀ i, i ≤ ops.size → (T i).length = (T 0).length
  | 0, _ => rfl
  | i + 1, hi => by
    obtain ⟨_, _, _, h4⟩ := hT.step i ops[i] (by simp)
    rw [h4, putT_len]
    exact T_len i (by omega)
/-- A slot that the operations from i to k do not set. -/
theorem T_same {x : Tmp} (i : Nat) : ∀ k, i ≤ k → k ≤ ops.size → (∀ (j : Nat) o, i ≤ j → j < k → ops[j]? = some o → o.dst ≠ some x) → (T k).getD x .junk = (T i).getD x .junk := by
  intro k hik
  induction hik with
  | refl => intro _ _; rfl
  | @step k hik ih =>
    intro hk hno
    obtain ⟨_, _, _, h4⟩ := hT.step k ops[k] (by simp)
    rw [h4, getD_putT (hno k ops[k] hik (Nat.lt_succ_self k) (by simp))]
    exact ih (by omega) fun j o h1 h2 h3 => hno j o h1 (by omega) h3
theorem T_dst {j : Nat} {q : Oper} {x : Tmp} (hj : ops[j]? = some q) (hx : q.dst = some x) (i : Nat) (h1 : j < i) (h2 : i ≤ ops.size) : (T ops.size).getD x .junk = (T i).getD x .junk := by
  refine T_same hq hT i ops.size h2 (Nat.le_refl _) fun k o hk1 hk2 hko => ?_
  exact ((quietB_spec hq hko).2.2.2 j q x hj hx).1 (by omega)
include hE
theorem quiet_step {i : Nat} {o : Oper} {listed : Array Bool} {a : Act} (hS : QInv P pin base rv w ρ h ops (T 0) (T ops.size) listed a) (hi : ops[i]? = some o) (hr : i ∈ Region.ready .any ops listed) (next : Act → World → Prop) (Q : Exit → Act → World → Prop)
    (hn : ∀ a', QInv P pin base rv w ρ h ops (T 0) (T ops.size) (listed.setIfInBounds i true) a' → next a' w) :
    if Region.wanted o (yielded ops a.tmps) = true then o.wp P a w next Q else next (a.put o.dst undef) w := by
  obtain ⟨q1, q2, q3, q4⟩ := quietB_spec hq hi
  obtain ⟨s1, s2, s3, s4⟩ := hT.step i o (by simpa using hi)
  obtain ⟨hun, o', ho', hall⟩ := mem_ready.1 hr
  have : o' = o := by rw [hi] at ho'; injection ho' with ho'; exact ho'.symm
  subst this
  have hil : i < ops.size := (Array.getElem?_eq_some_iff.1 hi).1
  obtain ⟨d, hd⟩ := Option.isSome_iff_exists.1 q2
  -- what it looks at
  have look : ∀ x, x ∈ o'.looksAt ops → V (vw w base ρ h) ((T i).getD x .junk) (a.tmps.getD x undef) := by
    intro x hx
    by_cases hdst : ∃ (j : Nat) (q : Oper), ops[j]? = some q ∧ q.dst = some x
    · obtain ⟨j, q, hj, hqx⟩ := hdst
      obtain ⟨hji, e, he, hb, heq⟩ := (q4 j q x hj hqx).2 hx
      have hl : listed.getD j false = true := heq ▸ hall e he hb
      rw [← T_dst hq hT hj hqx i hji (Nat.le_of_lt hil)]
      exact hS.yes j q x hj hqx hl
    · have hno : ∀ (j : Nat) (o : Oper), ops[j]? = some o → o.dst ≠ some x := fun j o h1 h2 => hdst ⟨j, o, h1, h2⟩
      rw [T_same hq hT 0 i (Nat.zero_le _) (Nat.le_of_lt hil) fun j o _ _ h1 => hno j o h1]
      exact hS.no x hno
  -- afterwards
  have after : ∀ u, V (vw w base ρ h) (p i) u → QInv P pin base rv w ρ h ops (T 0) (T ops.size) (listed.setIfInBounds i true) (a.put o'.dst u) := by
    intro u hu
    refine ⟨hS.H, fun x hno => ?_, fun j q x hj hqx hl => ?_, ?_, ?_, hS.k0, by simpa using hS.ls, hS.iv⟩
    · have hne : x ≠ d := fun e => hno i o' hi (by rw [hd, e])
      rw [hd, getD_put, if_neg (fun hh => hne hh.1)]
      exact hS.no x hno
    · rw [hd, getD_put]
      by_cases hx : x = d
      · subst hx
        have hji : j = i := by
          rcases Nat.decEq j i with hne | he
          · exact absurd hd (((q4 j q x hj hqx).1 hne))
          · exact he
        subst hji
        rw [T_dst hq hT hi hd (j + 1) (Nat.lt_succ_self j) hil, s4, hd]
        simp only [putT]
        rw [getD_set_list]
        have hlen := T_len hq hT j (Nat.le_of_lt hil)
        by_cases hlt : x < (T j).length
        · rw [if_pos ⟨rfl, hlt⟩, if_pos ⟨trivial, Nat.lt_of_lt_of_le hlt (hlen ▸ hS.sz)⟩]
          exact hu
        · rw [if_neg (fun hh => hlt hh.2)]
          have : (T j).getD x .junk = .junk := by
            rw [List.getD_eq_getElem?_getD, List.getElem?_eq_none (Nat.le_of_not_lt hlt)]; rfl
          rw [this]; trivial
      · rw [if_neg (fun hh => hx hh.1)]
        have hji : i ≠ j := by
          rintro rfl
          rw [hi] at hj
          injection hj with hj
          subst hj
          rw [hd] at hqx
          injection hqx with hqx
          exact hx hqx.symm
        rw [getD_set_ne false hji] at hl
        exact hS.yes j q x hj hqx hl
    · rw [hd]; simpa [Act.put] using hS.sz
    · rw [hd]; exact hS.df
  -- is it wanted
  have hw : Region.wanted o' (yielded ops a.tmps) = b i := by
    unfold wantedA at s1
    split at s1
    · rename_i hg
      injection s1 with s1
      rw [← s1]; simp [Region.wanted, hg]
    · rename_i j want hg
      split at s1
      · cases s1
      · rename_i x hx
        split at s1
        · rename_i bb hbb
          injection s1 with s1
          have hlk := look x (by simp [Oper.looksAt, hg, hx])
          rw [hbb] at hlk
          have hlk' : a.tmps.getD x undef = .bool bb := hlk
          have hy : yielded ops a.tmps j = some bb := by
            unfold yielded
            rw [hx]
            simp only [Option.bind_some]
            cases he : a.tmps[x]? with
            | none => rw [Array.getD_eq_getD_getElem?, he] at hlk'; exact absurd hlk' (by simp [undef])
            | some v => rw [Array.getD_eq_getD_getElem?, he] at hlk'; simp at hlk'; subst hlk'; rfl
          rw [← s1]
          simp only [Region.wanted, hg, hy]
          cases bb <;> cases want <;> rfl
        · rename_i hbb
          injection s1 with s1
          have hlk := look x (by simp [Oper.looksAt, hg, hx])
          rw [hbb] at hlk
          obtain ⟨vs, hlk', _⟩ := hlk
          have hy : yielded ops a.tmps j = none := by
            unfold yielded
            rw [hx]
            simp only [Option.bind_some]
            cases he : a.tmps[x]? with
            | none => rfl
            | some v => rw [Array.getD_eq_getD_getElem?, he] at hlk'; simp at hlk'; subst hlk'; rfl
          rw [← s1]
          simp [Region.wanted, hg, hy]
        · cases s1
  rw [hw]
  cases hbi : b i with
  | false =>
    simp only [Bool.false_eq_true, if_false]
    exact hn _ (after undef (by rw [s3 hbi]; exact ⟨#[], rfl, .nil⟩))
  | true =>
    simp only [if_true]
    -- the slots that it looks at, alone
    let tm : List PV := (T i).mapIdx fun x q => if (o'.looksAt ops).contains x then q else .junk
    have htm : ∀ x, tm.getD x .junk = if (o'.looksAt ops).contains x then (T i).getD x .junk else .junk := by
      intro x
      simp only [tm, List.getD_eq_getElem?_getD, List.getElem?_mapIdx]
      cases (T i)[x]? <;> simp
    have hop : ∀ x, V (vw w base ρ h) (ev tm x) (a.eval x) := by
      intro x
      cases x with
      | tmp x =>
        show V _ (tm.getD x .junk) (a.tmps.getD x undef)
        rw [htm]
        split
        · rename_i hc; exact look x (by simpa using hc)
        · trivial
      | const v => exact V_of_V1 (ofVal_V1 _ v)
      | global g => trivial
      | func f => exact ⟨#[], rfl, .nil⟩
    have hcg : opK P E o' tm h (fun p h => some (p, h)) = some (p i, h) := by
      rw [opK_congr (t' := T i) q1 (fun x hx => ?_)]
      · exact s2 hbi (PV × Hp) fun p h => some (p, h)
      · cases x with
        | tmp x =>
          show tm.getD x .junk = (T i).getD x .junk
          rw [htm, if_pos]
          have : x ∈ o'.looksAt ops := by
            simp only [Oper.looksAt, List.mem_append, List.mem_filterMap]
            exact .inl ⟨.tmp x, by simpa using hx, rfl⟩
          simpa using this
        | const v => rfl
        | global g => rfl
        | func f => rfl
    obtain ⟨p', h', g1, _, g3⟩ := (opK_sound (gg := false) (o := o') hE hS.iv hS.H (t := tm) (a := a) hop (fun h => by cases h)).go (PV × Hp) _ _ hcg
    injection g1 with g1
    injection g1 with g1 g2
    subst g1; subst g2
    obtain ⟨_, u, hrun, hu⟩ := g3.2.1 q1
    simp only [Oper.wp, Oper.upon, hrun]
    exact hn _ (after u hu)
theorem quiet_done {listed : Array Bool} {a : Act} (hS : QInv P pin base rv w ρ h ops (T 0) (T ops.size) listed a) (hr : Region.ready .any ops listed = []) : StR pin base rv w ρ ⟨T ops.size, h⟩ a := by
  have all : ∀ i, i < ops.size → listed.getD i false = true := by
    intro i
    induction i using Nat.strongRecOn with
    | _ i ih =>
      intro hi
      rcases Bool.eq_false_or_eq_true (listed.getD i false) with h1 | h1
      · exact h1
      · exfalso
        have hmem : i ∈ Region.ready .any ops listed := by
          refine mem_ready.2 ⟨?_, ops[i], by simp [hi], fun e he hb => ?_⟩
          · have hl : i < listed.size := by rw [hS.ls]; exact hi
            simp [hl] at h1 ⊢
            exact h1
          · have hlt := (quietB_spec hq (i := i) (o := ops[i]) (by simp [hi])).2.2.1 e he hb
            exact ih e.on hlt (by omega)
        rw [hr] at hmem
        cases hmem
  refine ⟨hS.H, fun x => ?_, ?_, hS.df, hS.k0, hS.iv⟩
  · by_cases hdst : ∃ (j : Nat) (q : Oper), ops[j]? = some q ∧ q.dst = some x
    · obtain ⟨j, q, hj, hqx⟩ := hdst
      exact hS.yes j q x hj hqx (all j (Array.getElem?_eq_some_iff.1 hj).1)
    · have hno : ∀ (j : Nat) (o : Oper), ops[j]? = some o → o.dst ≠ some x := fun j o h1 h2 => hdst ⟨j, o, h1, h2⟩
      show V _ ((T ops.size).getD x .junk) _
      rw [T_same hq hT 0 ops.size (Nat.zero_le _) (Nat.le_refl _) fun j o _ _ h1 => hno j o h1]
      exact hS.no x hno
  · show (T ops.size).length ≤ _
    rw [T_len hq hT ops.size (Nat.le_refl _)]
    exact hS.sz
omit hE hq hT in
theorem filter_less {α : Type} {p p' : α → Bool} : ∀ {l : List α}, (∀ x ∈ l, p' x = true → p x = true) → (∃ x ∈ l, p x = true ∧ p' x = false) → (l.filter p').length < (l.filter p).length
  | [], _, ⟨x, hx, _⟩ => by simp at hx
  | y :: l, h1, ⟨x, hx, h2, h3⟩ => by
    have hle : (l.filter p').length ≤ (l.filter p).length := by
      have : ∀ l : List α, (∀ x ∈ l, p' x = true → p x = true) → (l.filter p').length ≤ (l.filter p).length := by
        intro l
        induction l with
        | nil => intro _; simp
        | cons z l ih =>
          intro h
          have := ih fun x hx => h x (by simp [hx])
          have hz := h z (by simp)
          cases e' : p' z <;> cases e : p z <;> simp [e', e] at hz ⊢ <;> omega
      exact this l fun x hx => h1 x (by simp [hx])
    rcases List.mem_cons.1 hx with rfl | hx
    · simp [h2, h3]; omega
    · have := filter_less (p := p) (p' := p') (l := l) (fun x hx => h1 x (by simp [hx])) ⟨x, hx, h2, h3⟩
      have hz := h1 y (by simp)
      cases e' : p' y <;> cases e : p y <;> simp [e', e] at hz ⊢ <;> omega
theorem quiet_any {Q : Exit → Act → World → Prop} (hQ : ∀ a, StR pin base rv w ρ ⟨T ops.size, h⟩ a → Q .normal a w) : ∀ (n : Nat) {listed : Array Bool} {a : Act}, QInv P pin base rv w ρ h ops (T 0) (T ops.size) listed a →
    ((List.range ops.size).filter fun i => !listed.getD i true).length ≤ n → wpAny P .any ops Q n listed a w
  | 0, listed, a, hS, hn => by
    have hr : Region.ready .any ops listed = [] := by
      cases hc : Region.ready .any ops listed with
      | nil => rfl
      | cons i l =>
        exfalso
        have hi : i ∈ Region.ready .any ops listed := by rw [hc]; simp
        obtain ⟨h1, o, h2, _⟩ := mem_ready.1 hi
        have hm : i ∈ (List.range ops.size).filter fun i => !listed.getD i true := by
          rw [List.mem_filter]
          exact ⟨by simpa using (Array.getElem?_eq_some_iff.1 h2).1, by rw [h1]; rfl⟩
        have := List.length_pos_of_mem hm
        omega
    exact wpAny_done hr (hQ a (quiet_done hE hq hT hS hr)) 0
  | n + 1, listed, a, hS, hn => by
    refine ⟨fun hr => hQ a (quiet_done hE hq hT hS hr), fun i hi => ?_⟩
    obtain ⟨h1, o, h2, _⟩ := mem_ready.1 hi
    have hil : i < ops.size := (Array.getElem?_eq_some_iff.1 h2).1
    have hcount : ((List.range ops.size).filter fun j => !(listed.setIfInBounds i true).getD j true).length ≤ n := by
      have := filter_less (p := fun j => !listed.getD j true) (p' := fun j => !(listed.setIfInBounds i true).getD j true) (l := List.range ops.size) (fun x _ hx => by
        by_cases hxi : i = x
        · subst hxi; rw [h1]; rfl
        · rw [getD_set_ne true hxi] at hx; exact hx) ⟨i, by simpa using hil, by rw [h1]; rfl, by
          have hl : i < listed.size := by rw [hS.ls]; exact hil
          simp [hl]⟩
      omega
    unfold wpOp
    simp only [h2]
    have := quiet_step hE hq hT hS h2 hi (wpAny P .any ops Q n (listed.setIfInBounds i true)) Q fun a' hS' => quiet_any hQ n hS' hcount
    split
    · rename_i hw; rw [if_pos hw] at this; exact .inl this
    · rename_i hw; rw [if_neg hw] at this; exact this
end
end FN

namespace FN
open Go Go.RowKit
theorem addIds_app (h : Hp) : ∀ (is acc : List Nat), ∃ l, addIds h acc is = acc ++ l
  | [], acc => ⟨[], by simp [addIds]⟩
  | i :: is, acc => by
    simp only [addIds]
    split
    · exact addIds_app h is acc
    · split
      · exact addIds_app h is acc
      · obtain ⟨l, hl⟩ := addIds_app h is (acc ++ [i])
        exact ⟨i :: l, by rw [hl]; simp⟩
theorem addIds_nodup (h : Hp) : ∀ (is acc : List Nat), acc.Nodup → (addIds h acc is).Nodup
  | [], acc, hn => hn
  | i :: is, acc, hn => by
    simp only [addIds]
    split
    · exact addIds_nodup h is acc hn
    · rename_i hc
      split
      · exact addIds_nodup h is acc hn
      · refine addIds_nodup h is _ ?_
        rw [List.nodup_append]
        refine ⟨hn, by simp, fun x hx y hy e => ?_⟩
        simp at hy
        subst hy; subst e
        exact hc (by simpa using hx)
theorem foldl_inv {Q : List Nat → Prop} {f : List Nat → Nat → List Nat} (hf : ∀ a i, Q a → Q (f a i)) : ∀ (l : List Nat) (a : List Nat), Q a → Q (l.foldl f a)
  | [], a, h => h
  | i :: l, a, h => foldl_inv hf l _ (hf a i h)
theorem reach_inv {Q : List Nat → Prop} (h : Hp) (hf : ∀ a is, Q a → Q (addIds h a is)) : ∀ (n : Nat) (acc : List Nat), Q acc → Q (reach h n acc)
  | 0, acc, hq => hq
  | n + 1, acc, hq => by
    simp only [reach]
    refine reach_inv h hf n _ (foldl_inv (fun a i ha => ?_) _ _ hq)
    split
    · exact hf _ _ ha
    · exact ha
section
variable [Gl] {P : Program} {E : Env'} {pin : Pn} {base : Nat} {rv : Option Value} {w : World} {ρ : Rh} {h : Hp}
/-- The handles, counted anew. -/
def renρ (ρ : Rh) (m : List Nat) : Rh := ⟨fun j => match m[j]? with | some i => ρ i | none => undef, ρ.ok0⟩
theorem renρ_idx {m : List Nat} {i : Nat} (hc : m.contains i = true) : renρ ρ m (m.idxOf i) = ρ i ∧ m.idxOf i < m.length := by
  have hm : i ∈ m := by simpa using hc
  have hl := List.idxOf_lt_length_of_mem hm
  have hg : m[m.idxOf i]? = some i := by rw [List.getElem?_eq_getElem hl, List.getElem_idxOf]
  exact ⟨by simp [renρ, hg], hl⟩
variable {h2 : Hp} {m : List Nat} (hN : h2.length = m.length) (hlive : ∀ j, h2.get j ≠ none → ∃ i, m[j]? = some i ∧ h.get i ≠ none)
include hN hlive
theorem ren_ok {k : Nat} (hk : okOf ρ h k) : okOf (renρ ρ m) h2 k := by
  refine ⟨hk.1, fun j hj hb => ?_⟩
  obtain ⟨i, h1, h3⟩ := hlive j hj
  have : (renρ ρ m) j = ρ i := by simp [renρ, h1]
  rw [this] at hb
  exact hk.2 i h3 hb
theorem ren_tr (f : Bool) : Tr w w ((vw w base ρ h).okf f) ((vw w base (renρ ρ m) h2).okf f) :=
  ⟨Nat.le_refl _, fun _ hk _ => ⟨rfl, ren_ok hN hlive hk.1, hk.2⟩⟩
theorem ren1_V {p : PV} {u : Value} (hv : V1 (vw w base ρ h) p u) : V1 (vw w base (renρ ρ m) h2) (ren1 m p) u := by
  cases p
  case own i =>
    simp only [ren1]
    split
    · rename_i hc
      obtain ⟨e1, e2⟩ := renρ_idx (ρ := ρ) hc
      obtain ⟨_, a2, a3⟩ := hv
      exact ⟨by show _ < h2.length; omega, a2.trans e1.symm, a3⟩
    · trivial
  case ep i c x y =>
    simp only [ren1]
    split
    · rename_i hc
      obtain ⟨e1, e2⟩ := renρ_idx (ρ := ρ) hc
      obtain ⟨_, g, n, cp, a2, a3⟩ := hv
      exact ⟨by show _ < h2.length; omega, g, n, cp, e1.trans a2, a3⟩
    · trivial
  case ptr i x =>
    simp only [ren1]
    split
    · rename_i hc
      obtain ⟨e1, e2⟩ := renρ_idx (ρ := ρ) hc
      obtain ⟨_, g, a2, a3⟩ := hv
      exact ⟨by show _ < h2.length; omega, g, e1.trans a2, a3⟩
    · trivial
  case row f c xs => exact SlR.tr (ren_tr hN hlive f) (show SlR w ((vw w base ρ h).okf f) c xs u from hv)
  case rp f c xs i o =>
    obtain ⟨ad, a1, a2, a3⟩ := hv
    exact ⟨ad, a1, a2.tr (ren_tr hN hlive f), a3⟩
  case fn f caps => cases caps with
    | nil => exact hv
    | cons => trivial
  case agg => trivial
  case tup => trivial
  all_goals exact hv
theorem ren2_V {p : PV} {u : Value} (hv : V2 (vw w base ρ h) p u) : V2 (vw w base (renρ ρ m) h2) (ren2 m p) u := by
  cases p
  case agg ps =>
    obtain ⟨vs, e, hvs⟩ := hv
    exact ⟨vs, e, F2.map (hvs.imp fun _ _ hx => ren1_V hN hlive hx)⟩
  case fn f caps =>
    obtain ⟨vs, e, hvs⟩ := hv
    exact ⟨vs, e, F2.map (hvs.imp fun _ _ hx => ren1_V hN hlive hx)⟩
  all_goals (simp only [ren2]; exact V2_of_V1 (ren1_V hN hlive hv))
theorem ren_V {p : PV} {u : Value} (hv : V (vw w base ρ h) p u) : V (vw w base (renρ ρ m) h2) (ren m p) u := by
  cases p
  case tup ps =>
    obtain ⟨vs, e, hvs⟩ := hv
    exact ⟨vs, e, F2.map (hvs.imp fun _ _ hx => ren2_V hN hlive hx)⟩
  all_goals (simp only [ren]; exact V_of_V2 (ren2_V hN hlive hv))
theorem ren_V1 {p : PV} {u : Value} (hv : V1 (vw w base ρ h) p u) : V1 (vw w base (renρ ρ m) h2) (ren m p) u := by
  cases p
  case agg => exact hv.elim
  case tup => exact hv.elim
  case fn f caps => cases caps with
    | nil => exact hv
    | cons => exact hv.elim
  all_goals exact ren1_V hN hlive hv
end
end FN

namespace FN
open Go Go.RowKit
theorem obind_ite {α β : Type} (o : Option α) (c : Prop) [Decidable c] (f : α → Option β) : (o.bind fun r => if c then f r else none) = if c then o.bind f else none := by
  by_cases h : c
  · simp [h]
  · simp [h]
theorem same2 {R : Type} (x : Option R) : same [x, x] = x := same_rep 1 x
theorem same3 {R : Type} (x : Option R) : same [x, x, x] = x := same_rep 2 x
theorem same4 {R : Type} (x : Option R) : same [x, x, x, x] = x := same_rep 3 x
theorem same5 {R : Type} (x : Option R) : same [x, x, x, x, x] = x := same_rep 4 x
theorem same6 {R : Type} (x : Option R) : same [x, x, x, x, x, x] = x := same_rep 5 x
/-! All orders of a region, told over pure states. -/
section
variable (P : Program) (E : Env') (ops : Array Oper)
/-- One operation alone comes to one state. -/
def StepTo (o : Oper) (t : List PV) (h : Hp) (t' : List PV) (h' : Hp) : Prop := ∀ (R : Type) (K : List PV → Hp → Option R), exOps P E ops [o] t h K = K t' h'
def AnyA (Post : List PV → Hp → Prop) : Nat → Array Bool → List PV → Hp → Prop
  | 0, listed, t, h => Region.ready .any ops listed = [] ∧ Post t h
  | n + 1, listed, t, h => (Region.ready .any ops listed = [] → Post t h) ∧ ∀ i ∈ Region.ready .any ops listed, ∃ o, ops[i]? = some o ∧ ∃ t' h', StepTo P E ops o t h t' h' ∧ AnyA Post n (listed.setIfInBounds i true) t' h'
def OpTo (o : Oper) (t : List PV) (h : Hp) (p : PV) (h' : Hp) : Prop := ∀ (R : Type) (K : PV → Hp → Option R), opK P E o t h K = K p h'
variable {P E ops}
theorem opTo_of {o : Oper} {t : List PV} {h : Hp} {R : Type} {K : PV → Hp → Option R} {r : R} (hk : opK P E o t h K = some r) : ∃ p h', OpTo P E o t h p h' ∧ K p h' = some r := by
  obtain ⟨⟨p, h'⟩, h1, h2⟩ := opK_D P E o t h R (fun x => K x.1 x.2) r hk
  exact ⟨p, h', fun R' K' => h2 R' fun x => K' x.1 x.2, h1⟩
/-- Its guard's word: it runs, it is left out, or neither is known. -/
def wantA (ops : Array Oper) (o : Oper) (t : List PV) : Option Bool := match o.guard with
  | none => some true
  | some (j, want) => match (ops[j]?).bind (·.dst) with
    | none => none
    | some d => match t.getD d .junk with
      | .bool b => some (b == want)
      | .tup [] => some false
      | _ => none
theorem set_getD {t : List PV} {d : Nat} {b : Bool} (h : t.getD d .junk = .bool b) : t.set d (.bool b) = t := by
  rw [List.getD_eq_getElem?_getD] at h
  apply List.ext_getElem?
  intro i
  by_cases hi : i = d
  · subst hi
    by_cases hl : i < t.length
    · rw [List.getElem?_eq_getElem hl] at h ⊢
      simp at h
      simp [hl, h]
    · rw [List.getElem?_eq_none (Nat.le_of_not_lt hl)] at h
      simp at h
  · rw [List.getElem?_set_ne (Ne.symm hi)]
theorem exOps1 {R : Type} {o : Oper} {t : List PV} {h : Hp} {K : List PV → Hp → Option R} : exOps P E ops [o] t h K = match wantA ops o t with
    | some true => opK P E o t h fun p h' => K (putT t o.dst p) h'
    | some false => K (putT t o.dst (.tup [])) h
    | none => none := by
  unfold wantA
  cases hg : o.guard with
  | none => simp only [exOps, hg]
  | some g =>
    obtain ⟨j, want⟩ := g
    simp only [exOps, hg]
    cases hd : (ops[j]?).bind (·.dst) with
    | none => rfl
    | some d =>
      simp only
      split
      · rename_i b hb
        rw [hb]
        simp only
        cases b with
        | true =>
          rw [set_getD hb]
          cases want <;> simp
        | false =>
          try simp only [condA_false, cond_false]
          rw [set_getD hb]
          cases want <;> simp
      · rename_i hb
        rw [hb]
      · rename_i x h1 h2
        split
        · rename_i hw
          split at hw
          · rename_i b hb; exact absurd hb (h1 b)
          · rename_i hb; exact absurd hb h2
          · cases hw
        · rename_i hw
          split at hw
          · rename_i b hb; exact absurd hb (h1 b)
          · rename_i hb; exact absurd hb h2
          · cases hw
        · rfl
theorem fillK_alike {t t' : List PV} {ty : TypeId} : ∀ (l : List (Nat × Operand)) (cells : List PV), (∀ x ∈ l, ev t x.2 = ev t' x.2) → fillK P ty t l cells = fillK P ty t' l cells
  | [], _, _ => rfl
  | x :: l, cells, h => by
    simp only [fillK, h x (by simp)]
    split
    · split
      · exact fillK_alike l _ fun y hy => h y (by simp [hy])
      · rfl
    · rfl
theorem opK_alike {R : Type} {o : Oper} {t t' : List PV} {h : Hp} {K : PV → Hp → Option R} (hx : ∀ x ∈ o.op.operands.toList, ev t x = ev t' x) : opK P E o t h K = opK P E o t' h K := by
  obtain ⟨dst, op, ty, pos, after, guard⟩ := o
  simp only at hx
  cases op
  case build ty ps =>
    have e : ∀ cells, fillK P ty t ps.toList cells = fillK P ty t' ps.toList cells := fun cells => fillK_alike ps.toList cells fun x hx' => hx x.2 (by simp only [Op.operands]; simp; exact ⟨x.1, by simpa using hx'⟩)
    simp only [opK, e]
  case buildSlice ty n ps =>
    have h1 : ∀ x ∈ ps.toList, ev t x.2 = ev t' x.2 := fun x hx' => hx x.2 (by simp only [Op.operands]; simp; exact ⟨x.1, by simpa using hx'⟩)
    have e1 : (ps.toList.all fun x => (cellsOf (ev t x.2)).length == 0 || true) = true := by simp
    have e2 : ∀ c : CK, (ps.toList.all fun x => (cellsOf (ev t x.2)).length == c.sz && (cellsOf (ev t x.2)).all oneP) = (ps.toList.all fun x => (cellsOf (ev t' x.2)).length == c.sz && (cellsOf (ev t' x.2)).all oneP) := fun c => by
      rw [Bool.eq_iff_iff, List.all_eq_true, List.all_eq_true]
      exact ⟨fun h x hx => by rw [← h1 x hx]; exact h x hx, fun h x hx => by rw [h1 x hx]; exact h x hx⟩
    have e3 : (ps.toList.flatMap fun x => cellsOf (ev t x.2)) = (ps.toList.flatMap fun x => cellsOf (ev t' x.2)) := by
      simp only [List.flatMap]
      rw [List.map_congr_left fun x hx => by rw [h1 x hx]]
    simp only [opK, e2, e3]
  case slice ty x lo hi mx =>
    have h1 : ev t x = ev t' x := hx x (by simp [Op.operands])
    have h2 : lo.map (ev t) = lo.map (ev t') := by
      cases lo with
      | none => rfl
      | some y => simp [hx y (by simp [Op.operands])]
    have h3 : hi.map (ev t) = hi.map (ev t') := by
      cases hi with
      | none => rfl
      | some y => simp [hx y (by simp [Op.operands])]
    cases mx with
    | none => simp only [opK, h1, h2, h3]
    | some m =>
      have h4 : ev t m = ev t' m := hx m (by simp [Op.operands])
      cases hi with
      | none => rfl
      | some y =>
        have h5 : ev t y = ev t' y := hx y (by simp [Op.operands])
        simp only [opK, h1, h2, h4, h5]
  case makeFunc f fs cs =>
    have h1 : cs.toList.map (ev t) = cs.toList.map (ev t') := List.map_congr_left fun x hx' => hx x (by simp [Op.operands]; exact .inr (by simpa using hx'))
    cases f <;> first | rfl | simp only [opK, h1]
  case call c =>
    obtain ⟨callee, args, ats⟩ := c
    have h1 : args.toList.map (ev t) = args.toList.map (ev t') := List.map_congr_left fun x hx' => hx x (by simp [Op.operands, Call.operands]; exact .inr (by simpa using hx'))
    have h0 : ∀ x ∈ args.toList, ev t x = ev t' x := fun x hx' => hx x (by simp [Op.operands, Call.operands]; exact .inr (by simpa using hx'))
    cases callee with
    | value f =>
      have h2 : ev t f = ev t' f := hx f (by simp [Op.operands, Call.operands])
      cases f <;> first | rfl | simp only [opK, h1, h2]
    | invoke r m => rfl
    | builtin b =>
      cases b <;> first | rfl | (simp only [opK, h1]; done) | skip
      case len =>
        simp only [opK]
        split
        · rename_i x ty hl _
          rw [h0 x (by rw [hl]; simp)]
        · rfl
      case append =>
        simp only [opK]
        split
        · rename_i s x ty ty' hl _
          rw [h0 s (by rw [hl]; simp), h0 x (by rw [hl]; simp)]
        · rfl
  all_goals first | rfl | (simp only [Op.operands, List.mem_cons, List.not_mem_nil, or_false, forall_eq_or_imp, forall_eq] at hx; simp only [opK, hx]; done) | (simp [Op.operands] at hx; simp only [opK, hx]; done) | skip
theorem easy_eq {o : Oper} {t : List PV} (he : easyB t o.op = true) : (∀ (R : Type) (K : PV → Hp → Option R) (h : Hp), opK P E o t h K = opK P E o t [] fun p _ => K p h) ∨ (∃ ty a id off, o.op = .load ty a ∧ ev t a = .ptr id off) ∨ ownB t o.op = true := by
  obtain ⟨dst, op, ty, pos, after, guard⟩ := o
  simp only at he
  cases op
  case load lty a =>
    simp only [easyB] at he
    split at he
    · rename_i id off ha
      exact .inr (.inl ⟨lty, a, id, off, rfl, ha⟩)
    · rename_i ha
      refine .inl fun R K h => ?_
      simp only [opK, ha]
      rfl
    · rename_i ha
      exact .inr (.inr (by simp only [ownB, ha]))
    · cases he
  case indexAddr ity x i =>
    simp only [easyB] at he
    split at he
    · rename_i hx
      refine .inl fun R K h => ?_
      simp only [opK, hx]
    · rename_i hx
      exact .inr (.inr (by simp only [ownB, hx]))
    · cases he
  case convert src dst x =>
    simp only [easyB] at he
    split at he
    · rename_i k n hx
      refine .inl fun R K h => ?_
      simp only [opK, hx]
      split
      · cases P.underlying dst with
        | none => rfl
        | some d => cases d <;> rfl
      · rfl
    · cases he
  case slice ty x lo hi mx =>
    cases mx with
    | some m => cases he
    | none =>
      simp only [easyB] at he
      split at he
      · rename_i s hx
        refine .inl fun R K h => ?_
        simp only [opK, hx]
        split
        · simp only [sliceO, sliceK]
        · simp only [sliceK]
      · cases he
  case call c =>
    obtain ⟨callee, args, ats⟩ := c
    cases callee with
    | value f => cases he
    | invoke r m => cases he
    | builtin b => cases b <;> first | (cases he; done) | (exact .inl fun R K h => rfl)
  all_goals first | (cases he; done) | (exact .inl fun R K h => rfl)
def BoxAt (id : Nat) (h h' : Hp) : Prop := ∀ ty cs, h.get id = some (.box ty cs) → h'.get id = some (.box ty cs)
def Boxes (h h' : Hp) : Prop := ∀ id ty cs, h.get id = some (.box ty cs) → h'.get id = some (.box ty cs)
def Stays (h h' : Hp) : Prop := ∀ id b, h.get id = some b → h'.get id = some b
theorem Stays.refl (h : Hp) : Stays h h := fun _ _ h => h
theorem Stays.app (h : Hp) (l : Hp) : Stays h (h ++ l) := fun i b e => by
  have hl : i < h.length := by
    rcases Nat.lt_or_ge i h.length with hh | hh
    · exact hh
    · simp [Hp.get, List.getElem?_eq_none hh] at e
  simpa [Hp.get, List.getElem?_append_left hl] using e
theorem own_step {o : Oper} {t : List PV} {h h1 : Hp} {p : PV} (he : ownB t o.op = true) (ho : OpTo P E o t h p h1) : h1 = h ∧ ∀ h', Stays h h' → OpTo P E o t h' p h' := by
  obtain ⟨dst, op, ty', pos, after, guard⟩ := o
  simp only at he
  have h3 := ho (PV × Hp) (fun p h => some (p, h))
  cases op
  case load ty a =>
    simp only [ownB] at he
    split at he
    · rename_i id c' i off ha
      simp only [opK, ha, loadK] at h3
      split at h3
      · rename_i f c xs hb
        split at h3
        · rename_i hc
          obtain ⟨q, h4, h5⟩ := readK_D P ty (c.flds f (xs.getD i c.dflt)) off (PV × Hp) (fun p => some (p, h)) (p, h1) h3
          injection h4 with h4
          injection h4 with h4 h6
          subst h4
          refine ⟨h6.symm, fun h' hs R K => ?_⟩
          simp only [opK, ha, loadK, hs id _ hb]
          rw [if_pos hc]
          exact h5 R fun p => K p h'
        · cases h3
      · cases h3
    · cases he
  case indexAddr ity x i =>
    simp only [ownB] at he
    split at he
    · rename_i id hx
      simp only [opK, hx] at h3
      split at h3
      · rename_i el k n he1 he2
        split at h3
        · rename_i e f c xs hg
          split at h3
          · rename_i h6
            split at h3
            · rename_i h7
              injection h3 with h3
              injection h3 with h3 h4
              subst h3
              refine ⟨h4.symm, fun h' hs R K => ?_⟩
              simp only [opK, hx, he1, he2, hs id _ hg]
              rw [if_pos h6, if_pos h7]
            · cases h3
          · cases h3
        · cases h3
      · cases h3
    · cases he
  all_goals cases he
theorem easy_step {o : Oper} {t : List PV} {h h1 : Hp} {p : PV} (he : easyB t o.op = true) (ho : OpTo P E o t h p h1) : h1 = h ∧ ∀ h', (∀ id, boxOf t o.op = some id → BoxAt id h h') → (ownB t o.op = true → Stays h h') → OpTo P E o t h' p h' := by
  rcases easy_eq (P := P) (E := E) he with h2 | ⟨ty, a, id, off, e1, e2⟩ | h2
  · have h3 := ho (PV × Hp) (fun p h => some (p, h))
    rw [h2] at h3
    obtain ⟨⟨q, hq⟩, h4, h5⟩ := opK_D P E o t [] (PV × Hp) (fun x => some (x.1, h)) (p, h1) h3
    injection h4 with h4
    injection h4 with h4 h6
    subst h4
    exact ⟨h6.symm, fun h' _ _ R K => (h2 R K h').trans (h5 R fun x => K x.1 h')⟩
  · have hl : ∀ (R : Type) (K : PV → Hp → Option R) (h : Hp), opK P E o t h K = loadK P ty (.ptr id off) h fun p => K p h := fun R K h => by
      obtain ⟨dst, op, ty', pos, after, guard⟩ := o
      simp only at e1
      subst e1
      simp only [opK, e2]
    have h3 := ho (PV × Hp) (fun p h => some (p, h))
    rw [hl] at h3
    simp only [loadK] at h3
    split at h3
    · rename_i bt cells hb
      obtain ⟨q, h4, h5⟩ := readK_D P ty cells off (PV × Hp) (fun p => some (p, h)) (p, h1) h3
      injection h4 with h4
      injection h4 with h4 h6
      subst h4
      refine ⟨h6.symm, fun h' hb' _ R K => ?_⟩
      rw [hl]
      simp only [loadK, hb' id (by rw [e1]; simp only [boxOf, e2]) bt cells hb]
      exact h5 R fun p => K p h'
    · cases h3
  · obtain ⟨h3, h4⟩ := own_step h2 ho
    exact ⟨h3, fun h' _ hs => h4 h' (hs h2)⟩
theorem Boxes.refl (h : Hp) : Boxes h h := fun _ _ _ h => h
theorem Boxes.trans {a b c : Hp} (h : Boxes a b) (k : Boxes b c) : Boxes a c := fun i t cs e => k i t cs (h i t cs e)
theorem Boxes.app (h : Hp) (l : Hp) : Boxes h (h ++ l) := fun i t cs e => by
  have hl : i < h.length := by
    rcases Nat.lt_or_ge i h.length with hh | hh
    · exact hh
    · simp [Hp.get, List.getElem?_eq_none hh] at e
  simpa [Hp.get, List.getElem?_append_left hl] using e
theorem Boxes.none {h : Hp} {i : Nat} {e : TypeId} {f : Bool} {c : CK} {xs : List c.T} (hi : h.get i = some (.arr e f c xs)) : Boxes h (h.set i none) := fun j t cs hj => by
  by_cases hij : i = j
  · subst hij; rw [hi] at hj; cases hj
  · simpa [Hp.get, List.getElem?_set_ne hij] using hj
theorem Boxes.frz (h : Hp) (p : PV) : Boxes h (frz h p).2 := by
  unfold FN.frz
  split
  · split
    · rename_i hi; exact Boxes.none hi
    · exact Boxes.refl h
  · exact Boxes.refl h
theorem Boxes.frzs : ∀ (ps : List PV) (h : Hp), Boxes h (FN.frzs h ps).2
  | [], h => Boxes.refl h
  | p :: ps, h => (Boxes.frz h p).trans (Boxes.frzs ps _)
theorem Boxes.frzD (h : Hp) (p : PV) : Boxes h (frzD h p).2 := by
  unfold FN.frzD
  split
  · exact Boxes.frzs _ h
  · exact Boxes.frz h _
theorem Boxes.frzDs : ∀ (ps : List PV) (h : Hp), Boxes h (FN.frzDs h ps).2
  | [], h => Boxes.refl h
  | p :: ps, h => (Boxes.frzD h p).trans (Boxes.frzDs ps _)
theorem pureH {o : Oper} {t : List PV} {h h' : Hp} {p : PV} (he : ∀ (R : Type) (K : PV → Hp → Option R), opK P E o t h K = opK P E o t h fun p _ => K p h) (ho : OpTo P E o t h p h') : h' = h := by
  have h1 := ho (PV × Hp) fun p h => some (p, h)
  rw [he, ho] at h1
  injection h1 with h1
  injection h1 with _ h1
  exact h1.symm
theorem Boxes.app2 {el e : TypeId} {f : Bool} {c : CK} {xs : List c.T} {y : PV} {h h' : Hp} (hk : app2K P el e f c xs y h (fun _ h => some h) = some h') : Boxes h h' := by
  unfold app2K at hk
  split at hk
  · split at hk
    · injection hk with hk; subst hk; exact Boxes.app _ _
    · split at hk
      · split at hk
        · injection hk with hk; subst hk; exact Boxes.app _ _
        · cases hk
      · cases hk
    · cases hk
  · cases hk
theorem Boxes.append {ty : TypeId} {s x : PV} {h h' : Hp} (hk : appendK P E ty s x h (fun _ h => some h) = some h') : Boxes h h' := by
  unfold appendK at hk
  split at hk
  · cases hk
  · split at hk
    · split at hk
      · rename_i hi
        exact (Boxes.none hi).trans (Boxes.app2 hk)
      · cases hk
    · split at hk
      · exact Boxes.app2 hk
      · cases hk
    · split at hk
      · split at hk
        · exact Boxes.app2 hk
        · cases hk
      · cases hk
    · cases hk
theorem Boxes.res {sig : Sig} {mine : Bool} {res : List PV} {h h' : Hp} (hk : resK sig mine res h (fun _ h => some h) = some h') : Boxes h h' := by
  unfold resK at hk
  cases mine with
  | true =>
    simp only [if_true] at hk
    split at hk <;> (injection hk with hk; subst hk; exact Boxes.refl _)
  | false =>
    simp only [Bool.false_eq_true, if_false] at hk
    split at hk <;> (injection hk with hk; subst hk; exact Boxes.frzs _ _)
theorem Boxes.call {c : Ctr'} (hc : c.sig.rd = Option.none) {args : List PV} {mine : Bool} {h h' : Hp} (hk : callG c args mine h (fun _ h => some h) = some h') : Boxes h h' := by
  unfold callG at hk
  rw [hc] at hk
  simp only at hk
  have hz : Boxes h (if c.sig.sh = true then FN.frzDs h args else (args, h)).2 := by
    split
    · exact Boxes.frzDs _ _
    · exact Boxes.refl _
  generalize (if c.sig.sh = true then FN.frzDs h args else (args, h)) = z at hk hz
  split at hk
  · cases hk
  · split at hk
    · cases hk
    · obtain ⟨r, _, hk⟩ := Option.bind_eq_some_iff.1 hk
      cases hnn : nnB c.sig r with
      | true =>
        rw [hnn, condA_true] at hk
        injection hk with hk; subst hk; exact hz
      | false =>
      rw [hnn, condA_false] at hk
      split at hk
      · exact (hz.trans (Boxes.app _ _)).trans (Boxes.res hk)
      · split at hk
        · injection hk with hk; subst hk; exact hz.trans (Boxes.app _ _)
        · cases hk
theorem box_step {o : Oper} {t : List PV} {h h' : Hp} {p : PV} (hb : boxB E o.op = true) (ho : OpTo P E o t h p h') : Boxes h h' := by
  obtain ⟨dst, op, ty, pos, after, guard⟩ := o
  simp only at hb
  have h1 := ho Hp fun _ h => some h
  cases op
  case alloc ty =>
    simp only [opK] at h1
    split at h1
    · injection h1 with h1; subst h1; exact Boxes.app _ _
    · cases h1
  case box ty v =>
    simp only [opK] at h1
    split at h1
    · injection h1 with h1; subst h1; exact Boxes.app _ _
    · cases h1
  case makeSlice ty l c =>
    simp only [opK] at h1
    split at h1
    · split at h1
      · split at h1
        · split at h1
          · injection h1 with h1; subst h1; exact Boxes.app _ _
          · cases h1
        · cases h1
      · cases h1
    · cases h1
  case buildSlice ty n ps =>
    simp only [opK] at h1
    split at h1
    · split at h1
      · split at h1
        · split at h1
          · injection h1 with h1; subst h1; exact (Boxes.frzs _ _).trans (Boxes.app _ _)
          · split at h1
            · injection h1 with h1; subst h1; exact (Boxes.frzs _ _).trans (Boxes.app _ _)
            · cases h1
        · cases h1
      · cases h1
    · cases h1
  case call c =>
    obtain ⟨callee, args, ats⟩ := c
    cases callee with
    | value f =>
      cases f <;> try (cases hb; done)
      simp only [boxB] at hb
      simp only [opK, callK] at h1
      split at hb
      · rename_i c hc
        rw [hc] at h1
        exact Boxes.call (by simpa using hb) h1
      · cases hb
    | invoke r m => cases hb
    | builtin b =>
      cases b <;> try (cases hb; done)
      case len => rw [pureH (P := P) (E := E) (fun R K => rfl) ho]; exact Boxes.refl _
      case max => rw [pureH (P := P) (E := E) (fun R K => rfl) ho]; exact Boxes.refl _
      case min => rw [pureH (P := P) (E := E) (fun R K => rfl) ho]; exact Boxes.refl _
      simp only [opK] at h1
      split at h1
      · split at h1
        · exact Boxes.append h1
        · cases h1
      · cases h1
  all_goals first | (cases hb; done) | (rw [pureH (P := P) (E := E) (fun R K => rfl) ho]; exact Boxes.refl _)
theorem otherPtr_spec {id : Nat} {p : PV} (h : otherPtr id p = true) : ∃ id', p = .ptr id' 0 ∧ id' ≠ id := by
  unfold otherPtr at h
  split at h
  · exact ⟨_, rfl, by simpa using h⟩
  · cases h
theorem keep_step {o : Oper} {t : List PV} {h h' : Hp} {p : PV} {ops : Array Oper} {listed : Array Bool} {id : Nat} (hb : keepT E ops listed t id o.op = true) (ho : OpTo P E o t h p h') : BoxAt id h h' := by
  obtain ⟨dst, op, ty, pos, after, guard⟩ := o
  simp only at hb
  have h1 := ho Hp fun _ h => some h
  cases op
  case store sty a v =>
    cases a with
    | tmp x =>
      simp only [keepT, Bool.and_eq_true] at hb
      obtain ⟨id', e1, e2⟩ := otherPtr_spec hb.2
      have e3 : ev t (.tmp x) = .ptr id' 0 := e1
      simp only [opK, e3, storeK] at h1
      split at h1
      · split at h1
        · injection h1 with h1
          subst h1
          intro ty cs hc
          rw [Hp.get_set, if_neg (fun e => e2 e.1.symm)]
          exact hc
        · cases h1
      · cases h1
    | const v => cases hb
    | global g => cases hb
    | func f => cases hb
  case call c =>
    obtain ⟨callee, args, ats⟩ := c
    cases callee with
    | invoke r m => cases hb
    | builtin b => cases hb
    | value f =>
      cases f <;> try (cases hb; done)
      simp only [keepT, Bool.and_eq_true] at hb
      obtain ⟨hf, hb⟩ := hb
      obtain ⟨c, hc⟩ := Option.isSome_iff_exists.1 hf
      split at hb
      · rename_i x rest hargs
        simp only [Bool.and_eq_true] at hb
        obtain ⟨id', e1, e2⟩ := otherPtr_spec hb.2
        have e3 : ev t (.tmp x) = .ptr id' 0 := e1
        simp only [opK, callK, hc, hargs, List.map_cons, e3] at h1
        unfold callG at h1
        split at h1
        · have hh := h1
          rename_i hrd
          have : Boxes h h' := Boxes.call hrd (args := PV.ptr id' 0 :: rest.map (ev t)) (mine := (Option.map E.mine dst).getD false) (by unfold callG; rw [hrd]; exact h1)
          exact this id
        · rename_i rt hrd
          split at h1
          · cases h1
          · rename_i id0 cells rst hro
            have hid0 : id0 = id' := by
              unfold rdOf at hro
              split at hro
              · rename_i id2 rest2 heq
                injection heq with h5 h6
                injection h5 with h5 h7
                split at hro
                · split at hro
                  · injection hro with hro
                    injection hro with hro
                    rw [← hro, h5]
                  · cases hro
                · cases hro
              · cases hro
            subst hid0
            simp only at h1
            split at h1
            · cases h1
            · split at h1
              · cases h1
              · obtain ⟨r, _, h1⟩ := Option.bind_eq_some_iff.1 h1
                split at h1
                · have g1 := Boxes.res h1
                  have g2 : Boxes h (frzDs h rst).2 := Boxes.frzDs _ _
                  intro ty cs hcs
                  refine g1 id ty cs ?_
                  rw [Hp.get_set, if_neg (fun e => e2 e.1.symm)]
                  exact Boxes.app _ _ id ty cs (g2 id ty cs hcs)
                · cases h1
      · cases hb
  all_goals cases hb
theorem stay_step {o : Oper} {t : List PV} {h h' : Hp} {p : PV} (hb : stayB o.op = true) (ho : OpTo P E o t h p h') : Stays h h' := by
  obtain ⟨dst, op, ty, pos, after, guard⟩ := o
  simp only at hb
  have h1 := ho Hp fun _ h => some h
  cases op
  case alloc ty =>
    simp only [opK] at h1
    split at h1
    · injection h1 with h1; subst h1; exact Stays.app _ _
    · cases h1
  case box ty v =>
    simp only [opK] at h1
    split at h1
    · injection h1 with h1; subst h1; exact Stays.app _ _
    · cases h1
  case makeSlice ty l c =>
    simp only [opK] at h1
    split at h1
    · split at h1
      · split at h1
        · split at h1
          · injection h1 with h1; subst h1; exact Stays.app _ _
          · cases h1
        · cases h1
      · cases h1
    · cases h1
  case call c =>
    obtain ⟨callee, args, ats⟩ := c
    cases callee with
    | value f => cases hb
    | invoke r m => cases hb
    | builtin b =>
      cases b <;> try (cases hb; done)
      all_goals rw [pureH (P := P) (E := E) (fun R K => rfl) ho]; exact Stays.refl _
  all_goals first | (cases hb; done) | (rw [pureH (P := P) (E := E) (fun R K => rfl) ho]; exact Stays.refl _)
theorem step_cases {o : Oper} {t t' : List PV} {h h' : Hp} (hs : StepTo P E ops o t h t' h') : (wantA ops o t = some true ∧ ∃ p, OpTo P E o t h p h' ∧ t' = putT t o.dst p) ∨ (wantA ops o t = some false ∧ t' = putT t o.dst (.tup []) ∧ h' = h) := by
  have h1 := hs (List PV × Hp) fun t h => some (t, h)
  rw [exOps1] at h1
  split at h1
  · rename_i hw
    obtain ⟨p, h'', ho, e⟩ := opTo_of h1
    injection e with e
    injection e with e1 e2
    subst e2
    exact .inl ⟨hw, p, ho, e1.symm⟩
  · rename_i hw
    injection h1 with e
    injection e with e1 e2
    exact .inr ⟨hw, e1.symm, e2.symm⟩
  · cases h1
theorem step_true {o : Oper} {t : List PV} {h h' : Hp} {p : PV} (hw : wantA ops o t = some true) (ho : OpTo P E o t h p h') : StepTo P E ops o t h (putT t o.dst p) h' := fun R K => by
  rw [exOps1, hw]
  exact ho R fun p h' => K (putT t o.dst p) h'
theorem step_false {o : Oper} {t : List PV} {h : Hp} (hw : wantA ops o t = some false) : StepTo P E ops o t h (putT t o.dst (.tup [])) h := fun R K => by
  rw [exOps1, hw]
theorem getD_put_ne {t : List PV} {d : Option Tmp} {p : PV} {i : Nat} (h : ∀ d', d = some d' → d' ≠ i) : (putT t d p).getD i .junk = t.getD i .junk := by
  cases d with
  | none => rfl
  | some d => simp only [putT, List.getD_eq_getElem?_getD]; rw [List.getElem?_set_ne (h d rfl)]
theorem look_ev {o : Oper} {t : List PV} {d : Option Tmp} {p : PV} (hd : ∀ d', d = some d' → d' ∉ o.looksAt ops) : ∀ x ∈ o.op.operands.toList, ev (putT t d p) x = ev t x := by
  intro x hx
  cases x with
  | tmp i =>
    exact getD_put_ne (t := t) (d := d) (p := p) (i := i) fun d' e hi => hd d' e (by
      subst hi
      simp only [Oper.looksAt, List.mem_append, List.mem_filterMap]
      exact .inl ⟨.tmp d', hx, rfl⟩)
  | const v => rfl
  | global g => rfl
  | func f => rfl
theorem look_want {o : Oper} {t : List PV} {d : Option Tmp} {p : PV} (hd : ∀ d', d = some d' → d' ∉ o.looksAt ops) : wantA ops o (putT t d p) = wantA ops o t := by
  unfold wantA
  cases hg : o.guard with
  | none => rfl
  | some g =>
    obtain ⟨j, want⟩ := g
    simp only
    cases he : (ops[j]?).bind (·.dst) with
    | none => rfl
    | some x =>
      simp only
      rw [getD_put_ne fun d' e hi => hd d' e (by
        subst hi
        simp only [Oper.looksAt, hg, List.mem_append]
        exact .inr (by rw [he]; simp))]
theorem putT_comm {t : List PV} {d d' : Option Tmp} {p q : PV} (h : ∀ x, d = some x → d' ≠ some x) : putT (putT t d p) d' q = putT (putT t d' q) d p := by
  cases d with
  | none => rfl
  | some a => cases d' with
    | none => rfl
    | some b => exact List.set_comm _ _ fun e => h a rfl (by rw [e])
theorem easy_congr {t t' : List PV} {op : Op} (hx : ∀ x ∈ op.operands.toList, ev t x = ev t' x) : easyB t op = easyB t' op := by
  cases op
  case load ty a => simp only [easyB, hx a (by simp [Op.operands])]
  case indexAddr ty x i => simp only [easyB, hx x (by simp [Op.operands])]
  case convert src dst x => simp only [easyB, hx x (by simp [Op.operands])]
  case slice ty x lo hi mx =>
    cases mx with
    | some m => rfl
    | none => simp only [easyB, hx x (by simp [Op.operands])]
  case call c =>
    obtain ⟨callee, args, ats⟩ := c
    cases callee with
    | value f => rfl
    | invoke r m => rfl
    | builtin b => cases b <;> rfl
  all_goals rfl
theorem own_congr {t t' : List PV} {op : Op} (hx : ∀ x ∈ op.operands.toList, ev t x = ev t' x) : ownB t op = ownB t' op := by
  cases op
  case load ty a => simp only [ownB, hx a (by simp [Op.operands])]
  case indexAddr ty x i => simp only [ownB, hx x (by simp [Op.operands])]
  all_goals rfl
theorem box_congr {t t' : List PV} {op : Op} (hx : ∀ x ∈ op.operands.toList, ev t x = ev t' x) : boxOf t op = boxOf t' op := by
  cases op
  case load ty a => simp only [boxOf, hx a (by simp [Op.operands])]
  all_goals rfl
theorem fixedT_spec {listed : Array Bool} {x : Nat} (h : fixedT ops listed x = true) {j : Nat} {oj : Oper} (hj : ops[j]? = some oj) (hu : listed.getD j true = false) : oj.dst ≠ some x := by
  unfold fixedT at h
  have h1 := List.all_eq_true.1 h j (List.mem_range.2 (Array.getElem?_eq_some_iff.1 hj).1)
  rw [hu, hj] at h1
  simpa using h1
theorem fixedT_mono {listed : Array Bool} {x j : Nat} (h : fixedT ops listed x = true) : fixedT ops (listed.setIfInBounds j true) x = true := by
  unfold fixedT at h ⊢
  rw [List.all_eq_true] at h ⊢
  intro k hk
  have h1 := h k hk
  rw [Bool.or_eq_true] at h1 ⊢
  rcases h1 with h1 | h1
  · left
    by_cases e : j = k
    · subst e
      rcases Nat.lt_or_ge j listed.size with h' | h' <;> simp [Array.getD_eq_getD_getElem?, h', Array.getElem?_setIfInBounds]
    · rw [getD_set_ne true e]; exact h1
  · exact .inr h1
theorem keepT_mono {listed : Array Bool} {t : List PV} {id : Nat} {op : Op} {j : Nat} {oj : Oper} {q : PV} (hj : ops[j]? = some oj) (hu : listed.getD j true = false) (h : keepT E ops listed t id op = true) : keepT E ops (listed.setIfInBounds j true) (putT t oj.dst q) id op = true := by
  unfold keepT at h ⊢
  split at h
  · rw [Bool.and_eq_true] at h
    obtain ⟨hf, h⟩ := h
    split at h
    · rename_i x rest _
      rw [Bool.and_eq_true] at h
      simp only [hf, Bool.true_and, Bool.and_eq_true]
      refine ⟨fixedT_mono h.1, ?_⟩
      rw [getD_put_ne (fun d' e hi => fixedT_spec h.1 hj hu (by rw [e, hi]))]
      exact h.2
    · cases h
  · rename_i x _
    rw [Bool.and_eq_true] at h
    simp only [Bool.and_eq_true]
    refine ⟨fixedT_mono h.1, ?_⟩
    rw [getD_put_ne (fun d' e hi => fixedT_spec h.1 hj hu (by rw [e, hi]))]
    exact h.2
  · cases h
theorem boxKept_mono {listed : Array Bool} {t : List PV} {ob : Option Nat} {op : Op} {j : Nat} {oj : Oper} {q : PV} (hj : ops[j]? = some oj) (hu : listed.getD j true = false) (h : boxKept E ops listed t op ob = true) : boxKept E ops (listed.setIfInBounds j true) (putT t oj.dst q) op ob = true := by
  cases ob with
  | none => rfl
  | some id =>
    simp only [boxKept, Bool.or_eq_true] at h ⊢
    rcases h with h | h
    · exact .inl h
    · exact .inr (keepT_mono hj hu h)
theorem commute {oi oj : Oper} {t t1 t2 : List PV} {h h1 h2 : Hp} {listed : Array Bool} (hap : oi.apart ops oj = true) (he : easyB t oi.op = true) (hbx : boxKept E ops listed t oj.op (boxOf t oi.op) = true) (hst : ownB t oi.op = true → stayB oj.op = true) (hi : StepTo P E ops oi t h t1 h1) (hj : StepTo P E ops oj t1 h1 t2 h2) :
    ∃ t', StepTo P E ops oj t h t' h2 ∧ StepTo P E ops oi t' h2 t2 h2 ∧ easyB t' oi.op = true ∧ ownB t' oi.op = ownB t oi.op ∧ boxOf t' oi.op = boxOf t oi.op ∧ ∃ q, t' = putT t oj.dst q := by
  have hbx' : ∀ {q : PV} {h2 : Hp}, OpTo P E oj t h q h2 → ∀ id, boxOf t oi.op = some id → BoxAt id h h2 := by
    intro q h2 ho id hid
    rw [hid] at hbx
    simp only [boxKept, Bool.or_eq_true] at hbx
    rcases hbx with hb | hb
    · exact box_step hb ho id
    · exact keep_step hb ho
  obtain ⟨ha1, ha2, ha3⟩ := Oper.apart_spec hap
  have hcom : ∃ p, t1 = putT t oi.dst p ∧ h1 = h ∧ ∀ q h2, (∀ id, boxOf t oi.op = some id → BoxAt id h h2) → (ownB t oi.op = true → Stays h h2) → StepTo P E ops oi (putT t oj.dst q) h2 (putT (putT t oj.dst q) oi.dst p) h2 := by
    rcases step_cases hi with ⟨hw, p, ho, e⟩ | ⟨hw, e1, e2⟩
    · obtain ⟨e2, hh⟩ := easy_step he ho
      exact ⟨p, e, e2, fun q h2 hb hs => step_true ((look_want ha3).trans hw) fun R K => (opK_alike (look_ev ha3)).trans (hh h2 hb hs R K)⟩
    · exact ⟨_, e1, e2, fun q h2 _ _ => step_false ((look_want ha3).trans hw)⟩
  obtain ⟨p, rfl, rfl, hcom⟩ := hcom
  rcases step_cases hj with ⟨hw, q, ho, rfl⟩ | ⟨hw, rfl, rfl⟩
  · have ho' : OpTo P E oj t h1 q h2 := fun R K => (opK_alike (look_ev (p := p) ha1)).symm.trans (ho R K)
    refine ⟨putT t oj.dst q, step_true ((look_want ha1).symm.trans hw) ho', ?_, (easy_congr (look_ev ha3)).trans he, own_congr (look_ev ha3), box_congr (look_ev ha3), _, rfl⟩
    rw [putT_comm ha2]
    exact hcom q h2 (hbx' ho') fun hl => stay_step (hst hl) ho'
  · refine ⟨putT t oj.dst (.tup []), step_false ((look_want ha1).symm.trans hw), ?_, (easy_congr (look_ev ha3)).trans he, own_congr (look_ev ha3), box_congr (look_ev ha3), _, rfl⟩
    rw [putT_comm ha2]
    exact hcom _ h2 (fun _ _ _ _ h => h) fun _ => Stays.refl _
theorem anyA_first {Post : List PV → Hp → Prop} {i : Nat} {oi : Oper} (hi : ops[i]? = some oi) {b : Nat → Prop} (hb : ∀ j, b j → j ≠ i → ∃ oj, ops[j]? = some oj ∧ ∃ e ∈ oj.after, Region.binds .any e = true ∧ b e.on) : ∀ (n : Nat) (listed : Array Bool) (t : List PV) (h : Hp) (t1 : List PV) (h1 : Hp),
    (∀ j oj, ops[j]? = some oj → j ≠ i → listed.getD j true = false → (∀ e ∈ oj.after, Region.binds .any e = true → e.on ≠ i) → oi.apart ops oj = true ∧ (¬ b j → boxKept E ops listed t oj.op (boxOf t oi.op) = true ∧ (ownB t oi.op = true → stayB oj.op = true))) → (∀ j, b j → listed.getD j true = false) →
    i ∈ Region.ready .any ops listed → easyB t oi.op = true → StepTo P E ops oi t h t1 h1 → AnyA P E ops Post n (listed.setIfInBounds i true) t1 h1 → AnyA P E ops Post (n + 1) listed t h := by
  intro n
  induction n with
  | zero =>
    intro listed t h t1 h1 _ _ hr _ hs H
    refine ⟨fun h => (by rw [h] at hr; cases hr), fun j hj => ?_⟩
    by_cases hji : j = i
    · subst hji; exact ⟨oi, hi, t1, h1, hs, H⟩
    · have := ready_mono hj hji
      rw [H.1] at this
      cases this
  | succ n ih =>
    intro listed t h t1 h1 hfree hbl hr he hs H
    refine ⟨fun h => (by rw [h] at hr; cases hr), fun j hj => ?_⟩
    by_cases hji : j = i
    · subst hji; exact ⟨oi, hi, t1, h1, hs, H⟩
    · obtain ⟨oj, hoj', t2, h2, hs2, H2⟩ := H.2 j (ready_mono hj hji)
      obtain ⟨hjun, oj', hoj, hall⟩ := mem_ready.1 hj
      have heq : oj' = oj := Option.some.inj (hoj.symm.trans hoj')
      subst heq
      have hun : ∀ k, listed.getD k true = false → ∀ e ∈ oj'.after, Region.binds .any e = true → e.on ≠ k := fun k h0 e he hb heq => by
        have h1 := hall e he hb
        rw [heq] at h1
        rcases Nat.lt_or_ge k listed.size with h' | h'
        · simp [h'] at h0 h1; rw [h0] at h1; cases h1
        · simp [Array.getElem?_eq_none h'] at h1
      have hnot := hun i (mem_ready.1 hr).1
      have hnb : ¬ b j := fun hbj => by
        obtain ⟨oj2, g1, e, g2, g3, g4⟩ := hb j hbj hji
        have g5 : oj2 = oj' := Option.some.inj (g1.symm.trans hoj)
        subst g5
        exact hun e.on (hbl _ g4) e g2 g3 rfl
      obtain ⟨hap, hh⟩ := hfree j oj' hoj hji hjun hnot
      obtain ⟨hbx, hst⟩ := hh hnb
      obtain ⟨t', g1, g2, g3, g4, g5, q, g6⟩ := commute hap he hbx hst hs hs2
      refine ⟨oj', hoj, t', h2, g1, ih (listed.setIfInBounds j true) t' h2 t2 h2 (fun k ok hk hki hun hno => ?_) (fun k hk => ?_) (ready_mono hr (Ne.symm hji)) g3 g2 ?_⟩
      · rw [g4, g5, g6]
        have hun' : listed.getD k true = false := by
          by_cases hjk : j = k
          · subst hjk; exact hjun
          · rw [getD_set_ne true hjk] at hun; exact hun
        obtain ⟨m1, m2⟩ := hfree k ok hk hki hun' hno
        exact ⟨m1, fun hb => ⟨boxKept_mono hoj hjun (m2 hb).1, (m2 hb).2⟩⟩
      · rw [getD_set_ne true (show j ≠ k from fun e => hnb (e ▸ hk))]
        exact hbl k hk
      · rw [Array.setIfInBounds_comm _ _ hji]
        exact H2
theorem step_of {R : Type} {o : Oper} {t : List PV} {h : Hp} {K : List PV → Hp → Option R} {r : R} (hk : exOps P E ops [o] t h K = some r) : ∃ t' h', StepTo P E ops o t h t' h' ∧ K t' h' = some r := by
  obtain ⟨⟨t', h'⟩, h1, h2⟩ := exOps_D P E ops [o] t h R (fun x => K x.1 x.2) r hk
  exact ⟨t', h', fun R' K' => h2 R' fun x => K' x.1 x.2, h1⟩
theorem tree_any {R : Type} {K : List PV → Hp → Option R} {r : R} : ∀ (n : Nat) (listed : Array Bool) (t : List PV) (h : Hp), exTree P E ops n listed t h K = some r → AnyA P E ops (fun t h => K t h = some r) n listed t h
  | 0, listed, t, h, hk => by
    simp only [exTree] at hk
    split at hk
    · rename_i hr; exact ⟨hr, hk⟩
    · cases hk
  | n + 1, listed, t, h, hk => by
    simp only [exTree] at hk
    split at hk
    · rename_i hr
      exact ⟨fun _ => hk, fun i hi => (by rw [hr] at hi; cases hi)⟩
    · rename_i is hne
      split at hk
      · rename_i i hi
        split at hk
        · rename_i o ho
          obtain ⟨t1, h1, hs, hk1⟩ := step_of hk
          have hc := List.find?_some hi
          have hmem := List.mem_of_find?_eq_some hi
          simp only [easyAt, ho, Bool.and_eq_true] at hc
          obtain ⟨⟨hc1, hc2⟩, hc3⟩ := hc
          by_cases hld : ((boxOf t o.op).isSome || ownB t o.op) = true
          · rw [hld] at hc3
            simp only [Bool.not_true, Bool.false_or, Bool.and_eq_true] at hc3
            obtain ⟨hc3, hc4⟩ := hc3
            simp only [behindOk, List.all_eq_true, Bool.and_eq_true, Bool.not_eq_true', Bool.or_eq_true, beq_iff_eq] at hc3
            refine anyA_first (b := fun j => j ∈ behind ops listed 6 [i]) ho (fun j hj hne => ?_) n listed t h t1 h1 (fun j oj hj hne hun hno => ⟨Region.free_spec ho hc2 j oj hj hne hun hno, fun hnb => ?_⟩) (fun j hj => (hc3 j hj).1) hmem hc1 hs (tree_any n _ t1 h1 hk1)
            · rcases (hc3 j hj).2 with h1 | h1
              · exact absurd h1 hne
              · split at h1
                · rename_i oj hoj
                  obtain ⟨e, he, hb⟩ := Array.any_eq_true'.1 h1
                  simp only [Bool.and_eq_true] at hb
                  exact ⟨oj, hoj, e, he, hb.1, by simpa using hb.2⟩
                · cases h1
            · simp only [List.all_eq_true, List.mem_range] at hc4
              have h1 := hc4 j (Array.getElem?_eq_some_iff.1 hj).1
              have hnb' : (behind ops listed 6 [i]).contains j = false := by simpa using hnb
              simp only [hj, Bool.or_eq_true, beq_iff_eq, hne, false_or, hun, Bool.false_eq_true, hnb', Bool.and_eq_true, Bool.not_eq_true'] at h1
              refine ⟨h1.1, fun hl => ?_⟩
              · rcases h1.2 with h2 | h2
                · rw [hl] at h2; cases h2
                · exact h2
          · simp only [Bool.or_eq_true, not_or, Bool.not_eq_true] at hld
            refine anyA_first (b := fun _ => False) ho (fun j hj => hj.elim) n listed t h t1 h1 (fun j oj hj hne hun hno => ⟨Region.free_spec ho hc2 j oj hj hne hun hno, fun _ => ⟨?_, fun hl => ?_⟩⟩) (fun j hj => hj.elim) hmem hc1 hs (tree_any n _ t1 h1 hk1)
            · cases hbo : boxOf t o.op with
              | none => rfl
              | some id => rw [hbo] at hld; simp at hld
            · rw [hld.2] at hl; cases hl
        · cases hk
      · obtain ⟨_, hall⟩ := same_some hk
        refine ⟨fun h0 => absurd h0 hne, fun i hi => ?_⟩
        have h1 := hall _ (List.mem_map_of_mem hi)
        split at h1
        · rename_i o ho
          obtain ⟨t1, h1, hs, hk1⟩ := step_of h1
          exact ⟨o, ho, t1, h1, hs, tree_any n _ t1 h1 hk1⟩
        · cases h1
end
end FN

namespace FN
open Go Go.RowKit
section
variable [Gl] {P : Program} {E : Env'} {pin : Pn} {base : Nat} {rv : Option Value}
theorem F2.map1 {α β γ : Type} {R : α → β → Prop} {R' : γ → β → Prop} {f : α → γ} {as : List α} {bs : List β} (h : F2 R as bs) (hf : ∀ a b, R a b → R' (f a) b) : F2 R' (as.map f) bs := F2.map (h.imp hf)
/-- Only what is live, counted anew. -/
theorem StR.canon {w : World} {ρ : Rh} {s : St} {a : Act} (hS : StR pin base rv w ρ s a) {keep live : List Nat} (hkeep : rv.isSome = true → keep = [0]) (hkb : keepB keep s.h = true) :
    ∃ ρ', StR pin base rv w ρ' (canon keep live s) a := by
  let t1 := s.t.mapIdx fun i p => if live.contains i then p else .junk
  let m := reach s.h 2 (addIds s.h [] (keep ++ t1.flatMap idsOf))
  let f : Blk → Blk := fun b => match b with | .box ty cs => .box ty (cs.map (ren m)) | b => b
  let h2 : Hp := m.map fun i => (s.h.get i).map f
  have hcan : FN.canon keep live s = ⟨t1.map (ren m), h2⟩ := rfl
  have hN : h2.length = m.length := by simp [h2]
  have hget : ∀ (j : Nat) b, h2.get j = some b → ∃ i b0, m[j]? = some i ∧ s.h.get i = some b0 ∧ b = f b0 := by
    intro j b hb
    unfold Hp.get at hb
    simp only [h2, List.getElem?_map] at hb
    cases hm : m[j]? with
    | none => rw [hm] at hb; simp at hb
    | some i =>
      rw [hm] at hb
      simp only [Option.map_some, Option.getD_some] at hb
      obtain ⟨b0, h1, h3⟩ := Option.map_eq_some_iff.1 hb
      exact ⟨i, b0, rfl, h1, h3.symm⟩
  have hlive : ∀ j, h2.get j ≠ none → ∃ i, m[j]? = some i ∧ s.h.get i ≠ none := by
    intro j hj
    cases hb : h2.get j with
    | none => exact absurd hb hj
    | some b =>
      obtain ⟨i, b0, h1, h3, _⟩ := hget j b hb
      exact ⟨i, h1, by rw [h3]; simp⟩
  have hnd : m.Nodup := reach_inv s.h (fun a is ha => addIds_nodup s.h is a ha) 2 _ (addIds_nodup s.h _ _ List.nodup_nil)
  have hρ : ∀ j i, m[j]? = some i → (renρ ρ m) j = ρ i := fun j i h => by simp [renρ, h]
  refine ⟨renρ ρ m, ?_⟩
  rw [hcan]
  refine ⟨⟨hS.H.bs, fun j b hb => ?_, fun i j hi hj g hgi hgj => ?_, hS.H.ok0, hS.H.up⟩, fun i => ?_, ?_, hS.df, fun v hv => ?_, hS.iv⟩
  · obtain ⟨i, b0, h1, h3, rfl⟩ := hget j b hb
    rw [hρ j i h1]
    have hB := hS.H.blk i b0 h3
    cases b0 with
    | box t cells =>
      obtain ⟨g, cur, hx, hm, hc, hf⟩ := hB
      exact ⟨g, cur, hx, hm, hc, F2.map1 hf fun _ _ h => ren_V1 hN hlive h⟩
    | arr e ff c xs =>
      obtain ⟨inner, ho, ha⟩ := hB
      refine ⟨inner, ho, fun j y hy => ?_⟩
      obtain ⟨cs, e1, e2⟩ := ha j y hy
      exact ⟨cs, e1.tr (ren_tr hN hlive ff), e2⟩
  · obtain ⟨i', a1, a2⟩ := hlive i hi
    obtain ⟨j', b1, b2⟩ := hlive j hj
    rw [hρ i i' a1] at hgi
    rw [hρ j j' b1] at hgj
    have := hS.H.inj i' j' a2 b2 g hgi hgj
    subst this
    exact (List.getElem?_inj (by exact (List.getElem?_eq_some_iff.1 a1).1) hnd).1 (a1.trans b1.symm)
  · have ht : (t1.map (ren m)).getD i .junk = ren m (t1.getD i .junk) := by
      simp only [List.getD_eq_getElem?_getD, List.getElem?_map]
      cases t1[i]? <;> rfl
    simp only
    rw [ht]
    have ht1 : t1.getD i .junk = if live.contains i then s.t.getD i .junk else .junk := by
      simp only [t1, List.getD_eq_getElem?_getD, List.getElem?_mapIdx]
      cases s.t[i]? <;> simp
    rw [ht1]
    split
    · exact ren_V hN hlive (hS.tm i)
    · trivial
  · simpa [t1] using hS.sz
  · have hk := hkeep (by rw [hv]; rfl)
    subst hk
    obtain ⟨h1, h3⟩ := hS.k0 v hv
    have h0 : ∃ b, s.h.get 0 = some b := by
      simp only [keepB, List.all_cons, List.all_nil, Bool.and_true] at hkb
      exact Option.isSome_iff_exists.1 hkb
    obtain ⟨b, hb⟩ := h0
    have hpre : ∃ l, m = 0 :: l := by
      refine reach_inv (Q := fun a => ∃ l, a = 0 :: l) s.h (fun a is ⟨l, hl⟩ => ?_) 2 _ ?_
      · obtain ⟨l', hl'⟩ := addIds_app s.h is a
        exact ⟨l ++ l', by rw [hl', hl]; rfl⟩
      · obtain ⟨l, hl⟩ := addIds_app s.h (t1.flatMap idsOf) [0]
        refine ⟨l, ?_⟩
        simp only [List.cons_append, List.nil_append, addIds, hb]
        simpa using hl
    obtain ⟨l, hl⟩ := hpre
    refine ⟨(hρ 0 0 (by rw [hl]; rfl)).trans h1, ?_⟩
    show 0 < h2.length
    rw [hN, hl]; simp
/-- After the code. -/
def PostC {R : Type} (pin : Pn) (base : Nat) (rv : Option Value) (K : AX → St → Option R) (r : R) (w0 : World) : Exit → Act → World → Prop
  | .normal, a, w => ∃ s ρ, K .norm s = some r ∧ StR pin base rv w ρ s a ∧ Kp pin base w0 w
  | .ret, a, w => ∃ s ρ, K .ret s = some r ∧ StR pin base rv w ρ s a ∧ Kp pin base w0 w
  | .exit id, a, w => ∃ s ρ, K (.ex id) s = some r ∧ StR pin base rv w ρ s a ∧ Kp pin base w0 w
  | _, _, _ => False
theorem cut_sound {R : Type} {c : Code} {s : St} {K : St → Option R} {r : R} (hk : cutK E c s K = some r) {w : World} {ρ : Rh} {a : Act} (hS : StR pin base rv w ρ s a) (hkeep : rv.isSome = true → E.keep = [0]) :
    ∃ s' ρ', K s' = some r ∧ StR pin base rv w ρ' s' a := by
  unfold cutK at hk
  split at hk
  · exact ⟨s, ρ, hk, hS⟩
  · split at hk
    · exact ⟨s, ρ, hk, hS⟩
    · split at hk
      · rename_i live _ hc
        obtain ⟨ρ', h1⟩ := hS.canon (live := live) hkeep hc
        exact ⟨_, ρ', hk, h1⟩
      · cases hk
theorem cutS_sound {R : Type} {c : Code} {f : St → (AX → St → Option R) → Option R} {s : St} {K : AX → St → Option R} {r : R} (hk : cutS E c f s K = some r) {w : World} {ρ : Rh} {a : Act} (hS : StR pin base rv w ρ s a) (hkeep : rv.isSome = true → E.keep = [0]) :
    ∃ s' ρ', f s' K = some r ∧ StR pin base rv w ρ' s' a := by
  unfold cutS at hk
  split at hk
  · exact ⟨s, ρ, hk, hS⟩
  · split at hk
    · exact ⟨s, ρ, hk, hS⟩
    · split at hk
      · exact ⟨s, ρ, hk, hS⟩
      · split at hk
        · rename_i live _ hc
          obtain ⟨ρ', h1⟩ := hS.canon (live := live) hkeep hc
          exact ⟨_, ρ', hk, h1⟩
        · cases hk
theorem least {p : Nat → Prop} (h : ∃ n, p n) : ∃ n, p n ∧ ∀ m, p m → n ≤ m := by
  obtain ⟨n, hn⟩ := h
  induction n using Nat.strongRecOn with
  | _ n ih =>
    by_cases hh : ∃ m, m < n ∧ p m
    · obtain ⟨m, h1, h2⟩ := hh
      exact ih m h1 h2
    · exact ⟨n, hn, fun m hm => Nat.le_of_not_lt fun hl => hh ⟨m, hl, hm⟩⟩
theorem StR.drew {w : World} {ρ : Rh} {s : St} {a : Act} (hS : StR pin base rv w ρ s a) : ∃ ρ', StR pin base rv { w with drawn := w.drawn + 1 } ρ' s a := by
  obtain ⟨g1, g2⟩ := hS.H.grow (H1 := s.h) (W' := { w with drawn := w.drawn + 1 }) (news := []) (vs := []) rfl (fun _ _ h => h) (Nat.le_refl _) (fun k _ _ => rfl) rfl (fun j v g hv => by simp at hv) (fun i j u v g hu => by simp at hu) (fun _ j b v hb => by simp at hb)
  have := StR.put (d := none) (p := .junk) (u := undef) hS (h' := s.h) (by simpa using g1) (by simpa using g2) trivial (Kp.drew w)
  exact ⟨_, this⟩
theorem StR.drew' {w : World} {ρ : Rh} {s : St} {a : Act} (hS : StR pin base rv w ρ s a) : ∃ ρ', StR pin base rv { w with drawn := w.drawn + 1 } ρ' s a ∧ (vw w base ρ s.h).Le (vw { w with drawn := w.drawn + 1 } base ρ' s.h) := by
  obtain ⟨g1, g2⟩ := hS.H.grow (H1 := s.h) (W' := { w with drawn := w.drawn + 1 }) (news := []) (vs := []) rfl (fun _ _ h => h) (Nat.le_refl _) (fun k _ _ => rfl) rfl (fun j v g hv => by simp at hv) (fun i j u v g hu => by simp at hu) (fun _ j b v hb => by simp at hb)
  have := StR.put (d := none) (p := .junk) (u := undef) hS (h' := s.h) (by simpa using g1) (by simpa using g2) trivial (Kp.drew w)
  exact ⟨_, this, by simpa using g2⟩
/-- One region. -/
theorem region_sound (hE : EnvOk P E) (hm : P.follows .mixedOrders = true) {R : Type} {id : Nat} {ops : Array Oper} {d : Bool} {K : List PV → Hp → Option R} {r : R} {w0 w : World} {ρ : Rh} {s : St} {a : Act} {Q : Exit → Act → World → Prop}
    (hQ : ∀ a' w', PostR pin base rv K r w0 (vw w base ρ s.h) a' w' → Q .normal a' w') (hP : ∀ c a w, ¬ Q (.panic c) a w) {l : List Oper} (hl : regOrd E ops d = some l) (hk : exOps P E ops l s.t s.h K = some r) (hS : StR pin base rv w ρ s a) (hp : Kp pin base w0 w) : (Code.region id ops d).wp P Q a w := by
  unfold regOrd at hl
  cases d with
  | false =>
    simp at hl
    subst hl
    exact wp_region_list (exOps_list hE hQ hk hS hp (Vw.Le.refl _))
  | true =>
    simp only [if_true] at hl
    split at hl
    · rename_i hq
      injection hl with hl
      subst hl
      obtain ⟨ρ', hS', hle⟩ := hS.drew'
      obtain ⟨T, p, b, e1, e2, e3⟩ := qrun (fun o ho => by
        obtain ⟨i, hi⟩ := List.getElem?_of_mem ho
        exact (quietB_spec hq (i := i) (o := o) (by simpa using hi)).1) hk
      refine wp_region_any hm (quiet_any hE hq e2 (rv := rv) (fun a hSa => hQ _ _ ⟨_, _, ρ', by simpa using e3, hSa, hp.trans (Kp.drew w), hle⟩) ops.size ⟨hS'.H, fun x _ => by rw [e1]; exact hS'.tm x, fun j o x _ _ hl => ?_, by rw [e1]; exact hS'.sz, hS'.df, hS'.k0, by simp, hS'.iv⟩ ?_)
      · exfalso
        rw [Array.getD_eq_getD_getElem?, Array.getElem?_replicate] at hl
        split at hl <;> simp at hl
      · exact Nat.le_trans (List.length_filter_le _ _) (by simp)
    split at hl
    · rename_i hns
      obtain ⟨ρ', hS', hle⟩ := hS.drew'
      exact wp_region_any hm (wpAny_of_G _ _ _ _ (exOps_any hE hQ hP hns _ hl hk hS' (hp.trans (Kp.drew w)) hle))
    · cases hl
theorem anyA_sound (hE : EnvOk P E) {R : Type} {ops : Array Oper} {K : List PV → Hp → Option R} {r : R} {w0 : World} {v0 : Vw} {Q : Exit → Act → World → Prop} (hQ : ∀ a w, PostR pin base rv K r w0 v0 a w → Q .normal a w) :
    ∀ (n : Nat) {listed : Array Bool} {t : List PV} {h : Hp} {w : World} {ρ : Rh} {a : Act}, AnyA P E ops (fun t h => K t h = some r) n listed t h → StR pin base rv w ρ ⟨t, h⟩ a → Kp pin base w0 w → v0.Le (vw w base ρ h) → wpAny P .any ops Q n listed a w
  | 0, listed, t, h, w, ρ, a, hk, hS, hp, hv => ⟨hk.1, hQ a w ⟨t, h, ρ, hk.2, hS, hp, hv⟩⟩
  | n + 1, listed, t, h, w, ρ, a, hk, hS, hp, hv => by
    refine ⟨fun hr => hQ a w ⟨t, h, ρ, hk.1 hr, hS, hp, hv⟩, fun i hi => ?_⟩
    obtain ⟨o, ho, t', h', hs, hA⟩ := hk.2 i hi
    have hk1 : exOps P E ops [o] t h (fun t h => some (t, h)) = some (t', h') := hs (List PV × Hp) fun t h => some (t, h)
    unfold wpOp
    simp only [ho]
    have := exOps_step hE (s := ⟨t, h⟩) hk1 hS (fun a' w' => wpAny P .any ops Q n (listed.setIfInBounds i true) a' w') Q fun t2 h2 w' ρ' a' g1 g2 g3 g4 g5 => by
      simp only [exOps] at g1
      injection g1 with g1
      injection g1 with g1 g6
      subst g1; subst g6
      exact anyA_sound hE hQ n hA g2 (hp.trans g3) (hv.trans g5)
    split
    · rename_i hw; rw [if_pos hw] at this; exact .inl this
    · rename_i hw; rw [if_neg hw] at this; exact this
theorem reg_sound (hE : EnvOk P E) (hm : P.follows .mixedOrders = true) {R : Type} {id : Nat} {ops : Array Oper} {d : Bool} {K : List PV → Hp → Option R} {r : R} {w0 w : World} {ρ : Rh} {s : St} {a : Act} {Q : Exit → Act → World → Prop}
    (hQ : ∀ a' w', PostR pin base rv K r w0 (vw w base ρ s.h) a' w' → Q .normal a' w') (hk : exReg P E ops d s.t s.h K = some r) (hS : StR pin base rv w ρ s a) (hp : Kp pin base w0 w) : (Code.region id ops d).wp P Q a w := by
  unfold exReg at hk
  split at hk
  · rename_i hd
    subst hd
    obtain ⟨ρ', hS', hle⟩ := hS.drew'
    exact wp_region_any hm (anyA_sound hE hQ _ (tree_any _ _ _ _ hk) hS' (hp.trans (Kp.drew w)) hle)
  · cases hk
variable (hE : EnvOk P E) (hkeep : rv.isSome = true → E.keep = [0]) (hm : P.follows .mixedOrders = true)
include hE hkeep hm
theorem exCode_sound {R : Type} : ∀ (c : Code) {s : St} {K : AX → St → Option R} {r : R} {w0 w : World} {ρ : Rh} {a : Act}, exCode P E c s K = some r → StR pin base rv w ρ s a → Kp pin base w0 w → c.wp P (PostC pin base rv K r w0) a w
  | .skip, s, K, r, w0, w, ρ, a, hk, hS, hp => by
    simp only [exCode] at hk
    exact wp_skip ⟨s, ρ, hk, hS, hp⟩
  | .region id ops d, s, K, r, w0, w, ρ, a, hk, hS, hp => by
    simp only [exCode] at hk
    split at hk
    · rename_i l hl
      exact region_sound hE hm (K := fun t h => K .norm ⟨t, h⟩) (fun a w ⟨t, h, ρ, h1, h2, h3, _⟩ => ⟨⟨t, h⟩, ρ, h1, h2, h3⟩) (fun c a w h => h) hl hk hS hp
    · exact reg_sound hE hm (K := fun t h => K .norm ⟨t, h⟩) (fun a w ⟨t, h, ρ, h1, h2, h3, _⟩ => ⟨⟨t, h⟩, ρ, h1, h2, h3⟩) hk hS hp
  | .seq x y, s, K, r, w0, w, ρ, a, hk, hS, hp => by
    simp only [exCode] at hk
    refine wp_seq (wp_mono (exCode_sound x hk hS hp) fun e a' w' hq => ?_)
    cases e with
    | normal =>
      obtain ⟨s', ρ', h1, h2, h3⟩ := hq
      obtain ⟨s'', ρ'', h4, h5⟩ := cutS_sound h1 h2 hkeep
      exact exCode_sound y h4 h5 h3
    | ret => exact hq
    | exit id => exact hq
    | panic c => exact hq.elim
    | goto l => exact hq.elim
    | outgrown => exact hq.elim
  | .cond c x y, s, K, r, w0, w, ρ, a, hk, hS, hp => by
    simp only [exCode] at hk
    split at hk
    · rename_i b hb
      have hc : a.eval c = .bool b := by
        have := hS.hop c
        rw [hb] at this
        exact this
      refine wp_cond hc ?_
      cases b with
      | true => exact exCode_sound x hk hS hp
      | false => exact exCode_sound y hk hS hp
    · cases hk
  | .block id b, s, K, r, w0, w, ρ, a, hk, hS, hp => by
    simp only [exCode] at hk
    refine wp_block (wp_mono (exCode_sound b hk hS hp) fun e a' w' hq => ?_)
    cases e with
    | normal => exact hq
    | ret => exact hq
    | exit i =>
      obtain ⟨s', ρ', h1, h2, h3⟩ := hq
      simp only at h1
      show if i = id then _ else _
      split
      · rename_i e
        rw [if_pos e] at h1
        exact ⟨s', ρ', h1, h2, h3⟩
      · rename_i e
        rw [if_neg e] at h1
        exact ⟨s', ρ', h1, h2, h3⟩
    | panic c => exact hq.elim
    | goto l => exact hq.elim
    | outgrown => exact hq.elim
  | .loop b, s, K, r, w0, w, ρ, a, hk, hS, hp => by
    simp only [exCode] at hk
    obtain ⟨s1, ρ1, hk1, hS1⟩ := cut_sound hk hS hkeep
    have hD : ∀ s, Df fun R (K : AX × St → Option R) => exCode P E b s (uc K) := fun s => exCode_D P E b s
    obtain ⟨n0, hn0⟩ := (loopK_some (body := fun R => exCode P E b) hD).1 hk1
    let I : Act → World → Nat → Prop := fun a w n => ∃ s ρ, loopN E (exCode P E b) b n s K = some r ∧ StR pin base rv w ρ s a ∧ Kp pin base w0 w
    classical
    let μ : Act → World → Nat := fun a w => if h : ∃ n, I a w n then (least h).choose else 0
    have hμ : ∀ a w n, I a w n → I a w (μ a w) ∧ μ a w ≤ n := by
      intro a w n h
      have hex : ∃ n, I a w n := ⟨n, h⟩
      have hs := (least hex).choose_spec
      have he : μ a w = (least hex).choose := dif_pos hex
      rw [he]
      exact ⟨hs.1, hs.2 n h⟩
    refine wp_loop (fun a w => ∃ n, I a w n) μ ⟨n0, s1, ρ1, hn0, hS1, hp⟩ fun a w ⟨n, hn⟩ => ?_
    obtain ⟨⟨s2, ρ2, h1, h2, h3⟩, hle⟩ := hμ a w n hn
    cases hc : μ a w with
    | zero => rw [hc] at h1; simp [loopN] at h1
    | succ k =>
      rw [hc] at h1
      rw [loopN_succ (body := fun R => exCode P E b)] at h1
      refine wp_mono (exCode_sound b h1 h2 h3) fun e a' w' hq => ?_
      cases e with
      | normal =>
        obtain ⟨s', ρ', g1, g2, g3⟩ := hq
        obtain ⟨s'', ρ'', g4, g5⟩ := cut_sound (K := fun s'' => loopN E (exCode P E b) b k s'' K) g1 g2 hkeep
        have hI : I a' w' k := ⟨s'', ρ'', g4, g5, g3⟩
        exact ⟨⟨k, hI⟩, Nat.lt_succ_of_le (hμ a' w' k hI).2⟩
      | ret => exact hq
      | exit id => exact hq
      | panic c => exact hq.elim
      | goto l => exact hq.elim
      | outgrown => exact hq.elim
  | .exit id, s, K, r, w0, w, ρ, a, hk, hS, hp => by
    simp only [exCode] at hk
    exact wp_exit ⟨s, ρ, hk, hS, hp⟩
  | .ret, s, K, r, w0, w, ρ, a, hk, hS, hp => by
    simp only [exCode] at hk
    exact wp_ret ⟨s, ρ, hk, hS, hp⟩
  | .label _, s, K, r, w0, w, ρ, a, hk, hS, hp => by simp [exCode] at hk
  | .goto _, s, K, r, w0, w, ρ, a, hk, hS, hp => by simp [exCode] at hk
  | .rangeFunc .., s, K, r, w0, w, ρ, a, hk, hS, hp => by simp [exCode] at hk
  | .scope .., s, K, r, w0, w, ρ, a, hk, hS, hp => by simp [exCode] at hk
  | .refuse .., s, K, r, w0, w, ρ, a, hk, hS, hp => by simp [exCode] at hk
end
end FN

namespace FN
open Go Go.RowKit
section
variable [Gl] {P : Program} {E : Env'} {pin : Pn} {base : Nat} {rv : Option Value} {w : World} {ρ : Rh} {h : Hp} {v : Vw}
theorem flat_V' : ∀ {ps : List (Option Nat)} {args fl : List PV} {us : List Value}, flat ps args = some fl → F2 (V v) args us → ∃ fls, flatV ps us = some fls ∧ F2 (V v) fl fls
  | [], [], fl, us, h, hf => by
    simp only [flat] at h
    injection h with h
    subst h
    cases hf
    exact ⟨[], rfl, .nil⟩
  | none :: as, p :: ps, fl, us, h, hf => by
    simp only [flat] at h
    obtain ⟨fl', h1, rfl⟩ := Option.map_eq_some_iff.1 h
    cases hf with
    | cons hp hps =>
      obtain ⟨fls, e1, e2⟩ := flat_V' h1 hps
      exact ⟨_ :: fls, by simp [flatV, e1], .cons hp e2⟩
  | some n :: as, p :: ps, fl, us, h, hf => by
    cases p
    case agg cs =>
      simp only [flat] at h
      split at h
      · rename_i hn
        obtain ⟨fl', h1, rfl⟩ := Option.map_eq_some_iff.1 h
        cases hf with
        | cons hp hps =>
          obtain ⟨fls, e1, e2⟩ := flat_V' h1 hps
          obtain ⟨vs, rfl, hv⟩ := hp
          refine ⟨vs.toList ++ fls, ?_, (hv.imp fun _ _ => V_of_V1).app e2⟩
          have : vs.size = n := by have := hv.len; simp at this; omega
          simp [flatV, e1, this]
      · cases h
    all_goals simp [flat] at h
  | [], _ :: _, fl, us, h, hf => by simp [flat] at h
  | none :: _, [], fl, us, h, hf => by simp [flat] at h
  | some _ :: _, [], fl, us, h, hf => by simp [flat] at h
/-- Rows among results: whose they are. -/
def RowOf (ρ : Rh) (h : Hp) (ids : List Nat) (u : Value) : Prop := blkOf u = none ∨ ∃ id, id ∈ ids ∧ h.get id ≠ none ∧ u = ρ id
theorem resC_V (hH : HRel (mine pin base) w base ρ h) {okr okv : Nat → Prop} (hok : ∀ k, okOf ρ h k → okv k) (hok' : ∀ k, okOf ρ h k → base ≤ k → okr k) {r : RS} {x : r.T} {p : PV} {u : Value} (hr : resC h r p = some x) (hv : V (vw w base ρ h) p u) :
    OutC w base okr okv r x u ∧ (∀ e c, r = .row e c → RowOf ρ h (ownsOf p) u) := by
  unfold resC at hr
  split at hr
  · split at hr
    · rename_i e; subst e; injection hr with hr; subst hr; exact ⟨hv, fun e c h => by cases h⟩
    · cases hr
  · injection hr with hr; subst hr; exact ⟨hv, fun e c h => by cases h⟩
  · injection hr with hr; subst hr; exact ⟨hv, fun e c h => by cases h⟩
  · injection hr with hr
    subst hr
    have hv' : u = .slice none 0 0 := hv
    subst hv'
    exact ⟨⟨[], World.ownsRow_nil w base _ _, fun j y hj => by simp at hj⟩, fun e c _ => .inl rfl⟩
  · rename_i e c id
    split at hr
    · rename_i e' f c' xs hg
      split at hr
      · rename_i hc
        obtain ⟨rfl, rfl⟩ := hc
        obtain ⟨rfl, rfl⟩ := castRow_some hr
        obtain ⟨inner, ho, ha⟩ := hH.blk id _ hg
        have hu : u = ρ id := hv.2.1
        subst hu
        refine ⟨⟨inner, ho, fun j y hj => ?_⟩, fun _ _ _ => .inr ⟨id, by simp [ownsOf], by rw [hg]; simp, rfl⟩⟩
        obtain ⟨cs, e1, e2⟩ := ha j y hj
        exact ⟨cs, e1.tr ⟨Nat.le_refl _, fun k hk _ => ⟨rfl, hok' k hk.1 (hk.2 rfl), hk.2⟩⟩, e2⟩
      · cases hr
    · cases hr
  · refine ⟨?_, fun e c h => by cases h⟩
    exact (castRow_V hr (show SlR w _ _ _ u from hv)).tr ⟨Nat.le_refl _, fun k hk _ => ⟨rfl, hok k hk.1⟩⟩
  · injection hr with hr
    subst hr
    have hv' : u = .slice none 0 0 := hv
    exact ⟨⟨none, 0, hv', Nat.le_refl _, Nat.zero_le _, fun hx => absurd rfl hx⟩, fun e c h => by cases h⟩
  · injection hr with hr
    subst hr
    obtain ⟨A, hv'⟩ := (show ∃ A, u = .slice A 0 0 from hv)
    exact ⟨⟨A, 0, hv', Nat.le_refl _, Nat.zero_le _, fun hx => absurd rfl hx⟩, fun e c h => by cases h⟩
  · split at hr
    · rename_i hf
      subst hf
      refine ⟨?_, fun e c h => by cases h⟩
      exact (castRow_V hr (show SlR w _ _ _ u from hv)).tr ⟨Nat.le_refl _, fun k hk _ => ⟨rfl, hok k hk.1, hk.2 rfl⟩⟩
    · cases hr
  · injection hr with hr
    subst hr
    have hv' : u = .slice none 0 0 := hv
    exact ⟨⟨none, 0, hv', Nat.le_refl _, Nat.zero_le _, fun hx => absurd rfl hx⟩, fun e c h => by cases h⟩
  · injection hr with hr
    subst hr
    obtain ⟨A, hv'⟩ := (show ∃ A, u = .slice A 0 0 from hv)
    exact ⟨⟨A, 0, hv', Nat.le_refl _, Nat.zero_le _, fun hx => absurd rfl hx⟩, fun e c h => by cases h⟩
  · exact ⟨hv, fun e c h => by cases h⟩
  · cases hr
theorem apartB_spec : ∀ {l : List Nat}, apartB l = true → l.Nodup
  | [], _ => List.nodup_nil
  | i :: is, h => by
    simp only [apartB, Bool.and_eq_true] at h
    exact List.nodup_cons.2 ⟨by simpa using h.1, apartB_spec h.2⟩
theorem rowsV_cons {r : RS} {rs : List RS} {u : Value} {us : List Value} : (rowsV (r :: rs) (u :: us) = rowsV rs us ∧ ∀ e c, r ≠ .row e c) ∨ (rowsV (r :: rs) (u :: us) = u :: rowsV rs us ∧ ∃ e c, r = .row e c) := by
  cases r
  case row e c => exact .inr ⟨rfl, e, c, rfl⟩
  all_goals exact .inl ⟨rfl, fun e c h => by cases h⟩
theorem resCs_V (hH : HRel (mine pin base) w base ρ h) {okr okv : Nat → Prop} (hok : ∀ k, okOf ρ h k → okv k) (hok' : ∀ k, okOf ρ h k → base ≤ k → okr k) : ∀ {rs : List RS} {x : Ts rs} {ps : List PV} {us : List Value}, resCs h rs ps = some x → F2 (V (vw w base ρ h)) ps us →
    OutsR w base okr okv rs x us
  | [], x, [], us, hr, hf => by cases hf; exact rfl
  | [a], x, [p], us, hr, hf => by
    cases hf with
    | cons hp hps => cases hps; exact ⟨_, rfl, (resC_V hH hok hok' hr hp).1⟩
  | a :: b :: as, x, p :: q :: ps, us, hr, hf => by
    simp only [resCs] at hr
    obtain ⟨x1, h1, hr⟩ := Option.bind_eq_some_iff.1 hr
    obtain ⟨x2, h2, hr⟩ := Option.bind_eq_some_iff.1 hr
    injection hr with hr
    subst hr
    cases hf with
    | cons hp hps => exact ⟨_, _, rfl, (resC_V hH hok hok' h1 hp).1, resCs_V hH hok hok' h2 hps⟩
  | [], x, _ :: _, us, hr, hf => by simp [resCs] at hr
  | [a], x, [], us, hr, hf => by simp [resCs] at hr
  | [a], x, _ :: _ :: _, us, hr, hf => by simp [resCs] at hr
  | _ :: _ :: _, x, [], us, hr, hf => by simp [resCs] at hr
  | _ :: _ :: _, x, [_], us, hr, hf => by simp [resCs] at hr
theorem resCs_rows (hH : HRel (mine pin base) w base ρ h) : ∀ {rs : List RS} {x : Ts rs} {ps : List PV} {us : List Value}, resCs h rs ps = some x → F2 (V (vw w base ρ h)) ps us →
    (∀ u ∈ rowsV rs us, RowOf ρ h (ps.flatMap ownsOf) u) ∧ ((ps.flatMap ownsOf).Nodup → ∀ (i j : Nat) u u' g, (rowsV rs us)[i]? = some u → (rowsV rs us)[j]? = some u' → blkOf u = some g → blkOf u' = some g → i = j) := by
  have step : ∀ (r : RS) (rs : List RS) (x : r.T) (p : PV) (ps : List PV) (u : Value) (us : List Value), resC h r p = some x → V (vw w base ρ h) p u →
      ((∀ u ∈ rowsV rs us, RowOf ρ h (ps.flatMap ownsOf) u) ∧ ((ps.flatMap ownsOf).Nodup → ∀ (i j : Nat) u u' g, (rowsV rs us)[i]? = some u → (rowsV rs us)[j]? = some u' → blkOf u = some g → blkOf u' = some g → i = j)) →
      (∀ u' ∈ rowsV (r :: rs) (u :: us), RowOf ρ h ((p :: ps).flatMap ownsOf) u') ∧ (((p :: ps).flatMap ownsOf).Nodup → ∀ (i j : Nat) u1 u' g, (rowsV (r :: rs) (u :: us))[i]? = some u1 → (rowsV (r :: rs) (u :: us))[j]? = some u' → blkOf u1 = some g → blkOf u' = some g → i = j) := by
    intro r rs x p ps u us hr hv ⟨A, B⟩
    have up : ∀ u', RowOf ρ h (ps.flatMap ownsOf) u' → RowOf ρ h ((p :: ps).flatMap ownsOf) u' := by
      rintro u' (h1 | ⟨id, h1, h2⟩)
      · exact .inl h1
      · exact .inr ⟨id, by simp only [List.flatMap_cons, List.mem_append]; exact .inr h1, h2⟩
    have hR := (resC_V hH (okr := fun _ => True) (okv := fun _ => True) (fun _ _ => trivial) (fun _ _ _ => trivial) hr hv).2
    rcases rowsV_cons (r := r) (rs := rs) (u := u) (us := us) with ⟨e1, _⟩ | ⟨e1, e, c, hrow⟩
    · rw [e1]
      refine ⟨fun u' hu' => up u' (A u' hu'), fun hn => B ?_⟩
      simp only [List.flatMap_cons] at hn
      exact (List.nodup_append.1 hn).2.1
    · rw [e1]
      have hu := hR e c hrow
      refine ⟨fun u' hu' => ?_, fun hn i j u1 u' g hi hj hg hg' => ?_⟩
      · rcases List.mem_cons.1 hu' with rfl | hu'
        · rcases hu with h1 | ⟨id, h1, h2⟩
          · exact .inl h1
          · exact .inr ⟨id, by simp only [List.flatMap_cons, List.mem_append]; exact .inl h1, h2⟩
        · exact up u' (A u' hu')
      · simp only [List.flatMap_cons] at hn
        have hn' := List.nodup_append.1 hn
        have cross : ∀ (j : Nat) u', (rowsV rs us)[j]? = some u' → blkOf u = some g → blkOf u' = some g → False := by
          intro j2 u2 hj2 h1 h2
          rcases hu with h3 | ⟨id, a1, a2, rfl⟩
          · rw [h3] at h1; cases h1
          · rcases A u2 (List.mem_of_getElem? hj2) with h3 | ⟨id', b1, b2, rfl⟩
            · rw [h3] at h2; cases h2
            · have := hH.inj id id' a2 b2 g h1 h2
              subst this
              exact hn'.2.2 id a1 id b1 rfl
        cases i with
        | zero =>
          simp at hi
          subst hi
          cases j with
          | zero => rfl
          | succ j => simp at hj; exact (cross j u' hj hg hg').elim
        | succ i =>
          simp at hi
          cases j with
          | zero => simp at hj; subst hj; exact (cross i u1 hi hg' hg).elim
          | succ j => simp at hj; rw [B hn'.2.1 i j u1 u' g hi hj hg hg']
  intro rs
  induction rs with
  | nil =>
    intro x ps us hr hf
    have : ∀ us, rowsV [] us = [] := fun us => by cases us <;> rfl
    rw [this]
    exact ⟨fun u hu => by simp at hu, fun _ i j u u' g hi => by simp at hi⟩
  | cons a as ih =>
    intro x ps us hr hf
    cases as with
    | nil =>
      cases ps with
      | nil => simp [resCs] at hr
      | cons p ps =>
        cases ps with
        | cons => simp [resCs] at hr
        | nil =>
          cases hf with
          | cons hp hps =>
            cases hps
            exact step a [] x p [] _ [] hr hp ⟨fun u hu => by simp [rowsV] at hu, fun _ i j u u' g hi => by simp [rowsV] at hi⟩
    | cons b as =>
      cases ps with
      | nil => simp [resCs] at hr
      | cons p ps =>
        cases ps with
        | nil => simp [resCs] at hr
        | cons q ps =>
          simp only [resCs] at hr
          obtain ⟨x1, h1, hr⟩ := Option.bind_eq_some_iff.1 hr
          obtain ⟨x2, h2, hr⟩ := Option.bind_eq_some_iff.1 hr
          cases hf with
          | cons hp hps => exact step a (b :: as) x1 p (q :: ps) _ _ h1 hp (ih h2 hps)
end
end FN

namespace FN
open Go Go.RowKit
section
variable [Gl] {P : Program} {E : Env'} {pin : Pn} {base : Nat} {rv : Option Value} {w : World} {ρ : Rh} {h : Hp} {v : Vw}
def resV (a : Act) : ResultVar → Sem Value
  | .tmp t => pure (a.tmps.getD t undef)
  | .cell c t => do loadVar t (← asAddr (a.tmps.getD c undef))
theorem mapM_cons_run {f : ResultVar → Sem Value} {x : ResultVar} {l : List ResultVar} {z : Value} {zs : List Value} (h1 : (f x).run P w = .ok z w) (h2 : (l.mapM f).run P w = .ok zs w) : ((x :: l).mapM f).run P w = .ok (z :: zs) w := by
  simp only [List.mapM_cons, Sem.run_bind, h1, Result.andThen_ok, h2, Sem.run_pure]
theorem resPs_V {s : St} {a : Act} (hS : StR pin base rv w ρ s a) : ∀ {l : List ResultVar} {ps : List PV}, resPs P s l = some ps →
    ∃ vs, F2 (V (vw w base ρ s.h)) ps vs ∧ (l.mapM (resV a)).run P w = .ok vs w
  | [], ps, hr => by
    simp only [resPs] at hr
    injection hr with hr
    subst hr
    exact ⟨[], .nil, by simp⟩
  | .tmp t :: l, ps, hr => by
    simp only [resPs] at hr
    obtain ⟨ps', h1, rfl⟩ := Option.map_eq_some_iff.1 hr
    obtain ⟨vs, e1, e2⟩ := resPs_V hS h1
    exact ⟨_ :: vs, .cons (hS.tm t) e1, mapM_cons_run (by simp only [resV, Sem.run_pure]) e2⟩
  | .cell c t :: l, ps, hr => by
    simp only [resPs] at hr
    obtain ⟨p, h1, _, z, h3, h4⟩ := loadK_sound (K := fun p => (resPs P s l).map (p :: ·)) hS.H hr (hS.tm c)
    obtain ⟨ps', h5, rfl⟩ := Option.map_eq_some_iff.1 h1
    obtain ⟨vs, e1, e2⟩ := resPs_V hS h5
    refine ⟨z :: vs, .cons (V_of_V2 h3) e1, mapM_cons_run ?_ e2⟩
    simp only [resV]
    replace h4 := h4 w (Grows.refl w)
    generalize a.tmps.getD c undef = u at h4 ⊢
    cases u
    case pointer A =>
      cases A with
      | some ad => simpa [Instr.loadAt, Instr.sureAddr, asAddr] using h4
      | none => simp [Instr.loadAt, Instr.sureAddr, stuck] at h4
    all_goals simp [Instr.loadAt, Instr.sureAddr, stuck] at h4
theorem results_V {s : St} {a : Act} {fn : Func} {ps : List PV} (hS : StR pin base rv w ρ s a) (hr : resPs P s fn.results.toList = some ps) :
    ∃ vs, F2 (V (vw w base ρ s.h)) ps vs ∧ (results fn a.tmps).run P w = .ok (tupV vs) w := by
  obtain ⟨vs, e1, e2⟩ := resPs_V hS hr
  refine ⟨vs, e1, ?_⟩
  have e3 : (fn.results.mapM (resV a)).run P w = .ok vs.toArray w := by
    rw [Array.mapM_eq_mapM_toList, map_eq_pure_bind]
    simp only [Sem.run_bind, e2, Result.andThen_ok, Sem.run_pure]
  have e4 : results fn a.tmps = (do
      let vs ← fn.results.mapM (resV a)
      pure (if h : vs.size = 1 then vs[0] else .tuple vs)) := by
    unfold results
    congr 2
  rw [e4]
  simp only [Sem.run_bind, e3, Result.andThen_ok, Sem.run_pure]
  congr 1
  match vs with
  | [] => rfl
  | [v] => rfl
  | _ :: _ :: _ => simp [tupV]
end
end FN

namespace FN
open Go Go.RowKit
theorem inP_V {v v' : Vw} (hW : v'.W = v.W) (hok : ∀ k, v.ok k → v'.ok k) {r : RS} {x : r.T} {u : Value} (hv : V1 v (inP r x) u) : V1 v' (inP r x) u := by
  cases r
  case row e c => exact SlR.tr ⟨by rw [hW]; exact Nat.le_refl _, fun k hk _ => ⟨by rw [hW], hok k hk.1, fun e => by cases e⟩⟩ (show SlR v.W (v.okf false) c x u from hv)
  case nil => exact hv
  case fview c => exact SlR.tr ⟨by rw [hW]; exact Nat.le_refl _, fun k hk _ => ⟨by rw [hW], hok k hk.1, fun e => by cases e⟩⟩ (show SlR v.W (v.okf false) c x u from hv)
  case view c => exact SlR.tr ⟨by rw [hW]; exact Nat.le_refl _, fun k hk _ => ⟨by rw [hW], hok k hk.1, fun e => by cases e⟩⟩ (show SlR v.W (v.okf false) c x u from hv)
  all_goals exact hv
theorem inPs_V {v v' : Vw} (hW : v'.W = v.W) (hok : ∀ k, v.ok k → v'.ok k) : ∀ {rs : List RS} {x : Ts rs} {us : List Value}, F2 (V1 v) (inPs rs x) us → F2 (V1 v') (inPs rs x) us
  | [], x, us, h => by cases h; exact .nil
  | [a], x, us, h => by
    cases h with
    | cons h1 h2 => cases h2; exact .cons (inP_V hW hok h1) .nil
  | a :: b :: as, x, us, h => by
    cases h with
    | cons h1 h2 => exact .cons (inP_V hW hok h1) (inPs_V hW hok h2)
section
variable [Gl] {P : Program} {pin : Pn} {base : Nat} {rv : Option Value} {w w' : World} {ρ : Rh}
/-- The first temporaries. -/
theorem tm_init {v : Vw} {ts : List PV} {args : Array Value} {n : Nat} (h : F2 (V v) ts args.toList) (i : Nat) :
    V v ((ts ++ List.replicate (n - ts.length) PV.junk).getD i .junk) ((args ++ Array.replicate (n - args.size) undef).getD i undef) := by
  have hl : ts.length = args.size := by simpa using h.len
  by_cases hi : i < ts.length
  · obtain ⟨u, hu, hv⟩ := h.get (List.getElem?_eq_getElem hi)
    have e1 : (ts ++ List.replicate (n - ts.length) PV.junk).getD i .junk = ts[i] := by
      rw [List.getD_eq_getElem?_getD, List.getElem?_append_left hi, List.getElem?_eq_getElem hi]; rfl
    have e2 : (args ++ Array.replicate (n - args.size) undef).getD i undef = u := by
      rw [Array.getD_eq_getD_getElem?, Array.getElem?_append_left (by omega)]
      have : args[i]? = some u := by simpa using hu
      rw [this]; rfl
    rw [e1, e2]; exact hv
  · have e1 : (ts ++ List.replicate (n - ts.length) PV.junk).getD i .junk = .junk := by
      rw [List.getD_eq_getElem?_getD, List.getElem?_append_right (by omega), List.getElem?_replicate]
      split <;> rfl
    rw [e1]; trivial
/-- What the end of the code tells. -/
theorem F2.V1_of {v : Vw} : ∀ {ps : List PV} {us : List Value}, ps.all oneP = true → F2 (V v) ps us → F2 (V1 v) ps us
  | _, _, _, .nil => .nil
  | _, _, h, .cons h1 h2 => by
    simp only [List.all_cons, Bool.and_eq_true] at h
    exact .cons (V1_of_V h1 h.1) (F2.V1_of h.2 h2)
theorem ret_sound {E : Env'} {fn : Func} {sig : Sig} {e : AX} {s : St} {r : Ts sig.rc} {a : Act} {okc : Nat → Prop} {bx : Option (Nat × List Int)}
    (hr : retK P E fn sig e s = some r) (hS : StR ⟨fun k => ∃ b, bx = some (k, b), fun k => okc k ∨ w.heap.size ≤ k⟩ w.heap.size rv w' ρ s a)
    (hbx0 : sig.rd = none → ∀ g b, bx ≠ some (g, b)) (hrd : sig.rd.isSome = true → ∃ g, bx = some (g, E.rdb) ∧ rv = some (.pointer (some ⟨g, 0, none⟩))) :
    ∃ v, (results fn a.tmps).run P w' = .ok v w' ∧ RetR sig w w' okc bx r v := by
  have hup : ∀ k, okOf ρ s.h k → okc k ∨ w.heap.size ≤ k := fun k hk => hS.H.up k hk.1
  have hr' : ((resPs P s fn.results.toList).bind fun ps => match sig.rd, sig.nw with
    | none, none => (flat sig.rs ps).bind fun cs => if sig.nn = true then (match cs with | [.nilS] => resCs s.h sig.rc [.nilS] | cs => if apartB (cs.flatMap ownsOf) = true then (resCs s.h sig.rc cs).bind fun r => condA (nnB sig r) none (some r) else none) else if sig.fz = true then (if cs.all oneP = true ∧ apartB ((frzR s.h sig.rc cs).1.flatMap ownsOf) = true then resCs (frzR s.h sig.rc cs).2 sig.rc (frzR s.h sig.rc cs).1 else none) else if apartB (cs.flatMap ownsOf) then resCs s.h sig.rc cs else none
    | none, some t => match ps with
      | [.ptr id 0] => match s.h.get id with
        | some (.box t' [p, q]) => if t' = t ∧ apartB ([p, q].flatMap ownsOf) = true then resCs s.h sig.rc [p, q] else none
        | _ => none
      | _ => none
    | some t, none => match s.h.get 0 with
      | some (.box t' [p, q]) => match inC (.view .u8) p with
        | some b => if t' = t ∧ b = E.rdb then (flat sig.rs ps).bind fun cs => if apartB ((cs ++ [q]).flatMap ownsOf) then resCs s.h sig.rc (cs ++ [q]) else none else none
        | none => none
      | _ => none
    | _, _ => none) = some r := by
    cases e with
    | norm => exact hr
    | ret => exact hr
    | ex i => simp [retK] at hr
  obtain ⟨ps, hps, hr'⟩ := Option.bind_eq_some_iff.1 hr'
  obtain ⟨vs, hvs, hrun⟩ := results_V hS hps
  refine ⟨tupV vs, hrun, ?_⟩
  cases hd : sig.rd with
  | none =>
    cases hn : sig.nw with
    | none =>
      simp only [hd, hn] at hr'
      obtain ⟨cs, hcs, hr'⟩ := Option.bind_eq_some_iff.1 hr'
      by_cases hnn : sig.nn = true
      · rw [if_pos hnn] at hr'
        obtain ⟨us, e1, e2⟩ := flat_V' hcs hvs
        have main : apartB (cs.flatMap ownsOf) = true → resCs s.h sig.rc cs = some r → (nnB sig r = true → tupV vs = .slice none 0 0) → RetR sig w w' okc bx r (tupV vs) := by
          intro hap hres hnil
          obtain ⟨hrow, hinj⟩ := resCs_rows hS.H hres e2
          have hrows : ∀ k, okOf ρ s.h k → ∀ u ∈ rowsV sig.rc us, blkOf u ≠ some k := by
            intro k hk u hu hb
            rcases hrow u hu with h1 | ⟨id, _, h2, rfl⟩
            · rw [h1] at hb; cases hb
            · exact hk.2 id h2 hb
          refine ⟨us, fun _ => False, resCs_V hS.H (fun k hk => ⟨hup k hk, hrows k hk, fun h => h⟩) (fun k hk _ => hrows k hk) hres e2, hinj (apartB_spec hap), ?_⟩
          simp only [hd, hn]
          exact ⟨fun _ h => h, hnil, vs, e1, rfl⟩
        split at hr'
        · refine main rfl hr' fun hb => ?_
          have hus : us = [.slice none 0 0] := by
            cases e2 with
            | cons g1 g2 => cases g2; rw [show _ = Value.slice none 0 0 from g1]
          have hrs : sig.rs = [none] := by
            unfold nnB at hb
            simp only [Bool.and_eq_true] at hb
            have := hb.1.2
            split at this
            · assumption
            · cases this
          rw [hrs, hus] at e1
          cases vs with
          | nil => simp [flatV] at e1
          | cons v0 vs' =>
            cases vs' with
            | cons _ _ => simp [flatV] at e1
            | nil =>
              simp [flatV] at e1
              exact e1
        · split at hr'
          · rename_i hap
            obtain ⟨r', h1, h2⟩ := Option.bind_eq_some_iff.1 hr'
            cases hnb : nnB sig r' with
            | true => rw [hnb, condA_true] at h2; cases h2
            | false =>
              rw [hnb, condA_false] at h2
              injection h2 with h2
              subst h2
              exact main hap h1 fun hb => by rw [hnb] at hb; cases hb
          · cases hr'
      have hnb : nnB sig r = true → tupV vs = .slice none 0 0 := fun hb => by
        unfold nnB at hb
        simp only [Bool.and_eq_true] at hb
        exact absurd hb.1.1 hnn
      rw [if_neg hnn] at hr'
      split at hr'
      · split at hr'
        · rename_i hone
          obtain ⟨hone, hap⟩ := hone
          obtain ⟨us, e1, e2⟩ := flat_V' hcs hvs
          obtain ⟨ρ1, H1, L1, F1, _, _⟩ := frzR_sound hS.H (qs := (frzR s.h sig.rc cs).1) (H' := (frzR s.h sig.rc cs).2) rfl (F2.V1_of hone e2)
          have e3 : F2 (V (vw w' w.heap.size ρ1 (frzR s.h sig.rc cs).2)) (frzR s.h sig.rc cs).1 us := F1.imp fun _ _ => V_of_V1
          obtain ⟨hrow, hinj⟩ := resCs_rows H1 hr' e3
          have hrows : ∀ k, okOf ρ1 (frzR s.h sig.rc cs).2 k → ∀ u ∈ rowsV sig.rc us, blkOf u ≠ some k := by
            intro k hk u hu hb
            rcases hrow u hu with h1 | ⟨id, _, h2, rfl⟩
            · rw [h1] at hb; cases hb
            · exact hk.2 id h2 hb
          refine ⟨us, fun _ => False, resCs_V H1 (fun k hk => ⟨H1.up k hk.1, hrows k hk, fun h => h⟩) (fun k hk _ => hrows k hk) hr' e3, hinj (apartB_spec hap), ?_⟩
          simp only [hd, hn]
          exact ⟨fun _ h => h, hnb, vs, e1, rfl⟩
        · cases hr'
      split at hr'
      · rename_i hap
        obtain ⟨us, e1, e2⟩ := flat_V' hcs hvs
        obtain ⟨hrow, hinj⟩ := resCs_rows hS.H hr' e2
        have hrows : ∀ k, okOf ρ s.h k → ∀ u ∈ rowsV sig.rc us, blkOf u ≠ some k := by
          intro k hk u hu hb
          rcases hrow u hu with h1 | ⟨id, _, h2, rfl⟩
          · rw [h1] at hb; cases hb
          · exact hk.2 id h2 hb
        refine ⟨us, fun _ => False, resCs_V hS.H (fun k hk => ⟨hup k hk, hrows k hk, fun h => h⟩) (fun k hk _ => hrows k hk) hr' e2, hinj (apartB_spec hap), ?_⟩
        simp only [hd, hn]
        exact ⟨fun _ h => h, hnb, vs, e1, rfl⟩
      · cases hr'
    | some t =>
      simp only [hd, hn] at hr'
      split at hr'
      · rename_i id
        split at hr'
        · rename_i t' p q hg
          split at hr'
          · rename_i ht
            obtain ⟨rfl, hap⟩ := ht
            cases hvs with
            | cons hv0 hv1 =>
              cases hv1
              obtain ⟨g, cur, hρ, hmine, hcell, hcs⟩ := hS.H.blk id _ hg
              rename_i u0
              have hu0 : u0 = .pointer (some ⟨g, 0, none⟩) := by
                obtain ⟨_, g', a1, a2⟩ := hv0
                have a1' : ρ id = .pointer (some ⟨g', 0, none⟩) := a1
                rw [hρ] at a1'
                injection a1' with a1'
                injection a1' with a1'
                injection a1' with a1'
                rw [a2, a1']
              have two : ∀ l : List Value, F2 (V1 (vw w' w.heap.size ρ s.h)) [p, q] l → ∃ u u', l = [u, u'] := by
                intro l hl
                cases hl with
                | cons h1 h2 => cases h2 with
                  | cons h3 h4 => cases h4; exact ⟨_, _, rfl⟩
              obtain ⟨u1, u2, ecur⟩ := two _ hcs
              have hcur : cur = #[u1, u2] := by rw [← Array.toArray_toList (xs := cur), ecur]
              subst hcur
              have e3 : F2 (V (vw w' w.heap.size ρ s.h)) [p, q] [u1, u2] := hcs.imp fun _ _ => V_of_V1
              obtain ⟨hrow, hinj⟩ := resCs_rows hS.H hr' e3
              have hrows : ∀ k, okOf ρ s.h k → ∀ u ∈ rowsV sig.rc [u1, u2], blkOf u ≠ some k := by
                intro k hk u hu hb
                rcases hrow u hu with h1 | ⟨id', _, h2, rfl⟩
                · rw [h1] at hb; cases hb
                · exact hk.2 id' h2 hb
              have hng : ∀ k, okOf ρ s.h k → ¬ (k = g) := by
                rintro k hk rfl
                exact hk.2 id (by rw [hg]; simp) (by rw [hρ]; rfl)
              refine ⟨[u1, u2], fun k => k = g, resCs_V hS.H (fun k hk => ⟨hup k hk, hrows k hk, hng k hk⟩) (fun k hk _ => hrows k hk) hr' e3, hinj (apartB_spec hap), ?_⟩
              simp only [hd, hn]
              refine ⟨g, u1, u2, rfl, ?_, ?_, hcell, fun k => Iff.rfl⟩
              · rw [hu0]; rfl
              · rcases hmine with hm | ⟨b, hm⟩
                · exact hm
                · exact absurd hm (hbx0 hd g b)
          · cases hr'
        · cases hr'
      · cases hr'
  | some t =>
    obtain ⟨g, hbx, hrv⟩ := hrd (by rw [hd]; rfl)
    obtain ⟨hρ0, h0l⟩ := hS.k0 _ hrv
    cases hn : sig.nw with
    | some t' => simp only [hd, hn] at hr'; cases hr'
    | none =>
      simp only [hd, hn] at hr'
      split at hr'
      · rename_i t' p q hg
        split at hr'
        · rename_i b hb
          split at hr'
          · rename_i hc
            obtain ⟨rfl, rfl⟩ := hc
            obtain ⟨cs, hcs, hr'⟩ := Option.bind_eq_some_iff.1 hr'
            split at hr'
            · rename_i hap
              obtain ⟨us0, e1, e2⟩ := flat_V' hcs hvs
              obtain ⟨g', cur, hρ, hmine, hcell, hbox⟩ := hS.H.blk 0 _ hg
              have hgg : g' = g := by
                rw [hρ0] at hρ
                injection hρ with hρ
                injection hρ with hρ
                injection hρ with hρ
                exact hρ.symm
              subst hgg
              have two : ∀ l : List Value, F2 (V1 (vw w' w.heap.size ρ s.h)) [p, q] l → ∃ u u', l = [u, u'] ∧ V1 (vw w' w.heap.size ρ s.h) p u ∧ V1 (vw w' w.heap.size ρ s.h) q u' := by
                intro l hl
                cases hl with
                | cons h1 h2 => cases h2 with
                  | cons h3 h4 => cases h4; exact ⟨_, _, rfl, h1, h3⟩
              obtain ⟨u', q', ecur, hp', hq'⟩ := two _ hbox
              have hcur : cur = #[u', q'] := by rw [← Array.toArray_toList (xs := cur), ecur]
              subst hcur
              have e3 : F2 (V (vw w' w.heap.size ρ s.h)) (cs ++ [q]) (us0 ++ [q']) := e2.app (.cons (V_of_V1 hq') .nil)
              obtain ⟨hrow, hinj⟩ := resCs_rows hS.H hr' e3
              have hrows : ∀ k, okOf ρ s.h k → ∀ u ∈ rowsV sig.rc (us0 ++ [q']), blkOf u ≠ some k := by
                intro k hk u hu hb
                rcases hrow u hu with h1 | ⟨id, _, h2, rfl⟩
                · rw [h1] at hb; cases hb
                · exact hk.2 id h2 hb
              have hng : ∀ k, okOf ρ s.h k → ¬ (k = g') := by
                rintro k hk rfl
                exact hk.2 0 (by rw [hg]; simp) (by rw [hρ]; rfl)
              refine ⟨us0 ++ [q'], fun k => k = g', resCs_V hS.H (fun k hk => ⟨hup k hk, hrows k hk, hng k hk⟩) (fun k hk _ => hrows k hk) hr' e3, hinj ?_, ?_⟩
              · exact apartB_spec hap
              · simp only [hd, hn]
                refine ⟨g', E.rdb, u', q', us0, vs, hbx, rfl, e1, rfl, hcell, ?_, fun k => Iff.rfl⟩
                have hV := inC_V hb (V2_of_V1 hp')
                exact SlR.tr ⟨Nat.le_refl _, fun k hk _ => ⟨rfl, hup k hk.1, hrows k hk.1, hng k hk.1⟩⟩ (show SlR w' ((vw w' w.heap.size ρ s.h).okf false) .u8 E.rdb u' from hV)
            · cases hr'
          · cases hr'
        · cases hr'
      · cases hr'
theorem f2_unflat {v : Vw} {ps : List (Option Nat)} {vs us : List Value} {qs : List PV} (h : flatV ps vs = some us) (hf : F2 (V1 v) qs us) : F2 (V v) (unflat ps qs) vs :=
  (unflat_V h hf).imp fun _ _ => V_of_V2
/-- A function's run is its contract. -/
theorem ctr_of {f : FuncId} {fn : Func} {sig : Sig} (hf : P.funcs[f]? = some fn) (hb : fn.body.isSome = true) (E : Ts sig.pc → Env') (hE : ∀ x, EnvOk P (E x))
    (hk : sig.rd.isSome = true → ∀ x, (E x).keep = [0] ∧ ∀ b ps, inPs sig.pc x = .row false .u8 b :: ps → (E x).rdb = b) (hm : P.follows .mixedOrders = true) (hrt : ∀ t, sig.rd = some t → Gl.rd t) :
    CtrOk P f ⟨sig, fun x => runFn P (E x) fn sig x⟩ := by
  intro w okc args bx x r hI hA hr
  obtain ⟨c, hc⟩ := Option.isSome_iff_exists.1 hb
  have hr' : exCode P (E x) c (initS fn sig x) (retK P (E x) fn sig) = some r := by simpa [runFn, hc] using hr
  refine calls_of_wp hf hc ?_
  let pin : Pn := ⟨fun k => ∃ b, bx = some (k, b), fun k => okc k ∨ w.heap.size ≤ k⟩
  have init : ∃ ρ rv, StR pin w.heap.size rv w ρ (initS fn sig x) { tmps := args ++ Array.replicate (fn.ntmps - args.size) undef, defers := [] } ∧ (rv.isSome = true → (E x).keep = [0]) ∧
      (sig.rd = none → ∀ g b, bx ≠ some (g, b)) ∧ (sig.rd.isSome = true → ∃ g, bx = some (g, (E x).rdb) ∧ rv = some (.pointer (some ⟨g, 0, none⟩))) := by
    unfold ArgR at hA
    cases hd : sig.rd with
    | none =>
      simp only [hd] at hA
      obtain ⟨hbx, fl, h1, h2⟩ := hA
      let ρ : Rh := ⟨fun _ => undef, fun k => okc k ∨ w.heap.size ≤ k⟩
      have h3 : F2 (V1 (vw w w.heap.size ρ [])) (inPs sig.pc x) fl := inPs_V (v := av w okc) (v' := vw w w.heap.size ρ []) rfl (fun k hk => ⟨.inl hk, fun i hi => absurd rfl hi⟩) h2
      have h4 := f2_unflat h1 h3
      have hin : initS fn sig x = ⟨unflat sig.ps (inPs sig.pc x) ++ List.replicate (fn.ntmps - (unflat sig.ps (inPs sig.pc x)).length) .junk, []⟩ := by simp [initS, hd]
      rw [hin]
      refine ⟨ρ, none, ⟨⟨Nat.le_refl _, fun i b hb => by simp [Hp.get] at hb, fun i j hi => absurd rfl hi, fun k hk => .inr hk, fun k hk => hk⟩, fun i => tm_init h4 i, ?_, rfl, fun v hv => (by cases hv), fun w' hk => Gl.keep none hI hk.size (fun k hk1 _ => hk.block k hk1 (by rintro ⟨b, hb⟩; rw [hbx] at hb; cases hb)) (fun k hk => by cases hk)⟩, fun h => (by simp at h), fun _ g b h => (by rw [hbx] at h; cases h), fun h => (by simp at h)⟩
      have := h4.len
      simp at this ⊢
      omega
    | some t =>
      simp only [hd] at hA
      obtain ⟨g, b, u, p, rest, fl, ps, hbx, hargs, hcell, hng, hfl, hin0, h2⟩ := hA
      obtain ⟨hkeep, hrdb⟩ := hk (by rw [hd]; rfl) x
      have hb' := hrdb b ps hin0
      rw [hin0] at h2
      cases h2 with
      | cons h3 h4 =>
        cases h4 with
        | @cons q _ qs _ h5 h6 =>
          let ρ : Rh := ⟨fun _ => .pointer (some ⟨g, 0, none⟩), fun k => okc k ∨ w.heap.size ≤ k⟩
          let h0 : Hp := [some (.box t [.row false .u8 b, q])]
          have hgl : g < w.heap.size := (Array.getElem?_eq_some_iff.1 hcell).1
          have hok : ∀ k, (av w okc).ok k → (vw w w.heap.size ρ h0).ok k := fun k hk' => ⟨.inl hk', fun i hi hb => by
            have : g = k := by simpa [ρ, blkOf] using hb
            subst this
            exact hng hk'⟩
          have hall : F2 (V1 (vw w w.heap.size ρ h0)) (inPs sig.pc x) (u :: p :: fl) := inPs_V (v := av w okc) (v' := vw w w.heap.size ρ h0) rfl hok (by rw [hin0]; exact .cons h3 (.cons h5 h6))
          rw [hin0] at hall
          cases hall with
          | cons g3 g4 =>
            cases g4 with
            | cons g5 g6 =>
              have g7 := f2_unflat hfl g6
              have hin : initS fn sig x = ⟨.ptr 0 0 :: unflat sig.ps qs ++ List.replicate (fn.ntmps - ((unflat sig.ps qs).length + 1)) .junk, h0⟩ := by simp [initS, hd, hin0, h0]
              rw [hin]
              have hts : F2 (V (vw w w.heap.size ρ h0)) (.ptr 0 0 :: unflat sig.ps qs) args.toList := by
                rw [hargs]
                exact .cons ⟨by simp [vw, h0], g, rfl, rfl⟩ g7
              refine ⟨ρ, some (.pointer (some ⟨g, 0, none⟩)), ⟨⟨Nat.le_refl _, fun i bb hbb => ?_, fun i j hi hj g' hgi hgj => ?_, fun k hk => .inr hk, fun k hk => hk⟩, fun i => tm_init hts i, ?_, rfl, fun v hv => ?_, fun w' hk => Gl.keep (some g) hI hk.size (fun k hk1 hk2 => hk.block k hk1 (by rintro ⟨b', hb'⟩; rw [hbx] at hb'; injection hb' with hb'; injection hb' with hb' _; exact hk2 (by rw [hb']))) (fun k hk => by injection hk with hk; subst hk; exact ⟨u, p, t, hrt t hd, hcell⟩)⟩, fun _ => hkeep, fun h => (by cases h), fun _ => ⟨g, by rw [hb']; exact hbx, rfl⟩⟩
              · cases i with
                | succ i => simp [Hp.get, h0] at hbb
                | zero =>
                  simp [Hp.get, h0] at hbb
                  subst hbb
                  exact ⟨g, #[u, p], rfl, .inr ⟨b, hbx⟩, hcell, .cons g3 (.cons g5 .nil)⟩
              · have hi' := Hp.get_lt hi
                have hj' := Hp.get_lt hj
                simp [h0] at hi' hj'
                omega
              · have := hts.len
                simp at this ⊢
                omega
              · injection hv with hv
                exact ⟨hv, by simp [h0]⟩
  obtain ⟨ρ, rv, hS, hkeep, hbx0, hrd⟩ := init
  refine wp_mono (exCode_sound (hE x) hkeep hm c hr' hS (Kp.refl _ _ _)) fun e a w' hq => ?_
  have fin : ∀ (e : AX) (s : St) (ρ : Rh), retK P (E x) fn sig e s = some r → StR pin w.heap.size rv w' ρ s a → Kp pin w.heap.size w w' →
      a.defers = [] ∧ ∃ v, (results fn a.tmps).run P w' = .ok v w' ∧ ∃ v', Ending.returned v = .returned v' ∧ RetR sig w w' okc bx r v' ∧ Kp ⟨fun k => ∃ b, bx = some (k, b), fun _ => True⟩ w.heap.size w w' := by
    intro e s ρ h1 h2 h3
    obtain ⟨v, h4, h5⟩ := ret_sound h1 h2 hbx0 hrd
    exact ⟨h2.df, v, h4, v, rfl, h5, ⟨h3.os, h3.tape, h3.output, h3.size, h3.block⟩⟩
  cases e with
  | normal => obtain ⟨s, ρ', h1, h2, h3⟩ := hq; exact fin _ s ρ' h1 h2 h3
  | ret => obtain ⟨s, ρ', h1, h2, h3⟩ := hq; exact fin _ s ρ' h1 h2 h3
  | exit i => obtain ⟨s, ρ', h1, h2, h3⟩ := hq; simp [retK] at h1
  | panic c => exact hq.elim
  | goto l => exact hq.elim
  | outgrown => exact hq.elim
end
end FN

namespace FN
open Go Go.RowKit
section
variable [Gl] {P : Program} {E : Env'}
theorem wr_none {P : Program} {E : Env'} (h : E.wr = fun _ _ _ _ _ => none := by rfl) : WrOk P E := by
  intro f ps h' h'' p pin base w ρ us hk
  rw [h] at hk
  cases hk
end
end FN

