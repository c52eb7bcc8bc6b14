/- Texts of the proof, joined: The interpreter, and that it is sound. -/
import Derived.Test.YtlpjnnepjlaclaaGreatDoorA1
set_option linter.unusedVariables false
set_option linter.unusedSimpArgs false
set_option linter.unusedSectionVars false
namespace FN
open Go Go.RowKit
theorem inP_V {v v' : Vw} (hW : v'.W = v.W) (hok : ∀ k, v.ok k → v'.ok k) {r : RS} {x : r.T} {u : Value} (hv : V1 v (inP r x) u) : V1 v' (inP r x) u := by
  cases r
  case row e c => exact SlR.tr ⟨by rw [hW]; exact Nat.le_refl _, fun k hk _ => ⟨by rw [hW], hok k hk.1, fun e => by cases e⟩⟩ (show SlR v.W (v.okf false) c x u from hv)
  case nil => exact hv
  case drow s e ei => exact SlR.tr ⟨by rw [hW]; exact Nat.le_refl _, fun k hk _ => ⟨by rw [hW], hok k hk.1, fun e => by cases e⟩⟩ (show SlR v.W (v.okf false) .place x u from hv)
  case fview c => exact SlR.tr ⟨by rw [hW]; exact Nat.le_refl _, fun k hk _ => ⟨by rw [hW], hok k hk.1, fun e => by cases e⟩⟩ (show SlR v.W (v.okf false) c x u from hv)
  case view c => exact SlR.tr ⟨by rw [hW]; exact Nat.le_refl _, fun k hk _ => ⟨by rw [hW], hok k hk.1, fun e => by cases e⟩⟩ (show SlR v.W (v.okf false) c x u from hv)
  all_goals exact hv
theorem inPs_V {v v' : Vw} (hW : v'.W = v.W) (hok : ∀ k, v.ok k → v'.ok k) : ∀ {rs : List RS} {x : Ts rs} {us : List Value}, F2 (V1 v) (inPs rs x) us → F2 (V1 v') (inPs rs x) us
  | [], x, us, h => by cases h; exact .nil
  | [a], x, us, h => by
    cases h with
    | cons h1 h2 => cases h2; exact .cons (inP_V hW hok h1) .nil
  | a :: b :: as, x, us, h => by
    cases h with
    | cons h1 h2 => exact .cons (inP_V hW hok h1) (inPs_V hW hok h2)
section
variable [Gl] {P : Program} {pin : Pn} {base : Nat} {rv : Option Value} {w w' : World} {ρ : Rh}
/-- The first temporaries. -/
theorem tm_init {v : Vw} {ts : List PV} {args : Array Value} {n : Nat} (h : F2 (V v) ts args.toList) (i : Nat) :
    V v ((ts ++ List.replicate (n - ts.length) PV.junk).getD i .junk) ((args ++ Array.replicate (n - args.size) undef).getD i undef) := by
  have hl : ts.length = args.size := by simpa using h.len
  by_cases hi : i < ts.length
  · obtain ⟨u, hu, hv⟩ := h.get (List.getElem?_eq_getElem hi)
    have e1 : (ts ++ List.replicate (n - ts.length) PV.junk).getD i .junk = ts[i] := by
      rw [List.getD_eq_getElem?_getD, List.getElem?_append_left hi, List.getElem?_eq_getElem hi]; rfl
    have e2 : (args ++ Array.replicate (n - args.size) undef).getD i undef = u := by
      rw [Array.getD_eq_getD_getElem?, Array.getElem?_append_left (by omega)]
      have : args[i]? = some u := by simpa using hu
      rw [this]; rfl
    rw [e1, e2]; exact hv
  · have e1 : (ts ++ List.replicate (n - ts.length) PV.junk).getD i .junk = .junk := by
      rw [List.getD_eq_getElem?_getD, List.getElem?_append_right (by omega), List.getElem?_replicate]
      split <;> rfl
    rw [e1]; trivial
/-- What the end of the code tells. -/
theorem F2.V1_of {v : Vw} : ∀ {ps : List PV} {us : List Value}, ps.all oneP = true → F2 (V v) ps us → F2 (V1 v) ps us
  | _, _, _, .nil => .nil
  | _, _, h, .cons h1 h2 => by
    simp only [List.all_cons, Bool.and_eq_true] at h
    exact .cons (V1_of_V h1 h.1) (F2.V1_of h.2 h2)
theorem ret_sound {E : Env'} {fn : Func} {sig : Sig} {e : AX} {s : St} {r : Ts sig.rc} {a : Act} {okc : Nat → Prop} {bx : Option (Nat × List Int)}
    (hr : retK P E fn sig e s = some r) (hS : StR ⟨fun k => ∃ b, bx = some (k, b), fun k => okc k ∨ w.heap.size ≤ k⟩ w.heap.size rv w' ρ s a)
    (hbx0 : sig.rd = none → ∀ g b, bx ≠ some (g, b)) (hrd : sig.rd.isSome = true → ∃ g, bx = some (g, E.rdb) ∧ rv = some (.pointer (some ⟨g, 0, none⟩))) :
    ∃ v, (results fn a.tmps).run P w' = .ok v w' ∧ RetR sig w w' okc bx r v := by
  have hup : ∀ k, okOf ρ s.h k → okc k ∨ w.heap.size ≤ k := fun k hk => hS.H.up k hk.1
  have hr' : ((resPs P s fn.results.toList).bind fun ps => match sig.rd, sig.nw with
    | none, none => (flat sig.rs ps).bind fun cs => if sig.nn = true then (match cs with | [.nilS] => resCs s.h sig.rc [.nilS] | cs => if apartB (cs.flatMap ownsOf) = true then (resCs s.h sig.rc cs).bind fun r => condA (nnB sig r) none (some r) else none) else if sig.fz = true then (if cs.all oneP = true ∧ apartB ((frzR s.h sig.rc cs).1.flatMap ownsOf) = true then resCs (frzR s.h sig.rc cs).2 sig.rc (frzR s.h sig.rc cs).1 else none) else if apartB (cs.flatMap ownsOf) then resCs s.h sig.rc cs else none
    | none, some t => match ps with
      | [.ptr id 0] => match s.h.get id with
        | some (.box t' [p, q]) => if t' = t ∧ apartB ([p, q].flatMap ownsOf) = true then resCs s.h sig.rc [p, q] else none
        | _ => none
      | _ => none
    | some t, none => match s.h.get 0 with
      | some (.box t' [p, q]) => match inC (.view .u8) p with
        | some b => if t' = t ∧ b = E.rdb then (flat sig.rs ps).bind fun cs => if apartB ((cs ++ [q]).flatMap ownsOf) then resCs s.h sig.rc (cs ++ [q]) else none else none
        | none => none
      | _ => none
    | _, _ => none) = some r := by
    cases e with
    | norm => exact hr
    | ret => exact hr
    | ex i => simp [retK] at hr
  obtain ⟨ps, hps, hr'⟩ := Option.bind_eq_some_iff.1 hr'
  obtain ⟨vs, hvs, hrun⟩ := results_V hS hps
  refine ⟨tupV vs, hrun, ?_⟩
  cases hd : sig.rd with
  | none =>
    cases hn : sig.nw with
    | none =>
      simp only [hd, hn] at hr'
      obtain ⟨cs, hcs, hr'⟩ := Option.bind_eq_some_iff.1 hr'
      by_cases hnn : sig.nn = true
      · rw [if_pos hnn] at hr'
        obtain ⟨us, e1, e2⟩ := flat_V' hcs hvs
        have main : apartB (cs.flatMap ownsOf) = true → resCs s.h sig.rc cs = some r → (nnB sig r = true → tupV vs = .slice none 0 0) → RetR sig w w' okc bx r (tupV vs) := by
          intro hap hres hnil
          obtain ⟨hrow, hinj⟩ := resCs_rows hS.H hres e2
          have hrows : ∀ k, okOf ρ s.h k → ∀ u ∈ rowsV sig.rc us, blkOf u ≠ some k := by
            intro k hk u hu hb
            rcases hrow u hu with h1 | ⟨id, _, h2, h3⟩
            · rw [h1] at hb; cases hb
            · exact hk.2 id h2 (by rw [← h3]; exact hb)
          refine ⟨us, fun _ => False, IOf ρ s.h (rowsV sig.rc us), ret_hid hS.H hres e2 (apartB_spec hap) (fun _ _ _ _ h => h), resCs_V hS.H (fun k hk => ⟨hup k hk, ⟨hrows k hk, IOf.not hS.H hk⟩, fun h => h⟩) (fun k hk _ => ⟨hrows k hk, IOf.not hS.H hk⟩) hres e2 IOf.mk, hinj (apartB_spec hap), ?_⟩
          simp only [hd, hn]
          exact ⟨fun _ h => h, hnil, vs, e1, rfl⟩
        split at hr'
        · refine main rfl hr' fun hb => ?_
          have hus : us = [.slice none 0 0] := by
            cases e2 with
            | cons g1 g2 => cases g2; rw [show _ = Value.slice none 0 0 from g1]
          have hrs : sig.rs = [none] := by
            unfold nnB at hb
            simp only [Bool.and_eq_true] at hb
            have := hb.1.2
            split at this
            · assumption
            · cases this
          rw [hrs, hus] at e1
          cases vs with
          | nil => simp [flatV] at e1
          | cons v0 vs' =>
            cases vs' with
            | cons _ _ => simp [flatV] at e1
            | nil =>
              simp [flatV] at e1
              exact e1
        · split at hr'
          · rename_i hap
            obtain ⟨r', h1, h2⟩ := Option.bind_eq_some_iff.1 hr'
            cases hnb : nnB sig r' with
            | true => rw [hnb, condA_true] at h2; cases h2
            | false =>
              rw [hnb, condA_false] at h2
              injection h2 with h2
              subst h2
              exact main hap h1 fun hb => by rw [hnb] at hb; cases hb
          · cases hr'
      have hnb : nnB sig r = true → tupV vs = .slice none 0 0 := fun hb => by
        unfold nnB at hb
        simp only [Bool.and_eq_true] at hb
        exact absurd hb.1.1 hnn
      rw [if_neg hnn] at hr'
      split at hr'
      · split at hr'
        · rename_i hone
          obtain ⟨hone, hap⟩ := hone
          obtain ⟨us, e1, e2⟩ := flat_V' hcs hvs
          obtain ⟨ρ1, H1, L1, F1, _, _⟩ := frzR_sound hS.H (qs := (frzR s.h sig.rc cs).1) (H' := (frzR s.h sig.rc cs).2) rfl (F2.V1_of hone e2)
          have e3 : F2 (V (vw w' w.heap.size ρ1 (frzR s.h sig.rc cs).2)) (frzR s.h sig.rc cs).1 us := F1.imp fun _ _ => V_of_V1
          obtain ⟨hrow, hinj⟩ := resCs_rows H1 hr' e3
          have hrows : ∀ k, okOf ρ1 (frzR s.h sig.rc cs).2 k → ∀ u ∈ rowsV sig.rc us, blkOf u ≠ some k := by
            intro k hk u hu hb
            rcases hrow u hu with h1 | ⟨id, _, h2, h3⟩
            · rw [h1] at hb; cases hb
            · exact hk.2 id h2 (by rw [← h3]; exact hb)
          refine ⟨us, fun _ => False, IOf ρ1 (frzR s.h sig.rc cs).2 (rowsV sig.rc us), ret_hid H1 hr' e3 (apartB_spec hap) (fun _ _ _ _ h => h), resCs_V H1 (fun k hk => ⟨H1.up k hk.1, ⟨hrows k hk, IOf.not H1 hk⟩, fun h => h⟩) (fun k hk _ => ⟨hrows k hk, IOf.not H1 hk⟩) hr' e3 IOf.mk, hinj (apartB_spec hap), ?_⟩
          simp only [hd, hn]
          exact ⟨fun _ h => h, hnb, vs, e1, rfl⟩
        · cases hr'
      split at hr'
      · rename_i hap
        obtain ⟨us, e1, e2⟩ := flat_V' hcs hvs
        obtain ⟨hrow, hinj⟩ := resCs_rows hS.H hr' e2
        have hrows : ∀ k, okOf ρ s.h k → ∀ u ∈ rowsV sig.rc us, blkOf u ≠ some k := by
          intro k hk u hu hb
          rcases hrow u hu with h1 | ⟨id, _, h2, h3⟩
          · rw [h1] at hb; cases hb
          · exact hk.2 id h2 (by rw [← h3]; exact hb)
        refine ⟨us, fun _ => False, IOf ρ s.h (rowsV sig.rc us), ret_hid hS.H hr' e2 (apartB_spec hap) (fun _ _ _ _ h => h), resCs_V hS.H (fun k hk => ⟨hup k hk, ⟨hrows k hk, IOf.not hS.H hk⟩, fun h => h⟩) (fun k hk _ => ⟨hrows k hk, IOf.not hS.H hk⟩) hr' e2 IOf.mk, hinj (apartB_spec hap), ?_⟩
        simp only [hd, hn]
        exact ⟨fun _ h => h, hnb, vs, e1, rfl⟩
      · cases hr'
    | some t =>
      simp only [hd, hn] at hr'
      split at hr'
      · rename_i id
        split at hr'
        · rename_i t' p q hg
          split at hr'
          · rename_i ht
            obtain ⟨rfl, hap⟩ := ht
            cases hvs with
            | cons hv0 hv1 =>
              cases hv1
              obtain ⟨g, cur, hρ, hmine, hcell, hcs⟩ := hS.H.blk id _ hg
              rename_i u0
              have hu0 : u0 = .pointer (some ⟨g, 0, none⟩) := by
                obtain ⟨_, g', a1, a2⟩ := hv0
                have a1' : ρ id = .pointer (some ⟨g', 0, none⟩) := a1
                rw [hρ] at a1'
                injection a1' with a1'
                injection a1' with a1'
                injection a1' with a1'
                rw [a2, a1']
              have two : ∀ l : List Value, F2 (V1 (vw w' w.heap.size ρ s.h)) [p, q] l → ∃ u u', l = [u, u'] := by
                intro l hl
                cases hl with
                | cons h1 h2 => cases h2 with
                  | cons h3 h4 => cases h4; exact ⟨_, _, rfl⟩
              obtain ⟨u1, u2, ecur⟩ := two _ hcs
              have hcur : cur = #[u1, u2] := by rw [← Array.toArray_toList (xs := cur), ecur]
              subst hcur
              have e3 : F2 (V (vw w' w.heap.size ρ s.h)) [p, q] [u1, u2] := hcs.imp fun _ _ => V_of_V1
              obtain ⟨hrow, hinj⟩ := resCs_rows hS.H hr' e3
              have hrows : ∀ k, okOf ρ s.h k → ∀ u ∈ rowsV sig.rc [u1, u2], blkOf u ≠ some k := by
                intro k hk u hu hb
                rcases hrow u hu with h1 | ⟨id', _, h2, h3⟩
                · rw [h1] at hb; cases hb
                · exact hk.2 id' h2 (by rw [← h3]; exact hb)
              have hng : ∀ k, okOf ρ s.h k → ¬ (k = g) := by
                rintro k hk rfl
                exact hk.2 id (by rw [hg]; simp) (by rw [hρ]; rfl)
              refine ⟨[u1, u2], fun k => k = g, IOf ρ s.h (rowsV sig.rc [u1, u2]), ret_hid hS.H hr' e3 (apartB_spec hap) (fun id' k h1 h2 e => (hS.H.ins1 id' k h1 h2).2.2 (hS.H.okm id k (by rw [hg]; simp) (by rw [hρ, e]; rfl) (hS.H.ins1 id' k h1 h2).1)), resCs_V hS.H (fun k hk => ⟨hup k hk, ⟨hrows k hk, IOf.not hS.H hk⟩, hng k hk⟩) (fun k hk _ => ⟨hrows k hk, IOf.not hS.H hk⟩) hr' e3 IOf.mk, hinj (apartB_spec hap), ?_⟩
              simp only [hd, hn]
              refine ⟨g, u1, u2, rfl, ?_, ?_, hcell, fun k => Iff.rfl⟩
              · rw [hu0]; rfl
              · rcases hmine with hm | ⟨b, hm⟩
                · exact hm
                · exact absurd hm (hbx0 hd g b)
          · cases hr'
        · cases hr'
      · cases hr'
  | some t =>
    obtain ⟨g, hbx, hrv⟩ := hrd (by rw [hd]; rfl)
    obtain ⟨hρ0, h0l⟩ := hS.k0 _ hrv
    cases hn : sig.nw with
    | some t' => simp only [hd, hn] at hr'; cases hr'
    | none =>
      simp only [hd, hn] at hr'
      split at hr'
      · rename_i t' p q hg
        split at hr'
        · rename_i b hb
          split at hr'
          · rename_i hc
            obtain ⟨rfl, rfl⟩ := hc
            obtain ⟨cs, hcs, hr'⟩ := Option.bind_eq_some_iff.1 hr'
            split at hr'
            · rename_i hap
              obtain ⟨us0, e1, e2⟩ := flat_V' hcs hvs
              obtain ⟨g', cur, hρ, hmine, hcell, hbox⟩ := hS.H.blk 0 _ hg
              have hgg : g' = g := by
                rw [hρ0] at hρ
                injection hρ with hρ
                injection hρ with hρ
                injection hρ with hρ
                exact hρ.symm
              subst hgg
              have two : ∀ l : List Value, F2 (V1 (vw w' w.heap.size ρ s.h)) [p, q] l → ∃ u u', l = [u, u'] ∧ V1 (vw w' w.heap.size ρ s.h) p u ∧ V1 (vw w' w.heap.size ρ s.h) q u' := by
                intro l hl
                cases hl with
                | cons h1 h2 => cases h2 with
                  | cons h3 h4 => cases h4; exact ⟨_, _, rfl, h1, h3⟩
              obtain ⟨u', q', ecur, hp', hq'⟩ := two _ hbox
              have hcur : cur = #[u', q'] := by rw [← Array.toArray_toList (xs := cur), ecur]
              subst hcur
              have e3 : F2 (V (vw w' w.heap.size ρ s.h)) (cs ++ [q]) (us0 ++ [q']) := e2.app (.cons (V_of_V1 hq') .nil)
              obtain ⟨hrow, hinj⟩ := resCs_rows hS.H hr' e3
              have hrows : ∀ k, okOf ρ s.h k → ∀ u ∈ rowsV sig.rc (us0 ++ [q']), blkOf u ≠ some k := by
                intro k hk u hu hb
                rcases hrow u hu with h1 | ⟨id, _, h2, h3⟩
                · rw [h1] at hb; cases hb
                · exact hk.2 id h2 (by rw [← h3]; exact hb)
              have hng : ∀ k, okOf ρ s.h k → ¬ (k = g') := by
                rintro k hk rfl
                exact hk.2 0 (by rw [hg]; simp) (by rw [hρ]; rfl)
              refine ⟨us0 ++ [q'], fun k => k = g', IOf ρ s.h (rowsV sig.rc (us0 ++ [q'])), ret_hid hS.H hr' e3 (apartB_spec hap) (fun id' k h1 h2 e => (hS.H.ins1 id' k h1 h2).2.2 (hS.H.okm 0 k (by rw [hg]; simp) (by rw [hρ, e]; rfl) (hS.H.ins1 id' k h1 h2).1)), resCs_V hS.H (fun k hk => ⟨hup k hk, ⟨hrows k hk, IOf.not hS.H hk⟩, hng k hk⟩) (fun k hk _ => ⟨hrows k hk, IOf.not hS.H hk⟩) hr' e3 IOf.mk, hinj ?_, ?_⟩
              · exact apartB_spec hap
              · simp only [hd, hn]
                refine ⟨g', E.rdb, u', q', us0, vs, hbx, rfl, e1, rfl, hcell, ?_, fun k => Iff.rfl⟩
                have hV := inC_V hb (V2_of_V1 hp')
                exact SlR.tr ⟨Nat.le_refl _, fun k hk _ => ⟨rfl, hup k hk.1, ⟨hrows k hk.1, IOf.not hS.H hk.1⟩, hng k hk.1⟩⟩ (show SlR w' ((vw w' w.heap.size ρ s.h).okf false) .u8 E.rdb u' from hV)
            · cases hr'
          · cases hr'
        · cases hr'
      · cases hr'
theorem f2_unflat {v : Vw} {ps : List (Option Nat)} {vs us : List Value} {qs : List PV} (h : flatV ps vs = some us) (hf : F2 (V1 v) qs us) : F2 (V v) (unflat ps qs) vs :=
  (unflat_V h hf).imp fun _ _ => V_of_V2
/-- A function's run is its contract. -/
theorem ctr_of {f : FuncId} {fn : Func} {sig : Sig} (hf : P.funcs[f]? = some fn) (hb : fn.body.isSome = true) (E : Ts sig.pc → Env') (hE : ∀ x, EnvOk P (E x))
    (hk : sig.rd.isSome = true → ∀ x, (E x).keep = [0] ∧ ∀ b ps, inPs sig.pc x = .row false .u8 b :: ps → (E x).rdb = b) (hm : P.follows .mixedOrders = true) (hrt : ∀ t, sig.rd = some t → Gl.rd t) :
    CtrOk P f ⟨sig, fun x => runFn P (E x) fn sig x⟩ := by
  intro w okc args bx x r hI hA hr
  obtain ⟨c, hc⟩ := Option.isSome_iff_exists.1 hb
  have hr' : exCode P (E x) c (initS fn sig x) (retK P (E x) fn sig) = some r := by simpa [runFn, hc] using hr
  refine calls_of_wp hf hc ?_
  let pin : Pn := ⟨fun k => ∃ b, bx = some (k, b), fun k => okc k ∨ w.heap.size ≤ k⟩
  have init : ∃ ρ rv, StR pin w.heap.size rv w ρ (initS fn sig x) { tmps := args ++ Array.replicate (fn.ntmps - args.size) undef, defers := [] } ∧ (rv.isSome = true → (E x).keep = [0]) ∧
      (sig.rd = none → ∀ g b, bx ≠ some (g, b)) ∧ (sig.rd.isSome = true → ∃ g, bx = some (g, (E x).rdb) ∧ rv = some (.pointer (some ⟨g, 0, none⟩))) := by
    unfold ArgR at hA
    cases hd : sig.rd with
    | none =>
      simp only [hd] at hA
      obtain ⟨hbx, fl, h1, h2⟩ := hA
      let ρ : Rh := ⟨fun _ => undef, fun k => okc k ∨ w.heap.size ≤ k, fun _ _ => False⟩
      have h3 : F2 (V1 (vw w w.heap.size ρ [])) (inPs sig.pc x) fl := inPs_V (v := av w okc) (v' := vw w w.heap.size ρ []) rfl (fun k hk => ⟨.inl hk, fun i hi => absurd rfl hi⟩) h2
      have h4 := f2_unflat h1 h3
      have hin : initS fn sig x = ⟨unflat sig.ps (inPs sig.pc x) ++ List.replicate (fn.ntmps - (unflat sig.ps (inPs sig.pc x)).length) .junk, []⟩ := by simp [initS, hd]
      rw [hin]
      refine ⟨ρ, none, ⟨⟨Nat.le_refl _, fun i b hb => by simp [Hp.get] at hb, fun i j hi => absurd rfl hi, fun k hk => .inr hk, fun i k hi => absurd rfl hi, fun k hk => hk, fun k hk => .inr hk, fun i k hi => absurd rfl hi, fun i j k hi => absurd rfl hi⟩, fun i => tm_init h4 i, ?_, rfl, fun v hv => (by cases hv), fun w' hk => Gl.keep none hI hk.size (fun k hk1 _ => hk.block k hk1 (by rintro ⟨b, hb⟩; rw [hbx] at hb; cases hb)) (fun k hk => by cases hk)⟩, fun h => (by simp at h), fun _ g b h => (by rw [hbx] at h; cases h), fun h => (by simp at h)⟩
      have := h4.len
      simp at this ⊢
      omega
    | some t =>
      simp only [hd] at hA
      obtain ⟨g, b, u, p, rest, fl, ps, hbx, hargs, hcell, hng, hfl, hin0, h2⟩ := hA
      obtain ⟨hkeep, hrdb⟩ := hk (by rw [hd]; rfl) x
      have hb' := hrdb b ps hin0
      rw [hin0] at h2
      cases h2 with
      | cons h3 h4 =>
        cases h4 with
        | @cons q _ qs _ h5 h6 =>
          let ρ : Rh := ⟨fun _ => .pointer (some ⟨g, 0, none⟩), fun k => okc k ∨ w.heap.size ≤ k, fun _ _ => False⟩
          let h0 : Hp := [some (.box t [.row false .u8 b, q])]
          have hgl : g < w.heap.size := (Array.getElem?_eq_some_iff.1 hcell).1
          have hok : ∀ k, (av w okc).ok k → (vw w w.heap.size ρ h0).ok k := fun k hk' => ⟨.inl hk', fun i hi hb => by
            have : g = k := by simpa [ρ, blkOf] using hb
            subst this
            exact hng hk'⟩
          have hall : F2 (V1 (vw w w.heap.size ρ h0)) (inPs sig.pc x) (u :: p :: fl) := inPs_V (v := av w okc) (v' := vw w w.heap.size ρ h0) rfl hok (by rw [hin0]; exact .cons h3 (.cons h5 h6))
          rw [hin0] at hall
          cases hall with
          | cons g3 g4 =>
            cases g4 with
            | cons g5 g6 =>
              have g7 := f2_unflat hfl g6
              have hin : initS fn sig x = ⟨.ptr 0 0 :: unflat sig.ps qs ++ List.replicate (fn.ntmps - ((unflat sig.ps qs).length + 1)) .junk, h0⟩ := by simp [initS, hd, hin0, h0]
              rw [hin]
              have hts : F2 (V (vw w w.heap.size ρ h0)) (.ptr 0 0 :: unflat sig.ps qs) args.toList := by
                rw [hargs]
                exact .cons ⟨by simp [vw, h0], g, rfl, rfl⟩ g7
              refine ⟨ρ, some (.pointer (some ⟨g, 0, none⟩)), ⟨⟨Nat.le_refl _, fun i bb hbb => ?_, fun i j hi hj g' hgi hgj => ?_, fun k hk => .inr hk, fun i k _ hb hbk => absurd (show g = k by simpa [ρ, blkOf] using hb) (by omega), fun k hk => hk, fun k hk => .inr hk, fun i k _ hk => hk.elim, fun i j k _ _ hk => hk.elim⟩, fun i => tm_init hts i, ?_, rfl, fun v hv => ?_, fun w' hk => Gl.keep (some g) hI hk.size (fun k hk1 hk2 => hk.block k hk1 (by rintro ⟨b', hb'⟩; rw [hbx] at hb'; injection hb' with hb'; injection hb' with hb' _; exact hk2 (by rw [hb']))) (fun k hk => by injection hk with hk; subst hk; exact ⟨u, p, t, hrt t hd, hcell⟩)⟩, fun _ => hkeep, fun h => (by cases h), fun _ => ⟨g, by rw [hb']; exact hbx, rfl⟩⟩
              · cases i with
                | succ i => simp [Hp.get, h0] at hbb
                | zero =>
                  simp [Hp.get, h0] at hbb
                  subst hbb
                  exact ⟨g, #[u, p], rfl, .inr ⟨b, hbx⟩, hcell, .cons g3 (.cons g5 .nil)⟩
              · have hi' := Hp.get_lt hi
                have hj' := Hp.get_lt hj
                simp [h0] at hi' hj'
                omega
              · have := hts.len
                simp at this ⊢
                omega
              · injection hv with hv
                exact ⟨hv, by simp [h0]⟩
  obtain ⟨ρ, rv, hS, hkeep, hbx0, hrd⟩ := init
  refine wp_mono (exCode_sound (hE x) hkeep hm c hr' hS (Kp.refl _ _ _)) fun e a w' hq => ?_
  have fin : ∀ (e : AX) (s : St) (ρ : Rh), retK P (E x) fn sig e s = some r → StR pin w.heap.size rv w' ρ s a → Kp pin w.heap.size w w' →
      a.defers = [] ∧ ∃ v, (results fn a.tmps).run P w' = .ok v w' ∧ ∃ v', Ending.returned v = .returned v' ∧ RetR sig w w' okc bx r v' ∧ Kp ⟨fun k => ∃ b, bx = some (k, b), fun _ => True⟩ w.heap.size w w' := by
    intro e s ρ h1 h2 h3
    obtain ⟨v, h4, h5⟩ := ret_sound h1 h2 hbx0 hrd
    exact ⟨h2.df, v, h4, v, rfl, h5, ⟨h3.os, h3.tape, h3.output, h3.size, h3.block⟩⟩
  cases e with
  | normal => obtain ⟨s, ρ', h1, h2, h3⟩ := hq; exact fin _ s ρ' h1 h2 h3
  | ret => obtain ⟨s, ρ', h1, h2, h3⟩ := hq; exact fin _ s ρ' h1 h2 h3
  | exit i => obtain ⟨s, ρ', h1, h2, h3⟩ := hq; simp [retK] at h1
  | panic c => exact hq.elim
  | goto l => exact hq.elim
  | outgrown => exact hq.elim
end
end FN
namespace FN
open Go Go.RowKit
section
variable [Gl] {P : Program}
theorem exRegs_D (E : Env') : ∀ (c : Code) (t : List PV) (h : Hp), D fun R (K : List PV × Hp → Option R) => exRegs P E c t h fun t h => K (t, h)
  | .region id ops d, t, h => by
    simp only [exRegs]
    split
    · rename_i l _
      exact exOps_D P E ops l t h
    · exact D.none_
  | .seq x y, t, h => by
    simp only [exRegs]
    exact D.bind (exRegs_D E x t h) (G := fun a R K => exRegs P E y a.1 a.2 fun t h => K (t, h)) fun a => exRegs_D E y a.1 a.2
  | .skip, t, h => by simp only [exRegs]; exact D.now _
  | .cond .., t, h => by simp only [exRegs]; exact D.none_
  | .block .., t, h => by simp only [exRegs]; exact D.none_
  | .loop .., t, h => by simp only [exRegs]; exact D.none_
  | .exit .., t, h => by simp only [exRegs]; exact D.none_
  | .ret, t, h => by simp only [exRegs]; exact D.none_
  | .label _, t, h => by simp only [exRegs]; exact D.none_
  | .goto _, t, h => by simp only [exRegs]; exact D.none_
  | .rangeFunc .., t, h => by simp only [exRegs]; exact D.none_
  | .scope .., t, h => by simp only [exRegs]; exact D.none_
  | .refuse .., t, h => by simp only [exRegs]; exact D.none_
theorem inlRun_D (E : Env') (fn : Func) (ps : List PV) (h : Hp) : D fun R (K : Hp → Option R) => inlRun P E fn ps h K := by
  unfold inlRun
  split
  · rename_i c _
    intro R K r hk
    obtain ⟨a, h1, h2⟩ := exRegs_D (P := P) E c (ps ++ List.replicate (fn.ntmps - ps.length) .junk) h R (fun x => K x.2) r hk
    exact ⟨a.2, h1, fun R' K' => h2 R' fun x => K' x.2⟩
  · exact D.none_
/-- One closure that is entered in place. -/
def withClo (E : Env') (P : Program) (f : FuncId) (fn : Func) : Env' :=
  { E with clo := fun R g ps h K => if g = f then inlRun P E fn ps h K else none
           cloD := fun g ps h => D.ite (fun _ => inlRun_D E fn ps h) (fun _ => D.none_) }
variable {E : Env'} {pin : Pn} {base : Nat}
theorem exRegs_sound (hE : EnvOk P E) (hm : P.follows .mixedOrders = true) : ∀ (c : Code) {R : Type} {K : List PV → Hp → Option R} {r : R} {w0 w : World} {v0 : Vw} {ρ : Rh} {t : List PV} {h : Hp} {a : Act}, exRegs P E c t h K = some r → StR pin base none w ρ ⟨t, h⟩ a → Kp pin base w0 w → v0.Le (vw w base ρ h) →
    c.wp P (fun e a' w' => e = .normal ∧ PostR pin base none K r w0 v0 a' w') a w
  | .region id ops d, R, K, r, w0, w, v0, ρ, t, h, a, hk, hS, hp, hv => by
    simp only [exRegs] at hk
    split at hk
    · rename_i l hl
      exact region_sound hE hm (s := ⟨t, h⟩) (fun a' w' ⟨t', h', ρ', g1, g2, g3, g4⟩ => ⟨rfl, t', h', ρ', g1, g2, g3, hv.trans g4⟩) (fun c a w hh => by cases hh.1) hl hk hS hp
    · cases hk
  | .seq x y, R, K, r, w0, w, v0, ρ, t, h, a, hk, hS, hp, hv => by
    simp only [exRegs] at hk
    refine wp_seq (wp_mono (exRegs_sound hE hm x hk hS hp hv) fun e a' w' hq => ?_)
    obtain ⟨rfl, t', h', ρ', g1, g2, g3, g4⟩ := hq
    exact exRegs_sound hE hm y g1 g2 g3 g4
  | .skip, R, K, r, w0, w, v0, ρ, t, h, a, hk, hS, hp, hv => by
    simp only [exRegs] at hk
    exact wp_skip ⟨rfl, t, h, ρ, hk, hS, hp, hv⟩
  | .cond .., _, _, _, _, _, _, _, _, _, _, hk, _, _, _ => by simp [exRegs] at hk
  | .block .., _, _, _, _, _, _, _, _, _, _, hk, _, _, _ => by simp [exRegs] at hk
  | .loop .., _, _, _, _, _, _, _, _, _, _, hk, _, _, _ => by simp [exRegs] at hk
  | .exit .., _, _, _, _, _, _, _, _, _, _, hk, _, _, _ => by simp [exRegs] at hk
  | .ret, _, _, _, _, _, _, _, _, _, _, hk, _, _, _ => by simp [exRegs] at hk
  | .label _, _, _, _, _, _, _, _, _, _, _, hk, _, _, _ => by simp [exRegs] at hk
  | .goto _, _, _, _, _, _, _, _, _, _, _, hk, _, _, _ => by simp [exRegs] at hk
  | .rangeFunc .., _, _, _, _, _, _, _, _, _, _, hk, _, _, _ => by simp [exRegs] at hk
  | .scope .., _, _, _, _, _, _, _, _, _, _, hk, _, _, _ => by simp [exRegs] at hk
  | .refuse .., _, _, _, _, _, _, _, _, _, _, hk, _, _, _ => by simp [exRegs] at hk
theorem withClo_ok {f : FuncId} {fn : Func} (hf : P.funcs[f]? = some fn) (hname : (fn.name == "runtime.NumGoroutine") = false) (hb : fn.body.isSome = true) (hres : fn.results = #[]) (hE : EnvOk P E) (hm : P.follows .mixedOrders = true) : EnvOk P (withClo E P f fn) := by
  refine ⟨hE.1, ?_, hE.2.2⟩
  intro g ps h h' pin base w ρ args hclo hI hH hargs
  have hclo' : (if g = f then inlRun P E fn ps h (some : Hp → Option Hp) else none) = some h' := hclo
  split at hclo'
  · rename_i hg
    subst hg
    obtain ⟨c, hc⟩ := Option.isSome_iff_exists.1 hb
    refine ⟨⟨fn, hf, hname, hb⟩, calls_of_wp hf hc ?_⟩
    have hk : exRegs P E c (ps ++ List.replicate (fn.ntmps - ps.length) .junk) h (fun _ h => some h) = some h' := by simpa [inlRun, hc] using hclo'
    have hv4 : F2 (V (vw w base ρ h)) ps args.toList := hargs.imp fun _ _ => V_of_V1
    have hS : StR pin base none w ρ ⟨ps ++ List.replicate (fn.ntmps - ps.length) .junk, h⟩ { tmps := args ++ Array.replicate (fn.ntmps - args.size) undef, defers := [] } := by
      refine ⟨hH, fun i => tm_init hv4 i, ?_, rfl, fun v hv => (by cases hv), hI⟩
      have := hv4.len
      simp at this ⊢
      omega
    refine wp_mono (exRegs_sound hE hm c hk hS (Kp.refl _ _ _) (Vw.Le.refl _)) fun e a w' hq => ?_
    obtain ⟨rfl, t', h2, ρ', g1, g2, g3, g4⟩ := hq
    injection g1 with g1
    subst g1
    refine ⟨g2.df, .tuple #[], ?_, rfl, ρ', g2.H, g4, g3⟩
    simp [results, hres]
  · cases hclo'
end
end FN
namespace FN
open Go Go.RowKit
section
variable [Gl] {P : Program} {E : Env'} {pin : Pn} {base : Nat} {rv : Option Value}
/-- After code that never counts its blocks anew. -/
def PostC0 {R : Type} (pin : Pn) (base : Nat) (rv : Option Value) (K : AX → St → Option R) (r : R) (w0 : World) (v0 : Vw) : Exit → Act → World → Prop
  | .normal, a, w => ∃ s ρ, K .norm s = some r ∧ StR pin base rv w ρ s a ∧ Kp pin base w0 w ∧ v0.Le (vw w base ρ s.h)
  | .ret, a, w => ∃ s ρ, K .ret s = some r ∧ StR pin base rv w ρ s a ∧ Kp pin base w0 w ∧ v0.Le (vw w base ρ s.h)
  | .exit id, a, w => ∃ s ρ, K (.ex id) s = some r ∧ StR pin base rv w ρ s a ∧ Kp pin base w0 w ∧ v0.Le (vw w base ρ s.h)
  | _, _, _ => False
theorem cutK0 (hc : E.cuts = []) {R : Type} {c : Code} {s : St} {K : St → Option R} : cutK E c s K = K s := by
  unfold cutK
  rw [hc]
  split
  · rfl
  · rfl
theorem cutS0 (hc : E.cuts = []) {R : Type} {c : Code} {f : St → (AX → St → Option R) → Option R} {s : St} {K : AX → St → Option R} : cutS E c f s K = f s K := by
  unfold cutS
  rw [hc]
  split
  · rfl
  · split
    · rfl
    · rfl
variable (hE : EnvOk P E) (hcut : E.cuts = []) (hm : P.follows .mixedOrders = true)
include hE hcut hm
theorem exCode0_sound {R : Type} : ∀ (c : Code) {s : St} {K : AX → St → Option R} {r : R} {w0 w : World} {v0 : Vw} {ρ : Rh} {a : Act}, exCode P E c s K = some r → StR pin base rv w ρ s a → Kp pin base w0 w → v0.Le (vw w base ρ s.h) → c.wp P (PostC0 pin base rv K r w0 v0) a w
  | .skip, s, K, r, w0, w, v0, ρ, a, hk, hS, hp, hv => by
    simp only [exCode] at hk
    exact wp_skip ⟨s, ρ, hk, hS, hp, hv⟩
  | .region id ops d, s, K, r, w0, w, v0, ρ, a, hk, hS, hp, hv => by
    simp only [exCode] at hk
    split at hk
    · rename_i l hl
      exact region_sound hE hm (K := fun t h => K .norm ⟨t, h⟩) (fun a w ⟨t, h, ρ, h1, h2, h3, h4⟩ => ⟨⟨t, h⟩, ρ, h1, h2, h3, hv.trans h4⟩) (fun c a w h => h) hl hk hS hp
    · exact reg_sound hE hm (K := fun t h => K .norm ⟨t, h⟩) (fun a w ⟨t, h, ρ, h1, h2, h3, h4⟩ => ⟨⟨t, h⟩, ρ, h1, h2, h3, hv.trans h4⟩) hk hS hp
  | .seq x y, s, K, r, w0, w, v0, ρ, a, hk, hS, hp, hv => by
    simp only [exCode] at hk
    refine wp_seq (wp_mono (exCode0_sound x hk hS hp hv) fun e a' w' hq => ?_)
    cases e with
    | normal =>
      obtain ⟨s', ρ', h1, h2, h3, h4⟩ := hq
      simp only [cutS0 hcut] at h1
      exact exCode0_sound y h1 h2 h3 h4
    | ret => exact hq
    | exit id => exact hq
    | panic c => exact hq.elim
    | goto l => exact hq.elim
    | outgrown => exact hq.elim
  | .cond c x y, s, K, r, w0, w, v0, ρ, a, hk, hS, hp, hv => by
    simp only [exCode] at hk
    split at hk
    · rename_i b hb
      have hc : a.eval c = .bool b := by
        have := hS.hop c
        rw [hb] at this
        exact this
      refine wp_cond hc ?_
      cases b with
      | true => exact exCode0_sound x hk hS hp hv
      | false => exact exCode0_sound y hk hS hp hv
    · cases hk
  | .block id b, s, K, r, w0, w, v0, ρ, a, hk, hS, hp, hv => by
    simp only [exCode] at hk
    refine wp_block (wp_mono (exCode0_sound b hk hS hp hv) fun e a' w' hq => ?_)
    cases e with
    | normal => exact hq
    | ret => exact hq
    | exit i =>
      obtain ⟨s', ρ', h1, h2, h3⟩ := hq
      simp only at h1
      show if i = id then _ else _
      split
      · rename_i e
        rw [if_pos e] at h1
        exact ⟨s', ρ', h1, h2, h3⟩
      · rename_i e
        rw [if_neg e] at h1
        exact ⟨s', ρ', h1, h2, h3⟩
    | panic c => exact hq.elim
    | goto l => exact hq.elim
    | outgrown => exact hq.elim
  | .loop b, s, K, r, w0, w, v0, ρ, a, hk, hS, hp, hv => by
    simp only [exCode] at hk
    rw [cutK0 hcut] at hk
    have hD : ∀ s, Df fun R (K : AX × St → Option R) => exCode P E b s (uc K) := fun s => exCode_D P E b s
    obtain ⟨n0, hn0⟩ := (loopK_some (body := fun R => exCode P E b) hD).1 hk
    let I : Act → World → Nat → Prop := fun a w n => ∃ s ρ, loopN E (exCode P E b) b n s K = some r ∧ StR pin base rv w ρ s a ∧ Kp pin base w0 w ∧ v0.Le (vw w base ρ s.h)
    classical
    let μ : Act → World → Nat := fun a w => if h : ∃ n, I a w n then (least h).choose else 0
    have hμ : ∀ a w n, I a w n → I a w (μ a w) ∧ μ a w ≤ n := by
      intro a w n h
      have hex : ∃ n, I a w n := ⟨n, h⟩
      have hs := (least hex).choose_spec
      have he : μ a w = (least hex).choose := dif_pos hex
      rw [he]
      exact ⟨hs.1, hs.2 n h⟩
    refine wp_loop (fun a w => ∃ n, I a w n) μ ⟨n0, s, ρ, hn0, hS, hp, hv⟩ fun a w ⟨n, hn⟩ => ?_
    obtain ⟨⟨s2, ρ2, h1, h2, h3, h4⟩, hle⟩ := hμ a w n hn
    cases hc : μ a w with
    | zero => rw [hc] at h1; simp [loopN] at h1
    | succ k =>
      rw [hc] at h1
      rw [loopN_succ (body := fun R => exCode P E b)] at h1
      refine wp_mono (exCode0_sound b h1 h2 h3 h4) fun e a' w' hq => ?_
      cases e with
      | normal =>
        obtain ⟨s', ρ', g1, g2, g3, g4⟩ := hq
        have g1' : cutK E b s' (fun s'' => loopN E (exCode P E b) b k s'' K) = some r := g1
        rw [cutK0 hcut] at g1'
        have hI : I a' w' k := ⟨s', ρ', g1', g2, g3, g4⟩
        exact ⟨⟨k, hI⟩, Nat.lt_succ_of_le (hμ a' w' k hI).2⟩
      | ret => exact hq
      | exit id => exact hq
      | panic c => exact hq.elim
      | goto l => exact hq.elim
      | outgrown => exact hq.elim
  | .exit id, s, K, r, w0, w, v0, ρ, a, hk, hS, hp, hv => by
    simp only [exCode] at hk
    exact wp_exit ⟨s, ρ, hk, hS, hp, hv⟩
  | .ret, s, K, r, w0, w, v0, ρ, a, hk, hS, hp, hv => by
    simp only [exCode] at hk
    exact wp_ret ⟨s, ρ, hk, hS, hp, hv⟩
  | .label _, s, K, r, w0, w, v0, ρ, a, hk, hS, hp, hv => by simp [exCode] at hk
  | .goto _, s, K, r, w0, w, v0, ρ, a, hk, hS, hp, hv => by simp [exCode] at hk
  | .rangeFunc .., s, K, r, w0, w, v0, ρ, a, hk, hS, hp, hv => by simp [exCode] at hk
  | .scope .., s, K, r, w0, w, v0, ρ, a, hk, hS, hp, hv => by simp [exCode] at hk
  | .refuse .., s, K, r, w0, w, v0, ρ, a, hk, hS, hp, hv => by simp [exCode] at hk
/-- The end of a function that is entered with the caller's memory. -/
def endW (P : Program) (fn : Func) (e : AX) (s : St) : Option (PV × Hp) := match e with
  | .ex _ => none
  | _ => (resPs P s fn.results.toList).bind fun l => match l with
    | [q] => some (q, s.h)
    | _ => none
theorem wr_of {f : FuncId} {fn : Func} {c : Code} (hf : P.funcs[f]? = some fn) (hname : (fn.name == "runtime.NumGoroutine") = false) (hb : fn.body = some c) {ps : List PV} {h h' : Hp} {p : PV} {w : World} {ρ : Rh} {us : List Value}
    (hk : exCode P E c ⟨ps ++ List.replicate (fn.ntmps - ps.length) .junk, h⟩ (endW P fn) = some (p, h')) (hI : ∀ w', Kp pin base w w' → Gl.I w') (hH : HRel (mine pin base) w base ρ h) (hus : F2 (V (vw w base ρ h)) ps us) :
    Entb P f ∧ Calls P f us.toArray w fun e w' => ∃ v, e = .returned v ∧ ∃ ρ', HRel (mine pin base) w' base ρ' h' ∧ (vw w base ρ h).Le (vw w' base ρ' h') ∧ V (vw w' base ρ' h') p v ∧ Kp pin base w w' := by
  refine ⟨⟨fn, hf, hname, by rw [hb]; rfl⟩, calls_of_wp hf hb ?_⟩
  have hS : StR pin base none w ρ ⟨ps ++ List.replicate (fn.ntmps - ps.length) .junk, h⟩ { tmps := us.toArray ++ Array.replicate (fn.ntmps - us.toArray.size) undef, defers := [] } := by
    refine ⟨hH, fun i => tm_init (args := us.toArray) (by simpa using hus) i, ?_, rfl, fun v hv => (by cases hv), hI⟩
    have := hus.len
    simp at this ⊢
    omega
  refine wp_mono (exCode0_sound hE hcut hm c hk hS (Kp.refl _ _ _) (Vw.Le.refl _)) fun e a w' hq => ?_
  have fin : ∀ (s : St) (ρ' : Rh), ((resPs P s fn.results.toList).bind fun l => match l with | [q] => some (q, s.h) | _ => none) = some (p, h') → StR pin base none w' ρ' s a → Kp pin base w w' → (vw w base ρ h).Le (vw w' base ρ' s.h) →
      a.defers = [] ∧ ∃ v, (results fn a.tmps).run P w' = .ok v w' ∧ ∃ v', Ending.returned v = .returned v' ∧ ∃ ρ', HRel (mine pin base) w' base ρ' h' ∧ (vw w base ρ h).Le (vw w' base ρ' h') ∧ V (vw w' base ρ' h') p v' ∧ Kp pin base w w' := by
    intro s ρ' h1 h2 h3 h4
    obtain ⟨l, e1, e2⟩ := Option.bind_eq_some_iff.1 h1
    obtain ⟨vs, hvs, hrun⟩ := results_V h2 e1
    split at e2
    · injection e2 with e2
      injection e2 with e2 e3
      subst e2; subst e3
      cases hvs with
      | cons g1 g2 =>
        cases g2
        exact ⟨h2.df, _, hrun, _, rfl, ρ', h2.H, h4, g1, h3⟩
    · cases e2
  cases e with
  | normal => obtain ⟨s, ρ', h1, h2, h3, h4⟩ := hq; exact fin s ρ' h1 h2 h3 h4
  | ret => obtain ⟨s, ρ', h1, h2, h3, h4⟩ := hq; exact fin s ρ' h1 h2 h3 h4
  | exit i => obtain ⟨s, ρ', h1, h2, h3, h4⟩ := hq; simp [endW] at h1
  | panic c => exact hq.elim
  | goto l => exact hq.elim
  | outgrown => exact hq.elim
end
end FN
namespace FN
open Go Go.RowKit
/-- Functions that write one number behind the other into what they are handed. -/
inductive MK where | ints | place (t : TypeId) | desk (t t' : TypeId) | places | deeds | clip
def markL : Int → List Int → List Int
  | _, [] => []
  | k, _ :: l => k :: markL (k + 1) l
def markD : Int → List (Int × Int × Int) → List (Int × Int × Int)
  | _, [] => []
  | k, _ :: l => (k, k + 1, k + 2) :: markD (k + 3) l
def markI {R : Type} (p : PV) (k : Int) (h : Hp) (K : Int → Hp → Option R) : Option R :=
  match p with
  | .nilS => K k h
  | .own id => match h.get id with
    | some (.arr e f .i64 xs) => if (0 : Int) ≤ k ∧ k + (List.length xs : Int) ≤ 4611686018427387904 then K (k + (List.length xs : Int)) (h.set id (some (.arr e f .i64 (markL k xs)))) else none
    | _ => none
  | _ => none
def markDs {R : Type} (p : PV) (k : Int) (h : Hp) (K : Int → Hp → Option R) : Option R :=
  match p with
  | .nilS => K k h
  | .own id => match h.get id with
    | some (.arr e f .deed xs) => if (0 : Int) ≤ k ∧ k + 3 * (List.length xs : Int) ≤ 4611686018427387904 then K (k + 3 * (List.length xs : Int)) (h.set id (some (.arr e f .deed (markD k xs)))) else none
    | _ => none
  | _ => none
/-- Places that are marked. -/
def markPl : Int → List CK.place.T → List CK.place.T
  | _, [] => []
  | k, p :: l => (markL k p.1, k + (List.length p.1 : Int), markL (k + (List.length p.1 : Int) + 1) p.2.2) :: markPl (k + (List.length p.1 : Int) + 1 + (List.length p.2.2 : Int)) l
/-- How many numbers they hold. -/
def szPl : List CK.place.T → Int
  | [] => 0
  | p :: l => (List.length p.1 : Int) + 1 + (List.length p.2.2 : Int) + szPl l
def markZ {R : Type} (p : PV) (k : Int) (h : Hp) (K : Int → Hp → Option R) : Option R :=
  match p with
  | .nilS => K k h
  | .own id => match h.get id with
    | some (.dp s e ei xs) => if (0 : Int) ≤ k ∧ k + szPl xs ≤ 4611686018427387904 then K (k + szPl xs) (h.set id (some (.dp s e ei (markPl k xs)))) else none
    | _ => none
  | _ => none
def markK {R : Type} (m : MK) (ps : List PV) (h : Hp) (K : PV → Hp → Option R) : Option R :=
  match m, ps with
  | .ints, [p, .int .i64 k] => markI p k h fun k h => K (.int .i64 k) h
  | .place t, [.agg [p, .int .i64 x, q], .int .i64 k] => markI p k (h ++ [some (.box t [p, .int .i64 x, q])]) fun k h => markI q k h fun k h => K (.int .i64 k) h
  | .desk t t', [.agg [p, .int .i64 x, q, z], .int .i64 k] => markI p k ((h ++ [some (.box t [p, .int .i64 x, q, z])]) ++ [some (.box t' [p, .int .i64 x, q])]) fun k h => markI q k h fun k h => markZ z k h fun k h => K (.int .i64 k) h
  | .places, [z, .int .i64 k] => markZ z k h fun k h => K (.int .i64 k) h
  | .clip, [.pre id n] => K (.pre id n) h
  | .deeds, [p, .int .i64 k] => markDs p k h fun k h => K (.int .i64 k) h
  | _, _ => none
theorem markI_D (p : PV) (k : Int) (h : Hp) : D fun R (K : Int × Hp → Option R) => markI p k h fun a b => K (a, b) := by
  unfold markI
  split
  · exact fun R K r hk => ⟨_, hk, fun _ _ => rfl⟩
  · split
    · refine D.ite (fun _ => ?_) (fun _ => D.none_)
      exact fun R K r hk => ⟨_, hk, fun _ _ => rfl⟩
    · exact D.none_
  · exact D.none_
theorem markDs_D (p : PV) (k : Int) (h : Hp) : D fun R (K : Int × Hp → Option R) => markDs p k h fun a b => K (a, b) := by
  unfold markDs
  split
  · exact fun R K r hk => ⟨_, hk, fun _ _ => rfl⟩
  · split
    · refine D.ite (fun _ => ?_) (fun _ => D.none_)
      exact fun R K r hk => ⟨_, hk, fun _ _ => rfl⟩
    · exact D.none_
  · exact D.none_
theorem markZ_D (p : PV) (k : Int) (h : Hp) : D fun R (K : Int × Hp → Option R) => markZ p k h fun a b => K (a, b) := by
  unfold markZ
  split
  · exact fun R K r hk => ⟨_, hk, fun _ _ => rfl⟩
  · split
    · refine D.ite (fun _ => ?_) (fun _ => D.none_)
      exact fun R K r hk => ⟨_, hk, fun _ _ => rfl⟩
    · exact D.none_
  · exact D.none_
theorem markK_D (m : MK) (ps : List PV) (h : Hp) : D fun R (K : PV × Hp → Option R) => markK m ps h fun p h' => K (p, h') := by
  unfold markK
  split
  · rename_i p k
    intro R K r hk
    obtain ⟨a, h1, h2⟩ := markI_D p k h R (fun x => K (.int .i64 x.1, x.2)) r hk
    exact ⟨_, h1, fun R' K' => h2 R' fun x => K' (.int .i64 x.1, x.2)⟩
  · rename_i t p x q k
    intro R K r hk
    obtain ⟨a, h1, h2⟩ := markI_D p k _ R (fun x => markI q x.1 x.2 fun k h => K (.int .i64 k, h)) r hk
    obtain ⟨b, h3, h4⟩ := markI_D q a.1 a.2 R (fun x => K (.int .i64 x.1, x.2)) r h1
    exact ⟨_, h3, fun R' K' => (h2 R' fun x => markI q x.1 x.2 fun k h => K' (.int .i64 k, h)).trans (h4 R' fun x => K' (.int .i64 x.1, x.2))⟩
  · rename_i t t' p x q z k
    intro R K r hk
    obtain ⟨a, h1, h2⟩ := markI_D p k _ R (fun x => markI q x.1 x.2 fun k h => markZ z k h fun k h => K (.int .i64 k, h)) r hk
    obtain ⟨b, h3, h4⟩ := markI_D q a.1 a.2 R (fun x => markZ z x.1 x.2 fun k h => K (.int .i64 k, h)) r h1
    obtain ⟨c, h5, h6⟩ := markZ_D z b.1 b.2 R (fun x => K (.int .i64 x.1, x.2)) r h3
    exact ⟨_, h5, fun R' K' => ((h2 R' fun x => markI q x.1 x.2 fun k h => markZ z k h fun k h => K' (.int .i64 k, h)).trans (h4 R' fun x => markZ z x.1 x.2 fun k h => K' (.int .i64 k, h))).trans (h6 R' fun x => K' (.int .i64 x.1, x.2))⟩
  · rename_i z k
    intro R K r hk
    obtain ⟨a, h1, h2⟩ := markZ_D z k h R (fun x => K (.int .i64 x.1, x.2)) r hk
    exact ⟨_, h1, fun R' K' => h2 R' fun x => K' (.int .i64 x.1, x.2)⟩
  · exact fun R K r hk => ⟨_, hk, fun _ _ => rfl⟩
  · rename_i p k
    intro R K r hk
    obtain ⟨a, h1, h2⟩ := markDs_D p k h R (fun x => K (.int .i64 x.1, x.2)) r hk
    exact ⟨_, h1, fun R' K' => h2 R' fun x => K' (.int .i64 x.1, x.2)⟩
  · exact D.none_
def withWr (E : Env') (tab : FuncId → Option MK) : Env' :=
  { E with wr := fun R f ps h K => match tab f with | some m => markK m ps h K | none => none
           wrD := fun f ps h => by
             split
             · exact markK_D _ _ _
             · exact D.none_ }
section
variable [Gl] {P : Program} {E : Env'}
def MkOk (P : Program) (f : FuncId) (m : MK) : Prop := ∀ (ps : List PV) (h h' : Hp) (p : PV) (pin : Pn) (base : Nat) (w : World) (ρ : Rh) (us : List Value), markK m ps h (fun p h => some (p, h)) = some (p, h') → (∀ w', Kp pin base w w' → Gl.I w') → HRel (mine pin base) w base ρ h → F2 (V (vw w base ρ h)) ps us →
  Entb P f ∧ Calls P f us.toArray w fun e w' => ∃ v, e = .returned v ∧ ∃ ρ', HRel (mine pin base) w' base ρ' h' ∧ (vw w base ρ h).Le (vw w' base ρ' h') ∧ V (vw w' base ρ' h') p v ∧ Kp pin base w w'
theorem wr_none {P : Program} {E : Env'} (h : E.wr = fun _ _ _ _ _ => none := by rfl) : WrOk P E := by
  intro f ps h' h'' p pin base w ρ us hk
  rw [h] at hk
  cases hk
theorem withWr_ok {tab : FuncId → Option MK} (hE : EnvOk P E) (ht : ∀ f m, tab f = some m → MkOk P f m) : EnvOk P (withWr E tab) := by
  refine ⟨hE.1, hE.2.1, fun f ps h h' p pin base w ρ us hk hI hH hus => ?_⟩
  have hk' : (match tab f with | some m => markK m ps h (fun p h => some (p, h)) | none => none) = some (p, h') := hk
  split at hk'
  · rename_i m hm
    exact ht f m hm ps h h' p pin base w ρ us hk' hI hH hus
  · cases hk'
theorem tab_none : ∀ (f : FuncId) (m : MK), (none : Option MK) = some m → MkOk P f m := fun _ _ h => by cases h
theorem tab_cons {f0 : FuncId} {m0 : MK} {g : FuncId → Option MK} (h0 : MkOk P f0 m0) (hg : ∀ f m, g f = some m → MkOk P f m) : ∀ f m, (if f = f0 then some m0 else g f) = some m → MkOk P f m := by
  intro f m h
  split at h
  · rename_i e; injection h with h; subst e; subst h; exact h0
  · exact hg f m h
end
end FN
namespace FN
open Go Go.RowKit
section
variable {mine : Mn} {W W' : World} {base : Nat} {ρ : Rh} {H : Hp}
/-- A deep row's memory has turned, and nothing else. -/
theorem HRel.dpSet (h : HRel mine W base ρ H) {id : Nat} {s : Bool} {e ei : TypeId} {xs xs' : List CK.place.T} (hb : H.get id = some (.dp s e ei xs)) (hs : W.heap.size ≤ W'.heap.size)
    (hag : ∀ k, k < W.heap.size → blkOf (ρ id) ≠ some k → ¬ ρ.ins id k → W'.heap[k]? = W.heap[k]?)
    (hB : ∃ inner, OwnsS s W' base e 3 (ρ id) xs'.length inner ∧ DeepR W' base (ρ.ins id) ei xs' inner) :
    HRel mine W' base ρ (H.set id (some (.dp s e ei xs'))) ∧ (vw W base ρ H).Le (vw W' base ρ (H.set id (some (.dp s e ei xs')))) := by
  have hlv : H.get id ≠ none := by rw [hb]; simp
  have hid := Hp.get_lt hlv
  have hlive : ∀ i, (Hp.get (H.set id (some (.dp s e ei xs'))) i) ≠ none ↔ H.get i ≠ none := by
    intro i
    rw [Hp.get_set]
    split
    · rename_i e; rw [e.1]; simp [hb]
    · rfl
  have hno : ∀ i k, H.get i ≠ none → i ≠ id → blkOf (ρ i) = some k → base ≤ k → blkOf (ρ id) ≠ some k ∧ ¬ ρ.ins id k := fun i k hi hne hbk hk =>
    ⟨fun e => hne (h.inj i id hi hlv k hbk e), fun hin => (h.ins1 id k hlv hin).2.2 (h.okm i k hi hbk hk)⟩
  have hle : (vw W base ρ H).Le (vw W' base ρ (H.set id (some (.dp s e ei xs')))) :=
    ⟨⟨hs, fun k hk hl => ⟨hag k hl (fun e => hk.2 id hlv e) (fun hin => (h.ins1 id k hlv hin).2.2 hk.1), hk.1, fun i hi => hk.2 i ((hlive i).1 hi)⟩⟩, rfl, by simp [vw], fun _ _ => rfl⟩
  refine ⟨⟨Nat.le_trans h.bs hs, fun i b1 hb1 => ?_, fun i j hi hj => h.inj i j ((hlive i).1 hi) ((hlive j).1 hj), fun k hk => h.ok0 k (Nat.le_trans hs hk), fun i k hi => h.okm i k ((hlive i).1 hi), h.up, h.upb, fun i k hi hk => ?_, fun i j k hi hj h1 h2 => h.ins2 i j k ((hlive i).1 hi) ((hlive j).1 hj) h1 h2⟩, hle⟩
  · by_cases e0 : i = id
    · rw [Hp.get_set, if_pos ⟨e0, hid⟩] at hb1
      injection hb1 with hb1
      subst hb1; subst e0
      exact hB
    · rw [Hp.get_set, if_neg (fun x => e0 x.1)] at hb1
      have hlvi : H.get i ≠ none := by rw [hb1]; simp
      have hR := h.blk i b1 hb1
      have same : ∀ k, base ≤ k → blkOf (ρ i) = some k → k < W.heap.size → W'.heap[k]? = W.heap[k]? := fun k hk hbk hl => hag k hl (hno i k hlvi e0 hbk hk).1 (hno i k hlvi e0 hbk hk).2
      have sameI : ∀ k, ρ.ins i k → k < W.heap.size → W'.heap[k]? = W.heap[k]? := fun k hin hl => hag k hl (fun e => by
        have := h.ins1 i k hlvi hin
        exact this.2.2 (h.okm id k hlv e this.1)) (fun hin2 => e0 (h.ins2 i id k hlvi hlv hin hin2))
      cases b1 with
      | box t cells =>
        obtain ⟨g, cur, hx, hm, hc, hf⟩ := hR
        have hg : g < W.heap.size := (Array.getElem?_eq_some_iff.1 hc).1
        refine ⟨g, cur, hx, hm, ?_, hf.imp fun _ _ => V1.le hle⟩
        refine (hag g hg (fun e => e0 (h.inj i id hlvi hlv g (by rw [hx]; rfl) e)) (fun hin => ?_)).trans hc
        have := h.ins1 id g hlv hin
        exact this.2.2 (h.okm i g hlvi (by rw [hx]; rfl) this.1)
      | arr e f c xs =>
        obtain ⟨inner, ho, ha⟩ := hR
        refine ⟨inner, ⟨ho.1, ?_⟩, fun j y hy => ?_⟩
        · rcases ho.2 with h2 | ⟨g, cap, cur, hv, hb', hh, r⟩
          · exact .inl h2
          · have hg : g < W.heap.size := (Array.getElem?_eq_some_iff.1 hh).1
            exact .inr ⟨g, cap, cur, hv, hb', (same g hb' (by rw [hv]; rfl) hg).trans hh, r⟩
        · obtain ⟨cs, he, hcs⟩ := ha j y hy
          exact ⟨cs, he.tr (hle.okf f), hcs⟩
      | dp s e ei xs =>
        obtain ⟨inner, ho, hd⟩ := hR
        exact ⟨inner, ho.to hs fun g hg hgl => same g (ho.lt hg).1 hg hgl, hd.to (fun _ h => h) fun k hk hkl => sameI k hk hkl⟩
      | dpc e ei xs =>
        obtain ⟨n, inner, hn, ho, hd⟩ := hR
        exact ⟨n, inner, hn, ho.to hs fun g hg hgl => same g (ho.lt hg).1 hg hgl, hd.to (fun _ h => h) fun k hk hkl => sameI k hk hkl⟩
  · obtain ⟨a1, a2, a3⟩ := h.ins1 i k ((hlive i).1 hi) hk
    exact ⟨a1, Nat.lt_of_lt_of_le a2 hs, a3⟩
end
theorem markL_len : ∀ (k : Int) (l : List Int), (markL k l).length = l.length
  | _, [] => rfl
  | k, _ :: l => by simp [markL, markL_len (k + 1) l]
theorem markPl_len : ∀ (k : Int) (l : List CK.place.T), (markPl k l).length = l.length
  | _, [] => rfl
  | k, p :: l => by simp [markPl, markPl_len _ l]
theorem szPl_nn : ∀ l : List CK.place.T, 0 ≤ szPl l
  | [] => Int.le_refl 0
  | p :: l => by have := szPl_nn l; simp only [szPl]; omega
section
variable {W W' : World} {base : Nat} {I : Nat → Prop} {ei : TypeId}
/-- One place of a deep row is marked. -/
theorem DeepR.mark {P R : List CK.place.T} {y : CK.place.T} {inner : List Value} {u v : Value} {ys zs : List Int} {n : Int} (hd : DeepR W base I ei (P ++ y :: R) inner) (hu : inner[3 * P.length]? = some u) (hv : inner[3 * P.length + 2]? = some v)
    (hl : 3 * (P ++ y :: R).length ≤ inner.length) (ou : OwnI W' base I ei ys u) (ov : OwnI W' base I ei zs v)
    (hag : ∀ k, I k → k < W.heap.size → blkOf u ≠ some k → blkOf v ≠ some k → W'.heap[k]? = W.heap[k]?) :
    DeepR W' base I ei (P ++ (ys, n, zs) :: R) (inner.set (3 * P.length + 1) (.int .i64 n)) := by
  have hlen : (P ++ (ys, n, zs) :: R).length = (P ++ y :: R).length := by simp
  have hPl : P.length < (P ++ y :: R).length := by simp
  have hget : ∀ p, (inner.set (3 * P.length + 1) (.int .i64 n))[p]? = if p = 3 * P.length + 1 then some (.int .i64 n) else inner[p]? := by
    intro p
    rw [List.getElem?_set]
    by_cases e : 3 * P.length + 1 = p
    · rw [if_pos e, if_pos (by omega), if_pos e.symm]
    · rw [if_neg e, if_neg (fun x => e x.symm)]
  refine ⟨fun j y' hy => ?_, fun p q a b k hp hq ha hb hka hkb => ?_⟩
  · by_cases hj : j = P.length
    · subst hj
      rw [List.getElem?_append_right (Nat.le_refl _), Nat.sub_self] at hy
      injection hy with hy
      subst hy
      exact ⟨u, v, by rw [hget, if_neg (by omega)]; exact hu, by rw [hget, if_pos rfl], by rw [hget, if_neg (by omega)]; exact hv, ou, ov⟩
    · have hy0 : (P ++ y :: R)[j]? = some y' := by
        rcases Nat.lt_or_ge j P.length with h1 | h1
        · rw [List.getElem?_append_left h1] at hy ⊢; exact hy
        · rw [List.getElem?_append_right h1] at hy ⊢
          obtain ⟨m, hm⟩ : ∃ m, j - P.length = m + 1 := ⟨j - P.length - 1, by omega⟩
          rw [hm] at hy ⊢
          exact hy
      have hjl := (List.getElem?_eq_some_iff.1 hy0).1
      obtain ⟨a, b, h1, h2, h3, h4, h5⟩ := hd.1 j y' hy0
      have keep : ∀ (q : Nat) (z : Value) (k : Nat), inner[q]? = some z → q < 3 * (P ++ y :: R).length → q ≠ 3 * P.length → q ≠ 3 * P.length + 2 → blkOf z = some k → I k → k < W.heap.size → W'.heap[k]? = W.heap[k]? := by
        intro q z k hz hq n1 n2 hk hI hkl
        refine hag k hI hkl (fun e => n1 ?_) (fun e => n2 ?_)
        · exact hd.2 q (3 * P.length) z u k hq (by omega) hz hu hk e
        · exact hd.2 q (3 * P.length + 2) z v k hq (by omega) hz hv hk e
      exact ⟨a, b, by rw [hget, if_neg (by omega)]; exact h1, by rw [hget, if_neg (by omega)]; exact h2, by rw [hget, if_neg (by omega)]; exact h3,
        ⟨ownsRow_to h4.1 fun g hg hgl => keep (3 * j) a g h1 (by omega) (by omega) (by omega) hg (h4.2 g hg) hgl, h4.2⟩,
        ⟨ownsRow_to h5.1 fun g hg hgl => keep (3 * j + 2) b g h3 (by omega) (by omega) (by omega) hg (h5.2 g hg) hgl, h5.2⟩⟩
  · rw [hlen] at hp hq
    rw [hget] at ha hb
    split at ha
    · injection ha with ha; subst ha; simp [blkOf] at hka
    · split at hb
      · injection hb with hb; subst hb; simp [blkOf] at hkb
      · exact hd.2 p q a b k hp hq ha hb hka hkb
end
/-- What is taken out of a row, and its first places, in either order. -/
theorem back_orders {α β : Type} (y : Int) (xs : List α) (Q : Option β) :
    (if (y : Int).toNat < List.length xs then (if (0 : Int) ≤ y ∧ y ≤ (List.length (List.take (y : Int).toNat xs) : Int) then Q else none) else none) =
    (if (0 : Int) ≤ y ∧ y ≤ (List.length xs : Int) then (if (y : Int).toNat < List.length xs then Q else none) else none) := by
  by_cases h : y.toNat < xs.length
  · rw [if_pos h, if_pos h, List.length_take, Nat.min_eq_left (by omega)]
    by_cases h0 : 0 ≤ y
    · rw [if_pos ⟨h0, by omega⟩, if_pos ⟨h0, by omega⟩]
    · rw [if_neg (fun x => h0 x.1), if_neg (fun x => h0 x.1)]
  · rw [if_neg h]
    split <;> rfl
theorem same_of_eq {R : Type} {x y : Option R} (h : x = y) : same [x, y] = y := by
  subst h
  exact same2 x
end FN
