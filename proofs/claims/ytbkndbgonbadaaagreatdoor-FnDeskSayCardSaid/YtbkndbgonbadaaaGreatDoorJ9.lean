/- Texts of the proof, joined: parts -/
import Derived.Test.YtbkndbgonbadaaaGreatDoorJ8
import Derived.Test.YtbkndbgonbadaaaGreatDoorJ7
set_option linter.unusedVariables false
set_option linter.unusedSimpArgs false
set_option linter.unusedSectionVars false
/-! EndsAt, with a map: walked by hand. -/
namespace FN
open Go Go.Proofs Go.RowKit Go.Maps
theorem zeroB (w : World) : (zeroValue 4).run Tryz.prog w = .ok (.bool false) w := by kernel_rfl
@[reducible] def i_EndsAt_sig : Sig := { ps := [none, none, none], pc := [.view .i64, .int .i64, .view .i64], rs := [none], rc := [.int .i64] }
noncomputable def i_EndsAt_f (x : Ts i_EndsAt_sig.pc) : Option (Ts i_EndsAt_sig.rc) :=
  (i_asked_f (x.1, x.2.1, x.2.2)).bind fun b => cond b (endsG (fun s => i_NumberOf_f (x.2.1, s)) (fun s => i_needStep_f (x.1, x.2.1, (), s)) 20000 [] x.2.2) (some (-1))
theorem i_EndsAt_f_eq (a : List Int) (k : Int) (b : List Int) : i_EndsAt_f (a, k, b) = (i_asked_f (a, k, b)).bind fun c => cond c (endsG (fun s => i_NumberOf_f (k, s)) (fun s => i_needStep_f (a, k, (), s)) 20000 [] b) (some (-1)) := rfl
theorem i_EndsAt_ent : Entb Tryz.prog 72 := ⟨Tryz.f72, by kernel_rfl, by kernel_rfl, by kernel_rfl⟩
set_option maxRecDepth 100000 in
theorem endsAtC {W : World} {κ : Int} {net st0 : List Int} {u v0 : Value} {F : Nat} {r : Int} (hF : F ≤ 1000000) (hI : Gl.I W) (hu : SlT W net u) (hv : SlT W st0 v0) (hb : i_asked_f (net, κ, st0) = some true)
    (hr0 : endsG (fun s => i_NumberOf_f (κ, s)) (fun s => i_needStep_f (net, κ, (), s)) F [] st0 = some r) :
    Calls Tryz.prog 72 #[u, .int .i64 κ, v0] W fun e W' => e = .returned (.int .i64 r) ∧ KpN W W' := by
  have hmm := @run_makeMap Tryz.prog
  have ha := askC hI hu hv hb
  go_enter Tryz.func72, Tryz.ntmps72
  go_wp2_with (first
    | (go_at_call 101; refine ha.mono ?_; rintro e W0 ⟨rfl, hk0⟩; have hu0 := hu.keep hk0.grows; have hv0 := hv.keep hk0.grows; have hI0 := gl_keep hI hk0.grows)
    | go_in)
  go_loopw [2, 8] (fun v i wr => ∃ (seen st : List Int) (f : Nat) (D : DataW Unit), i = .int .i64 (seen.length : Int) ∧ f + seen.length = F ∧ endsG (fun s => i_NumberOf_f (κ, s)) (fun s => i_needStep_f (net, κ, (), s)) f seen st = some r ∧
      wr.ownsMap Tryz.prog 3 (plainElem Tryz.prog 4) W0.heap.size seen.length D ∧ SetIs D seen ∧ SlT wr st v ∧ KpN W0 wr)
    (fun _ i _ => F - (intOf i).toNat)
  case atStart => exact ⟨[], st0, F, .map [], rfl, rfl, hr0, World.ownsMap_made _ _ _ _, setIs_nil, hv0.keep (Grows.alloc _ _), KpN.alloc _ _⟩
  case round =>
    obtain ⟨seen, st, f, D, rfl, hf, hr, hown, hD, hv, hk⟩ := hrel
    cases f with
    | zero => simp [endsG] at hr
    | succ f =>
      unfold endsG at hr
      obtain ⟨x, hx, hr⟩ := Option.bind_eq_some_iff.1 hr
      split at hr
      · rename_i hb
        obtain ⟨hx0, hx1⟩ := hb
        have hkey : keyOf Tryz.prog 3 (.int .i64 x) = some (.int .i64 x) := keyOf_int_mk Tryz.underlying3 (wfN_i64 hx0 hx1)
        have hnum := numC (gl_keep hI0 hk.grows) hv hx
        split at hr
        · rename_i h0
          injection hr with hr
          subst hr
          subst h0
          go_wp2_with (first
            | (go_at_call 115; refine hnum.mono ?_; rintro e w1 ⟨rfl, hk1⟩)
            | go_in)
          go_ret
          exact ⟨rfl, hk0.trans (hk.trans hk1)⟩
        · rename_i h0
          have h0b : (x == 0) = false := beq_false_of_ne h0
          split at hr
          · rename_i hmem
            have hat := (hD.2 x).2 hmem
            injection hr with hr
            subst hr
            go_wp2_with (first
              | (go_at_call 115; refine hnum.mono ?_; rintro e w1 ⟨rfl, hk1⟩; have hown1 := hown.kept hk1.grown (by simp))
              | (at_lookup; refine wpList_lookup_own_bool _ rfl _ _ 124 rfl 3 4 (int_keyed Tryz.underlying3) Tryz.underlying124 Tryz.underlying4 (zeroB _) W0.heap.size seen.length D rfl (by assumption) _ _ rfl hkey ?_; intro c hat2; obtain rfl : true = c := by { rw [hat] at hat2; injection hat2 with hat2; injection hat2 })
              | go_in)
            go_ret
            exact ⟨rfl, hk0.trans (hk.trans hk1)⟩
          · rename_i hmem
            have hat := (hD.2 x).1 hmem
            obtain ⟨st', hs, hr⟩ := Option.bind_eq_some_iff.1 hr
            have hs1 : seen.length ≤ 1000000 := by omega
            have hb : W0.heap.size < wr.heap.size := hown.lt
            go_wp2_with (first
              | (go_at_call 115; refine hnum.mono ?_; rintro e w1 ⟨rfl, hk1⟩; have hown1 := hown.kept hk1.grown (by simp))
              | (at_lookup; refine wpList_lookup_own_bool _ rfl _ _ 124 rfl 3 4 (int_keyed Tryz.underlying3) Tryz.underlying124 Tryz.underlying4 (zeroB _) W0.heap.size seen.length D rfl (by assumption) _ _ rfl hkey ?_; intro c hat2; obtain rfl : false = c := by { rw [hat] at hat2; injection hat2 with hat2; injection hat2 })
              | (at_mapUpdate; refine wpList_mapUpdate_own _ rfl _ _ _ 124 rfl 3 4 (int_keyed Tryz.underlying3) Tryz.underlying124 (plainElem Tryz.prog 4) W0.heap.size seen.length D rfl (by assumption) (by unfold maxLen; omega) _ _ _ rfl rfl hkey (.lit (.bool true)) [] (plainElem_bool Tryz.underlying4 true) ?_; intro w2 hown2 hgrow2; have hk2 := (hk.trans hk1).turn hgrow2; have hv2 := (hv.keep hk1.grows).turn (hown1.choose_spec.choose_spec.1) hgrow2)
              | (go_at_call 69; refine (needC (gl_keep hI0 hk2.grows) (hu0.keep hk2.grows) hv2 hs).mono ?_; rintro e w3 ⟨v', rfl, hv', hk3⟩)
              | go_in)
            have hlen2 : seen.length + 1 ≤ 1000000 := by omega
            go_roundw
            case rel => exact ⟨seen ++ [x], st', f, _, by simp, by simp; omega, hr, by simpa using hown2.kept hk3.grown (by simp), setIs_put hD x, hv', hk2.trans hk3⟩
            case measure => simp [intOf]; omega
      · cases hr
set_option maxRecDepth 100000 in
theorem endsOfC {W : World} {κ : Int} {net st : List Int} {u v : Value} {r : Int} (hI : Gl.I W) (hu : SlT W net u) (hv : SlT W st v) (hr : i_EndsAt_f (net, κ, st) = some r) :
    Calls Tryz.prog 72 #[u, .int .i64 κ, v] W fun e W' => e = .returned (.int .i64 r) ∧ KpN W W' := by
  rw [i_EndsAt_f_eq] at hr
  obtain ⟨b, hb, hr⟩ := Option.bind_eq_some_iff.1 hr
  cases b with
  | false =>
    injection hr with hr
    subst hr
    have ha := askC hI hu hv hb
    go_enter Tryz.func72, Tryz.ntmps72
    go_wp2_with (first
      | (go_at_call 101; refine ha.mono ?_; rintro e w1 ⟨rfl, hk1⟩)
      | go_in)
    go_ret
    exact ⟨rfl, hk1⟩
  | true => exact endsAtC (by decide) hI hu hv hb hr
theorem i_EndsAt_ok : CtrOk Tryz.prog 72 ⟨i_EndsAt_sig, i_EndsAt_f⟩ := by
  intro w okc args bx x r hI hA hr
  obtain ⟨net, κ, st⟩ := x
  dsimp only at hr
  obtain ⟨rfl, fl, h1, h2⟩ := (show bx = none ∧ ∃ fl, flatV [none, none, none] args.toList = some fl ∧ F2 (V1 (av w okc)) [PV.row false .i64 net, PV.int .i64 κ, PV.row false .i64 st] fl from hA)
  have h1 := flatV_2 h1
  cases h2 with
  | cons hu h2 => cases h2 with
    | cons hk h2 => cases h2 with
      | cons hv h2 =>
        cases h2
        rename_i u k v _
        have hk' : k = .int .i64 κ := hk
        subst hk'
        have hargs : args = #[u, .int .i64 κ, v] := by apply Array.ext'; rw [h1]
        rw [hargs]
        refine (endsOfC (r := r) hI (SlT.of (show SlR w _ .i64 net u from hu)) (SlT.of (show SlR w _ .i64 st v from hv)) hr).mono ?_
        rintro e w' ⟨rfl, hk⟩
        exact ⟨_, rfl, ⟨[.int .i64 r], fun _ => False, ⟨_, rfl, rfl⟩, fun i j u u' g hu => by simp [rowsV] at hu, fun k h => h, (fun h => Bool.noConfusion (show (false : Bool) = true from h)), [.int .i64 r], rfl, rfl⟩, hk⟩
end FN

