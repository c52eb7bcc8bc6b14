/- Texts of the proof, joined: parts -/
import Derived.OneCell
import Derived.Test.YtbkndbgonbadaaaGreatDoorJ5
import Derived.Test.YtbkndbgonbadaaaGreatDoorJ0
import Derived.Test.YtbkndbgonbadaaaGreatDoorJ6
set_option linter.unusedVariables false
set_option linter.unusedSimpArgs false
set_option linter.unusedSectionVars false
/-! LoopOf and loopBy, with a map and a function that is handed on: walked by hand. -/
namespace FN
open Go Go.Proofs Go.RowKit Go.Maps
abbrev KpN (w w' : World) : Prop := Kp ⟨fun k => ∃ b : List Int, (none : Option (Nat × List Int)) = some (k, b), fun _ => True⟩ w.heap.size w w'
abbrev SlT (W : World) (xs : List Int) (v : Value) : Prop := SlR W (fun _ => True) .i64 xs v
theorem KpN.blk {w w' : World} (h : KpN w w') {k : Nat} (hk : k < w.heap.size) : w'.heap[k]? = w.heap[k]? := h.block k hk (by rintro ⟨b, hb⟩; cases hb)
theorem KpN.grows {w w' : World} (h : KpN w w') : Grows w w' := ⟨h.size, fun _ hk => h.blk hk⟩
theorem KpN.of {w w' : World} (h1 : w'.os = w.os) (h2 : w'.tape = w.tape) (h3 : w'.output = w.output) (h4 : Grows w w') : KpN w w' := ⟨h1, h2, h3, h4.1, fun k hk _ => h4.2 k hk⟩
theorem KpN.trans {a b c : World} (h : KpN a b) (k : KpN b c) : KpN a c :=
  KpN.of (k.os.trans h.os) (k.tape.trans h.tape) (k.output.trans h.output) (h.grows.trans k.grows)
theorem KpN.alloc (w : World) (o : Obj) : KpN w (w.alloc o) := KpN.of rfl rfl rfl (Grows.alloc w o)
theorem KpN.refl (w : World) : KpN w w := KpN.of rfl rfl rfl (Grows.refl w)
theorem SlT.keep {W W' : World} {xs : List Int} {v : Value} (h : SlT W xs v) (g : Grows W W') : SlT W' xs v := SlR.tr ⟨g.1, fun k _ hl => ⟨g.2 k hl, trivial⟩⟩ h
theorem SlT.of {W : World} {ok : Nat → Prop} {xs : List Int} {v : Value} (h : SlR W ok .i64 xs v) : SlT W xs v := SlR.tr ⟨Nat.le_refl _, fun _ _ _ => ⟨rfl, trivial⟩⟩ h
theorem SlT.arg {W : World} {xs : List Int} {v : Value} (h : SlT W xs v) : V1 (av W fun _ => True) (.row false .i64 xs) v := SlR.tr ⟨Nat.le_refl _, fun _ _ _ => ⟨rfl, trivial, fun e => by cases e⟩⟩ h
theorem gl_keep {w w' : World} (h : Gl.I w) (k : Grows w w') : Gl.I w' := Gl.keep none h k.1 (fun i hi _ => k.2 i hi) (fun k hk => by cases hk)
theorem own_SlT {W : World} {base : Nat} {okr : Nat → Prop} {e : TypeId} {xs : List Int} {u : Value} {inner : List Value} (ho : W.ownsRow base e 1 u xs.length inner) (ha : ArrR ⟨W, okr, base, 0, fun _ => undef⟩ true .i64 xs inner) : SlT W xs u := by
  rcases ho.2 with ⟨h0, hn⟩ | ⟨g, cap, cur, hv, hbg, hh, hle, hm, hsz, htk⟩
  · have : xs = [] := List.eq_nil_of_length_eq_zero hn
    subst this
    exact ⟨none, 0, h0, Nat.le_refl _, Nat.zero_le _, fun hx => absurd rfl hx⟩
  · refine ⟨_, cap, hv, hle, Nat.le_trans hle hm, fun _ => ⟨_, rfl, trivial, (Array.getElem?_eq_some_iff.1 hh).1, fun j y hj => ?_⟩⟩
    obtain ⟨cs, he, hcs⟩ := ha j y hj
    simp only [ElR] at he
    subst he
    refine ⟨[.int .i64 y], rfl, fun i u hi => ?_⟩
    have h1 := hcs i u hi
    rw [← htk, List.getElem?_take] at h1
    split at h1
    · exact cell_blk hh h1
    · cases h1
theorem ctr_calls {P : Program} {f : FuncId} {sig : Sig} {run : Ts sig.pc → Option (Ts sig.rc)} (hc : CtrOk P f ⟨sig, run⟩) {W : World} {args : Array Value} {x : Ts sig.pc} {r : Ts sig.rc} (hI : Gl.I W) (hA : ArgR sig W (fun _ => True) args.toList none x) (hr : run x = some r) :
    Calls P f args W fun e W' => ∃ v, e = .returned v ∧ RetR sig W W' (fun _ => True) none r v ∧ KpN W W' := hc W (fun _ => True) args none x r hI hA hr
theorem av_int {W : World} {ok : Nat → Prop} {k : IntKind} {n : Int} : V1 (av W ok) (.int k n) (.int k n) := rfl
theorem av_nil {W : World} {ok : Nat → Prop} : V1 (av W ok) .nilS (.slice none 0 0) := rfl
theorem flatV_1 {vs : List Value} {u : Value} (h : flatV [none] vs = some [u]) : vs = [u] := by
  cases vs with
  | nil => simp [flatV] at h
  | cons v vs => cases vs with
    | nil => simp only [flatV, Option.map_some] at h; injection h with h
    | cons v' vs => simp [flatV] at h
theorem numC {W : World} {κ : Int} {st : List Int} {v : Value} {n : Int} (hI : Gl.I W) (hv : SlT W st v) (hr : i_NumberOf_f (κ, st) = some n) :
    Calls Tryz.prog 115 #[.int .i64 κ, v] W fun e W' => e = .returned (.int .i64 n) ∧ KpN W W' := by
  refine (ctr_calls i_NumberOf_ok (args := #[.int .i64 κ, v]) (x := (κ, st)) hI (show (none : Option (Nat × List Int)) = none ∧ ∃ fl, flatV [none, none] [.int .i64 κ, v] = some fl ∧ F2 (V1 (av W fun _ => True)) [.int .i64 κ, .row false .i64 st] fl from ⟨rfl, [.int .i64 κ, v], rfl, F2.cons av_int (F2.cons hv.arg F2.nil)⟩) hr).mono ?_
  rintro e w' ⟨v, rfl, ⟨us, sp, ho, _, hsh⟩, hk⟩
  obtain ⟨_, _, vs, hvs, rfl⟩ := hsh
  obtain ⟨u, rfl, hu⟩ := ho
  have hu' : u = .int .i64 n := hu
  subst hu'
  rw [flatV_1 hvs]
  exact ⟨rfl, hk⟩
theorem askC {W : World} {κ : Int} {net st : List Int} {u v : Value} {n : Bool} (hI : Gl.I W) (hu : SlT W net u) (hv : SlT W st v) (hr : i_asked_f (net, κ, st) = some n) :
    Calls Tryz.prog 101 #[u, .int .i64 κ, v] W fun e W' => e = .returned (.bool n) ∧ KpN W W' := by
  refine (ctr_calls i_asked_ok (args := #[u, .int .i64 κ, v]) (x := (net, κ, st)) hI (show (none : Option (Nat × List Int)) = none ∧ ∃ fl, flatV [none, none, none] [u, .int .i64 κ, v] = some fl ∧ F2 (V1 (av W fun _ => True)) [.row false .i64 net, .int .i64 κ, .row false .i64 st] fl from ⟨rfl, [u, .int .i64 κ, v], rfl, F2.cons hu.arg (F2.cons av_int (F2.cons hv.arg F2.nil))⟩) hr).mono ?_
  rintro e w' ⟨v, rfl, ⟨us, sp, ho, _, hsh⟩, hk⟩
  obtain ⟨_, _, vs, hvs, rfl⟩ := hsh
  obtain ⟨u, rfl, hu⟩ := ho
  have hu' : u = .bool n := hu
  subst hu'
  rw [flatV_1 hvs]
  exact ⟨rfl, hk⟩
theorem needC {W : World} {κ : Int} {net st st' : List Int} {u v : Value} (hI : Gl.I W) (hu : SlT W net u) (hv : SlT W st v) (hr : i_needStep_f (net, κ, (), st) = some st') :
    Calls Tryz.prog 69 #[u, .int .i64 κ, .slice none 0 0, v] W fun e W' => ∃ v', e = .returned v' ∧ SlT W' st' v' ∧ KpN W W' := by
  refine (ctr_calls i_needStep_ok (args := #[u, .int .i64 κ, .slice none 0 0, v]) (x := (net, κ, (), st)) hI (show (none : Option (Nat × List Int)) = none ∧ ∃ fl, flatV [none, none, none, none] [u, .int .i64 κ, .slice none 0 0, v] = some fl ∧ F2 (V1 (av W fun _ => True)) [.row false .i64 net, .int .i64 κ, .nilS, .row false .i64 st] fl from ⟨rfl, [u, .int .i64 κ, .slice none 0 0, v], rfl, F2.cons hu.arg (F2.cons av_int (F2.cons av_nil (F2.cons hv.arg F2.nil)))⟩) hr).mono ?_
  rintro e w' ⟨v, rfl, ⟨us, sp, ho, _, hsh⟩, hk⟩
  obtain ⟨_, _, vs, hvs, rfl⟩ := hsh
  obtain ⟨u, rfl, inner, ho, ha⟩ := ho
  rw [flatV_1 hvs]
  exact ⟨u, rfl, own_SlT ho ha, hk⟩
/-- The function that is handed on. -/
theorem stepC {W : World} {κ : Int} {net st st' : List Int} {u v : Value} {g1 g2 : Nat} (hI : Gl.I W) (hu : SlT W net u) (hv : SlT W st v) (h1 : W.cell? ⟨g1, 0, none⟩ = some u) (h2 : W.cell? ⟨g2, 0, none⟩ = some (.int .i64 κ))
    (hr : i_needStep_f (net, κ, (), st) = some st') :
    Calls Tryz.prog 118 #[v, .pointer (some ⟨g1, 0, none⟩), .pointer (some ⟨g2, 0, none⟩)] W fun e W' => ∃ v', e = .returned v' ∧ SlT W' st' v' ∧ KpN W W' := by
  go_enter Tryz.func118, Tryz.ntmps118
  go_wp2_with (go_at_call 69; refine (needC hI hu hv hr).mono ?_; rintro e w' ⟨v', rfl, hv', hk⟩)
  go_ret
  exact ⟨_, rfl, hv', hk⟩
theorem zeroI (w : World) : (zeroValue 3).run Tryz.prog w = .ok (.int .i64 0) w := by kernel_rfl
theorem wfN_i64 {x : Int} (h0 : 0 ≤ x) (h1 : x ≤ 4611686018427387904) : (Lit.int .i64 x).wf = true := by
  simp [Lit.wf, IntKind.min, IntKind.max, IntKind.bits, IntKind.signed]
  omega
theorem KpN.grown {w w' : World} (h : KpN w w') : w.grownBy w' none := ⟨h.os, h.tape, h.output, h.size, fun i hi _ => h.blk hi⟩
/-- A row that is read is no map. -/
theorem SlT.turn {w w' : World} {xs : List Int} {v : Value} {b : Nat} {es : Array MapEntry} {clock : Nat} (h : SlT w xs v) (hb : w.heap[b]? = some (.map es clock)) (hg : w.grownBy w' (some b)) : SlT w' xs v := by
  have h' : SlR w (fun k => k ≠ b) .i64 xs v := by
    obtain ⟨A, cp, rfl, hc, hm, hr⟩ := h
    refine ⟨A, cp, rfl, hc, hm, fun hn => ?_⟩
    obtain ⟨ad, rfl, _, hl, hx⟩ := hr hn
    refine ⟨ad, rfl, fun e => ?_, hl, fun j y hj => ?_⟩
    · cases xs with
      | nil => exact hn rfl
      | cons y ys =>
        obtain ⟨cs, e1, e2⟩ := hx 0 y rfl
        have e3 := e2 0 (.int .i64 y) (by simp only [ElR] at e1; subst e1; rfl)
        unfold World.cell? at e3
        rw [show (ad.add (0 * CK.sz .i64 + 0)).block = b from (Addr.add_block ad _).trans e, hb] at e3
        simp at e3
    · obtain ⟨cs, e1, e2⟩ := hx j y hj
      exact ⟨cs, e1, e2⟩
  exact SlR.tr ⟨hg.size, fun k hk hl => ⟨hg.block k hl (fun e => hk (by injection e)), trivial⟩⟩ h'
theorem KpN.turn {W0 w1 w2 : World} (h : KpN W0 w1) (hg : w1.grownBy w2 (some W0.heap.size)) : KpN W0 w2 :=
  KpN.of (hg.os.trans h.os) (hg.tape.trans h.tape) (hg.output.trans h.output) ⟨Nat.le_trans h.size hg.size, fun k hk => (hg.block k (Nat.lt_of_lt_of_le hk h.size) (fun e => by injection e with e; omega)).trans (h.blk hk)⟩
set_option maxRecDepth 100000 in
theorem loopC {W0 : World} {κ : Int} {net st0 : List Int} {u v0 : Value} {g1 g2 F : Nat} {r : Int × Int} (hF : F ≤ 1000000) (hI0 : Gl.I W0) (hu0 : SlT W0 net u) (hv0 : SlT W0 st0 v0) (h10 : W0.cell? ⟨g1, 0, none⟩ = some u) (h20 : W0.cell? ⟨g2, 0, none⟩ = some (.int .i64 κ))
    (hr0 : loopG (fun s => i_NumberOf_f (κ, s)) (fun s => i_needStep_f (net, κ, (), s)) F [] st0 = some r) :
    Calls Tryz.prog 117 #[.int .i64 κ, v0, .func (.func 118) #[] #[.pointer (some ⟨g1, 0, none⟩), .pointer (some ⟨g2, 0, none⟩)]] W0 fun e W' => e = .returned (.tuple #[.int .i64 r.1, .int .i64 r.2]) ∧ KpN W0 W' := by
  have hmm := @run_makeMap Tryz.prog
  go_enter Tryz.func117, Tryz.ntmps117
  go_wp2
  go_loopw [1, 9] (fun v i wr => ∃ (seen st : List Int) (f : Nat) (D : DataW Unit), i = .int .i64 (seen.length : Int) ∧ f + seen.length = F ∧ loopG (fun s => i_NumberOf_f (κ, s)) (fun s => i_needStep_f (net, κ, (), s)) f seen st = some r ∧
      wr.ownsMap Tryz.prog 3 (plainElem Tryz.prog 3) W0.heap.size seen.length D ∧ MapIs D seen ∧ SlT wr st v ∧ KpN W0 wr)
    (fun _ i _ => F - (intOf i).toNat)
  case atStart => exact ⟨[], st0, F, .map [], rfl, rfl, hr0, World.ownsMap_made _ _ _ _, mapIs_nil, hv0.keep (Grows.alloc _ _), KpN.alloc _ _⟩
  case round =>
    obtain ⟨seen, st, f, D, rfl, hf, hr, hown, hD, hv, hk⟩ := hrel
    cases f with
    | zero => simp [loopG] at hr
    | succ f =>
      unfold loopG at hr
      obtain ⟨x, hx, hr⟩ := Option.bind_eq_some_iff.1 hr
      split at hr
      · rename_i hb
        obtain ⟨hx0, hx1⟩ := hb
        have hkey : keyOf Tryz.prog 3 (.int .i64 x) = some (.int .i64 x) := keyOf_int_mk Tryz.underlying3 (wfN_i64 hx0 hx1)
        have hnum := numC (gl_keep hI0 hk.grows) hv hx
        split at hr
        · rename_i i hfi
          obtain ⟨hhas, hat⟩ := (hD.2 x).2 i hfi
          injection hr with hr
          subst hr
          have hil : i < seen.length := (List.findIdx?_eq_some_iff_getElem.1 hfi).1
          have hs1 : seen.length ≤ 1000000 := by omega
          go_wp2_with (first
            | (go_at_call 115; refine hnum.mono ?_; rintro e w1 ⟨rfl, hk1⟩; have hown1 := hown.kept hk1.grown (by simp))
            | (at_lookup; refine wpList_lookup_own_ok_int _ rfl _ _ 149 rfl 3 3 .i64 (int_keyed Tryz.underlying3) Tryz.underlying149 Tryz.underlying3 (zeroI _) W0.heap.size seen.length D rfl (by assumption) _ _ rfl hkey ?_; intro c hat2 hwc)
            | go_in)
          rw [hat] at hat2
          injection hat2 with hat2
          injection hat2 with _ hat2
          subst hat2
          go_ret2
          refine ⟨?_, hk.trans hk1⟩
          first | rfl | (simp [wrap64]; omega)
        · rename_i hfi
          obtain ⟨st', hs, hr⟩ := Option.bind_eq_some_iff.1 hr
          have hhas := (hD.2 x).1 hfi
          have hlen : (Lit.int .i64 (seen.length : Int)).wf = true := wfN_i64 (by omega) (by omega)
          have hb : W0.heap.size < wr.heap.size := hown.lt
          go_wp2_with (first
            | (go_at_call 115; refine hnum.mono ?_; rintro e w1 ⟨rfl, hk1⟩; have hown1 := hown.kept hk1.grown (by simp))
            | (at_lookup; refine wpList_lookup_own_ok_int _ rfl _ _ 149 rfl 3 3 .i64 (int_keyed Tryz.underlying3) Tryz.underlying149 Tryz.underlying3 (zeroI _) W0.heap.size seen.length D rfl (by assumption) _ _ rfl hkey ?_; intro c hat2 hwc)
            | (at_mapUpdate; refine wpList_mapUpdate_own _ rfl _ _ _ 149 rfl 3 3 (int_keyed Tryz.underlying3) Tryz.underlying149 (plainElem Tryz.prog 3) W0.heap.size seen.length D rfl (by assumption) (by unfold maxLen; omega) _ _ _ rfl rfl hkey (.lit (.int .i64 (seen.length : Int))) [] (plainElem_int Tryz.underlying3 hlen) ?_; intro w2 hown2 hgrow2; have hk2 := (hk.trans hk1).turn hgrow2; have hv2 := (hv.keep hk1.grows).turn (hown1.choose_spec.choose_spec.1) hgrow2)
            | (go_at_call 118; refine (stepC (gl_keep hI0 hk2.grows) (hu0.keep hk2.grows) hv2 (hk2.grows.cell h10) (hk2.grows.cell h20) hs).mono ?_; rintro e w3 ⟨v', rfl, hv', hk3⟩)
            | go_in)
          have hlen2 : seen.length + 1 ≤ 1000000 := by omega
          go_roundw
          case rel => exact ⟨seen ++ [x], st', f, _, by simp, by simp; omega, hr, by simpa using hown2.kept hk3.grown (by simp), mapIs_put hD x hfi, hv', hk2.trans hk3⟩
          case measure => simp [intOf]; omega
      · cases hr
@[reducible] def i_LoopOf_sig : Sig := { ps := [none, none, none], pc := [.view .i64, .int .i64, .view .i64], rs := [none, none], rc := [.int .i64, .int .i64] }
noncomputable def i_LoopOf_f (x : Ts i_LoopOf_sig.pc) : Option (Ts i_LoopOf_sig.rc) :=
  (i_asked_f (x.1, x.2.1, x.2.2)).bind fun b => cond b (loopG (fun s => i_NumberOf_f (x.2.1, s)) (fun s => i_needStep_f (x.1, x.2.1, (), s)) 20000 [] x.2.2) (some (-1, -1))
theorem i_LoopOf_f_eq (a : List Int) (k : Int) (b : List Int) : i_LoopOf_f (a, k, b) = (i_asked_f (a, k, b)).bind fun c => cond c (loopG (fun s => i_NumberOf_f (k, s)) (fun s => i_needStep_f (a, k, (), s)) 20000 [] b) (some (-1, -1)) := rfl
theorem i_LoopOf_ent : Entb Tryz.prog 74 := ⟨Tryz.f74, by kernel_rfl, by kernel_rfl, by kernel_rfl⟩
set_option maxRecDepth 100000 in
theorem loopOfC {W : World} {κ : Int} {net st : List Int} {u v : Value} {r : Int × Int} (hI : Gl.I W) (hu : SlT W net u) (hv : SlT W st v) (hr : i_LoopOf_f (net, κ, st) = some r) :
    Calls Tryz.prog 74 #[u, .int .i64 κ, v] W fun e W' => e = .returned (.tuple #[.int .i64 r.1, .int .i64 r.2]) ∧ KpN W W' := by
  have hmf : ∀ (fn : Fn) (first cap : Array Value) (w : World), (Instr.makeFunc fn first cap).run Tryz.prog w = .ok (.func fn first cap) w := fun _ _ _ _ => rfl
  rw [i_LoopOf_f_eq] at hr
  obtain ⟨b, hb, hr⟩ := Option.bind_eq_some_iff.1 hr
  obtain ⟨A, cp, hue, _⟩ := id hu
  have kk : KpN W ((W.alloc (.cells #[u] 23)).alloc (.cells #[.int .i64 κ] 3)) := (KpN.alloc W _).trans (KpN.alloc _ _)
  have h1 : ((W.alloc (.cells #[u] 23)).alloc (.cells #[.int .i64 κ] 3)).cell? ⟨W.heap.size, 0, none⟩ = some u := by
    rw [World.cell?_alloc_past _ _ _ (by simp), World.cell?_alloc_at _ _ _ _ rfl]; rfl
  have h2 : ((W.alloc (.cells #[u] 23)).alloc (.cells #[.int .i64 κ] 3)).cell? ⟨W.heap.size + 1, 0, none⟩ = some (.int .i64 κ) := by
    rw [World.cell?_alloc_at _ _ _ _ (by simp)]; rfl
  have ha := askC (gl_keep hI kk.grows) (hu.keep kk.grows) (hv.keep kk.grows) hb
  subst hue
  cases b with
  | false =>
    injection hr with hr
    subst hr
    go_enter Tryz.func74, Tryz.ntmps74
    go_wp2_with (first
      | (go_at_call 101; refine ha.mono ?_; rintro e w1 ⟨rfl, hk1⟩; have c1 := hk1.grows.cell h1; have c2 := hk1.grows.cell h2)
      | go_in)
    go_ret2
    exact ⟨rfl, kk.trans hk1⟩
  | true =>
    have hr' : loopG (fun s => i_NumberOf_f (κ, s)) (fun s => i_needStep_f (net, κ, (), s)) 20000 [] st = some r := hr
    go_enter Tryz.func74, Tryz.ntmps74
    go_wp2_with (first
      | (go_at_call 101; refine ha.mono ?_; rintro e w1 ⟨rfl, hk1⟩; have c1 := hk1.grows.cell h1; have c2 := hk1.grows.cell h2)
      | (go_at_call 117; refine (loopC (by decide) (gl_keep hI (kk.trans hk1).grows) (hu.keep (kk.trans hk1).grows) (hv.keep (kk.trans hk1).grows) c1 c2 hr').mono ?_; rintro e w2 ⟨rfl, hk2⟩)
      | go_in)
    go_ret2
    exact ⟨rfl, (kk.trans hk1).trans hk2⟩
theorem flatV_2 {vs fl : List Value} (h : flatV [none, none, none] vs = some fl) : vs = fl := by
  cases vs with
  | nil => simp [flatV] at h
  | cons a vs => cases vs with
    | nil => simp [flatV] at h
    | cons b vs => cases vs with
      | nil => simp [flatV] at h
      | cons c vs => cases vs with
        | nil => simpa [flatV] using h
        | cons d vs => simp [flatV] at h
theorem i_LoopOf_ok : CtrOk Tryz.prog 74 ⟨i_LoopOf_sig, i_LoopOf_f⟩ := by
  intro w okc args bx x r hI hA hr
  obtain ⟨net, κ, st⟩ := x
  dsimp only at hr
  obtain ⟨rfl, fl, h1, h2⟩ := (show bx = none ∧ ∃ fl, flatV [none, none, none] args.toList = some fl ∧ F2 (V1 (av w okc)) [PV.row false .i64 net, PV.int .i64 κ, PV.row false .i64 st] fl from hA)
  have h1 := flatV_2 h1
  cases h2 with
  | cons hu h2 => cases h2 with
    | cons hk h2 => cases h2 with
      | cons hv h2 =>
        cases h2
        rename_i u k v _
        have hk' : k = .int .i64 κ := hk
        subst hk'
        have hargs : args = #[u, .int .i64 κ, v] := by apply Array.ext'; rw [h1]
        rw [hargs]
        refine (loopOfC (r := r) hI (SlT.of (show SlR w _ .i64 net u from hu)) (SlT.of (show SlR w _ .i64 st v from hv)) hr).mono ?_
        rintro e w' ⟨rfl, hk⟩
        exact ⟨_, rfl, ⟨[.int .i64 r.1, .int .i64 r.2], fun _ => False, ⟨_, _, rfl, rfl, _, rfl, rfl⟩, fun i j u u' g hu => by simp [rowsV] at hu, fun k h => h, (fun h => Bool.noConfusion (show (false : Bool) = true from h)), [.int .i64 r.1, .int .i64 r.2], rfl, rfl⟩, hk⟩
end FN

