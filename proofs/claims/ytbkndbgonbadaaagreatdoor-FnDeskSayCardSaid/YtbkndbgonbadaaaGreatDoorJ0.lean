/- Texts of the proof, joined: parts -/
import Derived.Lib.LaidTab
import Derived.Lib.ItoaNum
import Derived.KernelRfl
import Derived.Test.YtbkndbgonbadaaaGreatDoorProg
import Derived.Test.YtbkndbgonbadaaaGreatDoorA1
import Derived.Test.YtbkndbgonbadaaaGreatDoorS0
set_option linter.unusedVariables false
set_option linter.unusedSimpArgs false
set_option linter.unusedSectionVars false
namespace FN
open Go Go.Proofs
def mkT (n : Nat) (l : List (Nat × PV)) : List PV := (List.range n).map fun i => (l.lookup i).getD .junk
def ckT (t : TypeId) : Option CK := if t = 3 then some .i64 else if t = 4 then some .bool else if t = 5 then some .u8 else if t = 9 then some .str else if t = 25 then some .place else if t = 36 then some .place else if t = 60 then some .deed else if t = 173 then some .pair else none
/-- One cell, two error variables, one int, and the table of powers of ten: what is asked of the library's variables. -/
abbrev tabV : Array Value := (Lib.pow10Tab.map fun z => Value.int .u64 z).toArray
theorem tabV_size : tabV.size ≠ 2 := by decide +kernel
instance : Gl := ⟨fun w => (∃ m t fz, w.heap[2]? = some (.cells #[.int .i64 m] t fz)) ∧ (∃ ev t fz, w.heap[0]? = some (.cells #[ev] t fz) ∧ (ev = .nilIface ∨ ∃ te pe, ev = .iface te pe)) ∧ (∃ ev t fz, w.heap[1]? = some (.cells #[ev] t fz) ∧ (ev = .nilIface ∨ ∃ te pe, ev = .iface te pe)) ∧ (∃ t fz, w.heap[3]? = some (.cells tabV t fz)), fun _ => True, fun {w w'} g hI hs hk hg => by
  have one : ∀ (k : Nat) (vs : Array Value) (t : TypeId) (fz : Nat × Nat), vs.size ≠ 2 → w.heap[k]? = some (Obj.cells vs t fz) → w'.heap[k]? = some (Obj.cells vs t fz) := fun k vs t fz hn h1 => by
    by_cases e : g = some k
    · obtain ⟨u, p, t', _, h2⟩ := hg k e
      rw [h1] at h2
      injection h2 with h2
      injection h2 with h2
      exact absurd (congrArg Array.size h2) hn
    · exact (hk k (Array.getElem?_eq_some_iff.1 h1).1 e).trans h1
  obtain ⟨⟨m, t, fz, h1⟩, ⟨v, t2, fz2, h2, h3⟩, ⟨v', t4, fz4, h4, h5⟩, ⟨t6, fz6, h6⟩⟩ := hI
  exact ⟨⟨m, t, fz, one _ _ _ _ (by simp) h1⟩, ⟨v, t2, fz2, one _ _ _ _ (by simp) h2, h3⟩, ⟨v', t4, fz4, one _ _ _ _ (by simp) h4, h5⟩, ⟨t6, fz6, one _ _ _ _ tabV_size h6⟩⟩⟩
theorem gl_cell {w : World} (h : Gl.I w) : ∃ m, w.cell? ⟨2, 0, none⟩ = some (.int .i64 m) := by
  obtain ⟨⟨m, t, fz, h1⟩, _⟩ := (show (∃ m t fz, w.heap[2]? = some (.cells #[.int .i64 m] t fz)) ∧ _ from h)
  exact ⟨m, by simp [World.cell?, h1]⟩
theorem gl_syn {w : World} (h : Gl.I w) : ∃ ev, w.cell? ⟨0, 0, none⟩ = some ev ∧ (ev = .nilIface ∨ ∃ te pe, ev = .iface te pe) := by
  obtain ⟨_, ⟨v, t, fz, h1, h2⟩, _⟩ := (show _ ∧ (∃ ev t fz, w.heap[0]? = some (.cells #[ev] t fz) ∧ (ev = .nilIface ∨ ∃ te pe, ev = .iface te pe)) ∧ _ from h)
  exact ⟨v, by simp [World.cell?, h1], h2⟩
theorem gl_ran {w : World} (h : Gl.I w) : ∃ ev, w.cell? ⟨1, 0, none⟩ = some ev ∧ (ev = .nilIface ∨ ∃ te pe, ev = .iface te pe) := by
  obtain ⟨_, _, ⟨v, t, fz, h1, h2⟩, _⟩ := (show _ ∧ _ ∧ (∃ ev t fz, w.heap[1]? = some (.cells #[ev] t fz) ∧ (ev = .nilIface ∨ ∃ te pe, ev = .iface te pe)) ∧ _ from h)
  exact ⟨v, by simp [World.cell?, h1], h2⟩
theorem gl_tab {w : World} (h : Gl.I w) : Lib.TabIs Tryz.prog w "internal/strconv.uint64pow10" .u64 Lib.pow10Tab := by
  obtain ⟨_, _, _, ⟨t, fz, h1⟩⟩ := (show _ ∧ _ ∧ _ ∧ (∃ t fz, w.heap[3]? = some (.cells tabV t fz)) from h)
  have hg : Tryz.prog.globalNamed "internal/strconv.uint64pow10" = some 3 := by kernel_rfl
  unfold Lib.TabIs World.var?
  rw [hg]
  simp only [Option.bind_some, h1]

theorem follows_ : Tryz.prog.follows .mixedOrders = true := by kernel_rfl
theorem rd_head {x b : List Int} {l ps : List PV} (h : (PV.row false .u8 x :: l) = PV.row false .u8 b :: ps) : x = b := by
  injection h with h _
  injection h
theorem fn_none {P : Program} : ∀ (f : FuncId) (c : Ctr'), (none : Option Ctr') = some c → CtrOk P f c ∧ Entb P f := fun _ _ h => by cases h
theorem fn_cons {P : Program} {f0 : FuncId} {c0 : Ctr'} (h0 : CtrOk P f0 c0 ∧ Entb P f0) {g : FuncId → Option Ctr'} (hg : ∀ f c, g f = some c → CtrOk P f c ∧ Entb P f) : ∀ f c, (if f = f0 then some c0 else g f) = some c → CtrOk P f c ∧ Entb P f := by
  intro f c h
  split at h
  · rename_i e; injection h with h; subst e; subst h; exact h0
  · exact hg f c h
theorem lim_some {α : Type} {g : Nat → Option α} {r : α} (h : lim g = some r) : ∃ n, g n = some r := by
  unfold lim at h
  split at h
  · exact ⟨_, h⟩
  · cases h
theorem lim_of {α : Type} {g : Nat → Option α} {v : α} (h : ∃ n, g n = some v) (u : ∀ n r, g n = some r → r = v) : lim g = some v := by
  obtain ⟨n, hn⟩ := h
  have hx : ∃ n r, g n = some r := ⟨n, v, hn⟩
  obtain ⟨r, hr⟩ := hx.choose_spec
  have : lim g = g hx.choose := dif_pos hx
  rw [this, hr, u _ r hr]
theorem clo_none {P : Program} {E : Env'} (h : E.clo = fun _ _ _ _ _ => none := by rfl) : CloOk P E := by
  intro f ps hp h' pin base w ρ args hc
  rw [h] at hc
  cases hc
def str0 : ByteArray := ⟨#[106, 111, 105, 110, 32]⟩
def str1 : ByteArray := ⟨#[32]⟩
def str2 : ByteArray := ⟨#[108, 105, 103, 104, 116, 32]⟩
def str3 : ByteArray := ⟨#[107, 105, 110, 100, 115, 32]⟩
def str4 : ByteArray := ⟨#[115, 116, 101, 112]⟩
def str5 : ByteArray := ⟨#[98, 97, 99, 107]⟩
def str10 : ByteArray := ⟨#[106, 111, 105, 110]⟩
def str11 : ByteArray := ⟨#[108, 105, 103, 104, 116]⟩
def str12 : ByteArray := ⟨#[107, 105, 110, 100, 115]⟩
def str14 : ByteArray := ⟨#[44]⟩
def str15 : ByteArray := ⟨#[46]⟩
def str16 : ByteArray := ⟨#[112, 108, 97, 99, 101]⟩
def str17 : ByteArray := ⟨#[101, 110, 100, 115]⟩
def str18 : ByteArray := ⟨#[108, 111, 111, 112]⟩
def str19 : ByteArray := ⟨#[99, 111, 117, 110, 116, 115]⟩
def str20 : ByteArray := ⟨#[112, 97, 114, 116, 115]⟩
def str21 : ByteArray := ⟨#[102, 108, 97, 116]⟩
def str22 : ByteArray := ⟨#[104, 101, 105, 103, 104, 116, 115]⟩
def str23 : ByteArray := ⟨#[106, 111, 105, 110, 32, 48]⟩
def str24 : ByteArray := ⟨#[106, 111, 105, 110, 32, 48, 32, 120]⟩
def str25 : ByteArray := ⟨#[108, 105, 103, 104, 116, 32, 120]⟩
def str26 : ByteArray := ⟨#[107, 105, 110, 100, 115, 32, 57]⟩
def str27 : ByteArray := ⟨#[115, 116, 101, 112, 32, 48]⟩
def str28 : ByteArray := ⟨#[102, 105, 114, 101, 100]⟩
def str29 : ByteArray := ⟨#[102, 105, 114, 101, 100, 32, 120]⟩
def str30 : ByteArray := ⟨#[102, 105, 114, 101, 100, 32, 54, 49]⟩
def str31 : ByteArray := ⟨#[116, 117, 114, 110, 101, 100, 32, 57, 57]⟩
def str32 : ByteArray := ⟨#[102, 97, 114, 32, 54]⟩
def str33 : ByteArray := ⟨#[102, 97, 114]⟩
def str34 : ByteArray := ⟨#[102, 97, 114, 32, 45, 49]⟩
def str35 : ByteArray := ⟨#[110, 101, 97, 114, 32, 48]⟩
def str36 : ByteArray := ⟨#[32, 112, 108, 97, 99, 101]⟩
def str37 : ByteArray := ⟨#[102, 105, 114, 101, 100, 32]⟩
def str38 : ByteArray := ⟨#[116, 117, 114, 110, 101, 100, 32]⟩
def str39 : ByteArray := ⟨#[102, 97, 114, 32]⟩
def str40 : ByteArray := ⟨#[110, 111, 110, 101]⟩
def str41 : ByteArray := ⟨#[110, 101, 118, 101, 114]⟩
def str42 : ByteArray := ⟨#[121, 101, 115]⟩
def str43 : ByteArray := ⟨#[110, 111]⟩
def str44 : ByteArray := ⟨#[119, 104, 97, 116]⟩
def str45 : ByteArray := ⟨#[116, 117, 114, 110, 101, 100]⟩
def str46 : ByteArray := ⟨#[110, 111, 116]⟩
def str47 : ByteArray := ⟨#[111, 107]⟩
def str48 : ByteArray := ⟨#[45]⟩
end FN

set_option linter.unusedVariables false
namespace FN
open Go Go.Proofs
/-! loop.example/firingnets/spec.l1In -/
@[reducible] def s_l1In_sig : Sig := { ps := [none, none, none], pc := [.int .i64, .int .i64, .int .i64], rs := [none], rc := [.bool] }
noncomputable def s_l1In_E : Env' := { fn := fun f => none, ck := ckT, cuts := [], mine := fun i => false }
noncomputable def s_l1In_f (x : Ts s_l1In_sig.pc) : Option (Ts s_l1In_sig.rc) := runFn Tryz.prog (s_l1In_E) Tryz.f111 s_l1In_sig x
theorem s_l1In_f_eq (x0 : (Int)) (x1 : (Int)) (x2 : (Int)) : s_l1In_f (x0, x1, x2) = (cond ((decide (x1 ≤ x0))) (some (decide (x0 ≤ x2))) (some false)) := by
  kernel_rfl
theorem s_l1In_ent : Entb Tryz.prog 111 := ⟨Tryz.f111, by kernel_rfl, by kernel_rfl, by kernel_rfl⟩
theorem s_l1In_ok : CtrOk Tryz.prog 111 ⟨s_l1In_sig, s_l1In_f⟩ :=
  ctr_of (fn := Tryz.f111) (by kernel_rfl) (by kernel_rfl) (fun x : Ts s_l1In_sig.pc => s_l1In_E) (fun x => ⟨fn_none, clo_none, wr_none⟩) (fun h => by cases h) follows_ (fun _ _ => trivial)
end FN

/-! strconv.Itoa, at 0 .. 99: the shelf's contract, as one of ours. -/
namespace FN
open Go Go.Proofs
theorem flatV_one {l fl : List Value} (h : flatV [none] l = some fl) : ∃ p, l = [p] ∧ fl = [p] := by
  cases l with
  | nil => simp [flatV] at h
  | cons p ps =>
    cases ps with
    | nil => exact ⟨p, rfl, by simpa [flatV] using h.symm⟩
    | cons q ps => simp [flatV] at h
@[reducible] def x_strconv_Itoa_sig : Sig := { ps := [none], pc := [.int .i64], rs := [none], rc := [.str] }
def itoaS (n : Int) : ByteArray := ⟨(Lib.decDigits n.toNat).toArray⟩
def x_strconv_Itoa_f (n : Ts x_strconv_Itoa_sig.pc) : Option (Ts x_strconv_Itoa_sig.rc) := if (0 : Int) ≤ n ∧ (n : Int) < 100 then some (itoaS n) else none
theorem x_strconv_Itoa_ent : Entb Tryz.prog 73 := ⟨Tryz.f73, by kernel_rfl, by kernel_rfl, by kernel_rfl⟩
theorem x_strconv_Itoa_ok : CtrOk Tryz.prog 73 ⟨x_strconv_Itoa_sig, x_strconv_Itoa_f⟩ := by
  intro w okc args bx x r hI hA hr
  obtain ⟨rfl, fl, h1, h2⟩ := (show bx = none ∧ ∃ fl, flatV [none] args.toList = some fl ∧ F2 (V1 (av w okc)) [PV.int .i64 x] fl from hA)
  obtain ⟨p, h3, rfl⟩ := flatV_one h1
  cases h2 with
  | cons hp _ =>
    have hp : p = .int .i64 x := hp
    subst hp
    have hx : (if (0 : Int) ≤ x ∧ (x : Int) < 100 then some (itoaS x) else none) = some r := hr
    split at hx
    · rename_i hc
      injection hx with hx
      subst hx
      have hargs : args = #[.int .i64 ((x : Int).toNat : Int)] := by
        apply Array.ext'
        rw [h3, Int.toNat_of_nonneg hc.1]
      rw [hargs]
      refine (Tryz.strconv_Itoa_small (x : Int).toNat (by have h5 : (0 : Int) ≤ x := hc.1; have h6 : (x : Int) < 100 := hc.2; exact (Int.toNat_lt h5).2 h6) w).mono ?_
      rintro e w' ⟨rfl, rfl⟩
      exact ⟨_, rfl, ⟨[.string (itoaS x)], fun _ => False, ⟨_, rfl, rfl⟩, fun i j u u' g hu => by simp [rowsV] at hu, fun k h => h, (fun h => Bool.noConfusion (show (false : Bool) = true from h)), [.string (itoaS x)], rfl, rfl⟩, Kp.refl _ _ _⟩
    · cases hx
end FN

set_option linter.unusedVariables false
namespace FN
open Go Go.Proofs
/-! loop.example/firingnets/spec.l1Number -/
@[reducible] def s_l1Number_sig : Sig := { ps := [none], pc := [.int .i64], rs := [none], rc := [.str] }
noncomputable def s_l1Number_E (g : Ts s_l1Number_sig.pc → Option (Ts s_l1Number_sig.rc)) : Env' := { fn := fun f => if f = 64 then some ⟨s_l1Number_sig, g⟩ else none, ck := ckT, cuts := [], mine := fun i => false }
noncomputable def s_l1Number_g (n : Nat) : Ts s_l1Number_sig.pc → Option (Ts s_l1Number_sig.rc) := Nat.rec (fun _ => none) (fun _ ih x => runFn Tryz.prog (s_l1Number_E ih) Tryz.f64 s_l1Number_sig x) n
theorem s_l1Number_g_eq (n : Nat) (x0 : (Int)) : s_l1Number_g (n + 1) x0 = (cond ((decide (x0 < 10))) (some (strOfNums ([(IntKind.u8.wrap (IntKind.i64.wrap (48 + (if 0 > x0 then 0 else x0))))] : List (Int)))) (Option.bind (s_l1Number_g n (IntKind.i64.wrap (Int.tdiv x0 10))) fun r1 => (if ByteArray.size r1 + ByteArray.size (strOfNums ([(IntKind.u8.wrap (IntKind.i64.wrap (48 + (Int.tmod x0 10))))] : List (Int))) ≤ 9223372036854775807 then (some (r1 ++ (strOfNums ([(IntKind.u8.wrap (IntKind.i64.wrap (48 + (Int.tmod x0 10))))] : List (Int))))) else none))) := by
  refine Eq.trans (b := (cond ((decide (x0 < 10))) (some (strOfNums ([(IntKind.u8.wrap (IntKind.i64.wrap (48 + (if 0 > x0 then 0 else x0))))] : List (Int)))) (same [(Option.bind (s_l1Number_g n (IntKind.i64.wrap (Int.tdiv x0 10))) fun r1 => (if ByteArray.size r1 + ByteArray.size (strOfNums ([(IntKind.u8.wrap (IntKind.i64.wrap (48 + (Int.tmod x0 10))))] : List (Int))) ≤ 9223372036854775807 then (some (r1 ++ (strOfNums ([(IntKind.u8.wrap (IntKind.i64.wrap (48 + (Int.tmod x0 10))))] : List (Int))))) else none)), (same [(Option.bind (s_l1Number_g n (IntKind.i64.wrap (Int.tdiv x0 10))) fun r1 => (if ByteArray.size r1 + ByteArray.size (strOfNums ([(IntKind.u8.wrap (IntKind.i64.wrap (48 + (Int.tmod x0 10))))] : List (Int))) ≤ 9223372036854775807 then (some (r1 ++ (strOfNums ([(IntKind.u8.wrap (IntKind.i64.wrap (48 + (Int.tmod x0 10))))] : List (Int))))) else none)), (Option.bind (s_l1Number_g n (IntKind.i64.wrap (Int.tdiv x0 10))) fun r1 => (if ByteArray.size r1 + ByteArray.size (strOfNums ([(IntKind.u8.wrap (IntKind.i64.wrap (48 + (Int.tmod x0 10))))] : List (Int))) ≤ 9223372036854775807 then (some (r1 ++ (strOfNums ([(IntKind.u8.wrap (IntKind.i64.wrap (48 + (Int.tmod x0 10))))] : List (Int))))) else none))])]))) (by kernel_rfl) ?_
  simp only [same2, same3, same4, same5, same6, obind_ite]
noncomputable def s_l1Number_f (x : Ts s_l1Number_sig.pc) : Option (Ts s_l1Number_sig.rc) := lim fun n => s_l1Number_g n x
theorem s_l1Number_ent : Entb Tryz.prog 64 := ⟨Tryz.f64, by kernel_rfl, by kernel_rfl, by kernel_rfl⟩
theorem s_l1Number_gok : ∀ n, CtrOk Tryz.prog 64 ⟨s_l1Number_sig, s_l1Number_g n⟩
  | 0 => fun _ _ _ _ _ _ _ _ h => by cases h
  | n + 1 => ctr_of (fn := Tryz.f64) (by kernel_rfl) (by kernel_rfl) (fun _ : Ts s_l1Number_sig.pc => s_l1Number_E (s_l1Number_g n)) (fun _ => ⟨(fn_cons ⟨s_l1Number_gok n, s_l1Number_ent⟩ fn_none), clo_none, wr_none⟩) (fun h => by cases h) follows_ (fun _ _ => trivial)
theorem s_l1Number_ok : CtrOk Tryz.prog 64 ⟨s_l1Number_sig, s_l1Number_f⟩ := fun w okc args bx x r hI hA hr => by
  obtain ⟨n, hn⟩ := lim_some (g := fun n => s_l1Number_g n x) hr
  exact s_l1Number_gok n w okc args bx x r hI hA hn
end FN

set_option linter.unusedVariables false
namespace FN
open Go Go.Proofs
/-! loop.example/firingnets/spec.DeedText -/
@[reducible] def s_DeedText_sig : Sig := { ps := [some 3], pc := [.int .i64, .int .i64, .int .i64], rs := [none], rc := [.str] }
noncomputable def s_DeedText_E : Env' := { fn := fun f => if f = 64 then some ⟨s_l1Number_sig, s_l1Number_f⟩ else if f = 111 then some ⟨s_l1In_sig, s_l1In_f⟩ else none, ck := ckT, cuts := [], mine := fun i => false }
noncomputable def s_DeedText_f (x : Ts s_DeedText_sig.pc) : Option (Ts s_DeedText_sig.rc) := runFn Tryz.prog (s_DeedText_E) Tryz.f65 s_DeedText_sig x
theorem s_DeedText_f_eq (x0 : (Int)) (x1 : (Int)) (x2 : (Int)) : s_DeedText_f (x0, x1, x2) = (Option.bind (s_l1In_f (x1, 0, 99)) fun r1 => (cond ((!r1)) (some ByteArray.empty) (Option.bind (s_l1In_f (x2, 0, 99)) fun r2 => (cond ((!r2)) (some ByteArray.empty) (cond (((x0 == 0) && ((x1 == x1) && ((x2 == x2) && true)))) (Option.bind (s_l1Number_f x1) fun r3 => (if ByteArray.size str0 + ByteArray.size r3 ≤ 9223372036854775807 then (if ByteArray.size (str0 ++ r3) + ByteArray.size str1 ≤ 9223372036854775807 then (Option.bind (s_l1Number_f x2) fun r4 => (if ByteArray.size ((str0 ++ r3) ++ str1) + ByteArray.size r4 ≤ 9223372036854775807 then (some (((str0 ++ r3) ++ str1) ++ r4)) else none)) else none) else none)) (cond (((x0 == 1) && ((x1 == x1) && ((x2 == 0) && true)))) (Option.bind (s_l1Number_f x1) fun r5 => (if ByteArray.size str2 + ByteArray.size r5 ≤ 9223372036854775807 then (some (str2 ++ r5)) else none)) (cond (((x0 == 3) && ((x1 == x1) && ((x2 == 0) && true)))) (Option.bind (s_l1Number_f x1) fun r6 => (if ByteArray.size str3 + ByteArray.size r6 ≤ 9223372036854775807 then (some (str3 ++ r6)) else none)) (cond (((x0 == 2) && ((x1 == 0) && ((x2 == 0) && true)))) (some str4) (cond (((x0 == 4) && ((x1 == 0) && ((x2 == 0) && true)))) (some str5) (some ByteArray.empty)))))))))) := by
  kernel_rfl
theorem s_DeedText_ent : Entb Tryz.prog 65 := ⟨Tryz.f65, by kernel_rfl, by kernel_rfl, by kernel_rfl⟩
theorem s_DeedText_ok : CtrOk Tryz.prog 65 ⟨s_DeedText_sig, s_DeedText_f⟩ :=
  ctr_of (fn := Tryz.f65) (by kernel_rfl) (by kernel_rfl) (fun x : Ts s_DeedText_sig.pc => s_DeedText_E) (fun x => ⟨(fn_cons ⟨s_l1Number_ok, s_l1Number_ent⟩ (fn_cons ⟨s_l1In_ok, s_l1In_ent⟩ fn_none)), clo_none, wr_none⟩) (fun h => by cases h) follows_ (fun _ _ => trivial)
end FN

set_option linter.unusedVariables false
namespace FN
open Go Go.Proofs
/-! loop.example/firingnets/impl.DeedText -/
@[reducible] def i_DeedText_sig : Sig := { ps := [some 3], pc := [.int .i64, .int .i64, .int .i64], rs := [none], rc := [.str] }
noncomputable def i_DeedText_E : Env' := { fn := fun f => if f = 73 then some ⟨x_strconv_Itoa_sig, x_strconv_Itoa_f⟩ else none, ck := ckT, cuts := [], mine := fun i => false }
noncomputable def i_DeedText_f (x : Ts i_DeedText_sig.pc) : Option (Ts i_DeedText_sig.rc) := runFn Tryz.prog (i_DeedText_E) Tryz.f68 i_DeedText_sig x
theorem i_DeedText_f_eq (x0 : (Int)) (x1 : (Int)) (x2 : (Int)) : i_DeedText_f (x0, x1, x2) = (cond ((decide (x1 < 0))) (some ByteArray.empty) (cond ((decide (99 < x1))) (some ByteArray.empty) (cond ((decide (x2 < 0))) (some ByteArray.empty) (cond ((decide (99 < x2))) (some ByteArray.empty) (Option.bind (x_strconv_Itoa_f x1) fun r1 => (if ByteArray.size str1 + ByteArray.size r1 ≤ 9223372036854775807 then (cond ((x0 == 0)) (if ByteArray.size str10 + ByteArray.size (str1 ++ r1) ≤ 9223372036854775807 then (if ByteArray.size (str10 ++ (str1 ++ r1)) + ByteArray.size str1 ≤ 9223372036854775807 then (Option.bind (x_strconv_Itoa_f x2) fun r2 => (if ByteArray.size ((str10 ++ (str1 ++ r1)) ++ str1) + ByteArray.size r2 ≤ 9223372036854775807 then (some (((str10 ++ (str1 ++ r1)) ++ str1) ++ r2)) else none)) else none) else none) (cond ((x2 != 0)) (some ByteArray.empty) (cond ((x0 == 1)) (if ByteArray.size str11 + ByteArray.size (str1 ++ r1) ≤ 9223372036854775807 then (some (str11 ++ (str1 ++ r1))) else none) (cond ((x0 == 3)) (if ByteArray.size str12 + ByteArray.size (str1 ++ r1) ≤ 9223372036854775807 then (some (str12 ++ (str1 ++ r1))) else none) (cond ((x1 != 0)) (some ByteArray.empty) (cond ((x0 == 2)) (some str4) (cond ((x0 == 4)) (some str5) (some ByteArray.empty)))))))) else none)))))) := by
  kernel_rfl
theorem i_DeedText_ent : Entb Tryz.prog 68 := ⟨Tryz.f68, by kernel_rfl, by kernel_rfl, by kernel_rfl⟩
theorem i_DeedText_ok : CtrOk Tryz.prog 68 ⟨i_DeedText_sig, i_DeedText_f⟩ :=
  ctr_of (fn := Tryz.f68) (by kernel_rfl) (by kernel_rfl) (fun x : Ts i_DeedText_sig.pc => i_DeedText_E) (fun x => ⟨(fn_cons ⟨x_strconv_Itoa_ok, x_strconv_Itoa_ent⟩ fn_none), clo_none, wr_none⟩) (fun h => by cases h) follows_ (fun _ _ => trivial)
end FN

/-! strings.Join: the shelf's contract, as one of ours. -/
namespace FN
open Go Go.Proofs Go.RowKit
theorem flatV_two {l fl : List Value} (h : flatV [none, none] l = some fl) : ∃ p q, l = [p, q] ∧ fl = [p, q] := by
  cases l with
  | nil => simp [flatV] at h
  | cons p ps =>
    simp only [flatV] at h
    obtain ⟨fl', h1, h2⟩ := Option.map_eq_some_iff.1 h
    obtain ⟨q, rfl, rfl⟩ := flatV_one h1
    exact ⟨p, q, rfl, h2.symm⟩
@[reducible] def x_strings_Join_sig : Sig := { ps := [none, none], pc := [.view .str, .str], rs := [none], rc := [.str] }
def joinS (xs : List ByteArray) (sep : ByteArray) : ByteArray := ⟨(Lib.join (xs.map (·.data.toList)) sep.data.toList).toArray⟩
def x_strings_Join_f (x : Ts x_strings_Join_sig.pc) : Option (Ts x_strings_Join_sig.rc) := if x.1.length ≤ 140737488355328 ∧ (joinS x.1 x.2).size ≤ 140737488355328 then some (joinS x.1 x.2) else none
theorem x_strings_Join_f_eq (xs : List ByteArray) (sep : ByteArray) : x_strings_Join_f (xs, sep) = if xs.length ≤ 140737488355328 ∧ (joinS xs sep).size ≤ 140737488355328 then some (joinS xs sep) else none := rfl
theorem x_strings_Join_ent : Entb Tryz.prog 108 := ⟨Tryz.f108, by kernel_rfl, by kernel_rfl, by kernel_rfl⟩
theorem kp_below {pin : Pn} {w w' : World} (h : Below w.heap.size w w') : Kp pin w.heap.size w w' := ⟨h.os, h.tape, h.output, h.size, fun k hk _ => h.block k hk⟩
theorem x_strings_Join_ok : CtrOk Tryz.prog 108 ⟨x_strings_Join_sig, x_strings_Join_f⟩ := by
  intro w okc args bx x r hI hA hr
  obtain ⟨rfl, fl, h1, h2⟩ := (show bx = none ∧ ∃ fl, flatV [none, none] args.toList = some fl ∧ F2 (V1 (av w okc)) [PV.row false .str x.1, PV.str x.2] fl from hA)
  obtain ⟨p, q, h3, rfl⟩ := flatV_two h1
  have hx : (if x.1.length ≤ 140737488355328 ∧ (joinS x.1 x.2).size ≤ 140737488355328 then some (joinS x.1 x.2) else none) = some r := hr
  split at hx
  · rename_i hc
    injection hx with hx
    subst hx
    cases h2 with
    | cons hp h2 => cases h2 with
      | cons hq _ =>
        have hq : q = .string x.2 := hq
        subst hq
        obtain ⟨A, cp, rfl, hle, hmx, hne⟩ := (show SlR w ((av w okc).okf false) .str x.1 p from hp)
        have hargs : args = #[.slice A x.1.length cp, .string x.2] := by apply Array.ext'; rw [h3]
        have fin : ∀ w', Below w.heap.size w w' → ∃ v, (Ending.returned (.string (joinS x.1 x.2)) : Ending) = .returned v ∧ RetR x_strings_Join_sig w w' okc none (joinS x.1 x.2) v ∧ Kp ⟨fun k => ∃ b, (none : Option (Nat × List Int)) = some (k, b), fun _ => True⟩ w.heap.size w w' := fun w' hb =>
          ⟨_, rfl, ⟨[.string (joinS x.1 x.2)], fun _ => False, ⟨_, rfl, rfl⟩, fun i j u u' g hu => by simp [rowsV] at hu, fun k h => h, (fun h => Bool.noConfusion (show (false : Bool) = true from h)), [.string (joinS x.1 x.2)], rfl, rfl⟩, kp_below hb⟩
        by_cases h0 : x.1 = []
        · have hz : x.1.length = 0 := by rw [h0]; rfl
          have hj : joinS x.1 x.2 = ⟨#[]⟩ := by rw [h0]; rfl
          rw [hargs, hz]
          refine (Tryz.strings_Join_none A cp x.2 w).mono ?_
          rintro e w' ⟨rfl, rfl⟩
          have := fin w' (Below.refl _ _)
          rw [hj] at this ⊢
          exact this
        · obtain ⟨ad, rfl, _, hlt, hcell⟩ := hne h0
          have hs : ad.spot = none := by
            have hpos : 0 < x.1.length := List.length_pos_iff.2 h0
            obtain ⟨cs, e1, e2⟩ := hcell 0 _ (List.getElem?_eq_getElem hpos)
            have e1 : cs = [.string (x.1[0])] := e1
            have := e2 0 (.string (x.1[0])) (by rw [e1]; rfl)
            have h5 : w.cell? ad = some (.string (x.1[0])) := this
            unfold World.cell? at h5
            split at h5
            · split at h5
              · cases h5
              · rename_i hh; simpa using hh
            · cases h5
          obtain ⟨bk, o, sp⟩ := ad
          simp only at hs
          subst hs
          rw [hargs]
          refine (Tryz.strings_Join bk o cp x.1 x.2 w (fun j y hy => ?_) hlt hc.1 hle (by simpa [joinS, ByteArray.size] using hc.2)).mono ?_
          · obtain ⟨cs, e1, e2⟩ := hcell j y hy
            have e1 : cs = [.string y] := e1
            have := e2 0 (.string y) (by rw [e1]; rfl)
            have h6 : w.cell? ((⟨bk, o, none⟩ : Addr).add (j * 1 + 0)) = some (.string y) := this
            rw [Nat.mul_one, Nat.add_zero, show (⟨bk, o, none⟩ : Addr).add j = ⟨bk, o + j, none⟩ by unfold Addr.add; split <;> simp_all] at h6
            exact h6
          · rintro e w' ⟨rfl, hb⟩
            exact fin w' hb
  · cases hx
end FN

namespace FN
open Go Go.Proofs Go.RowKit
def splitS (s sep : ByteArray) : List ByteArray := Lib.splitB sep 0 (Lib.countB s sep) s
@[reducible] def x_strings_Split_sig : Sig := { ps := [none, none], pc := [.str, .str], rs := [none], rc := [.row 9 .str] }
def x_strings_Split_f (x : Ts x_strings_Split_sig.pc) : Option (Ts x_strings_Split_sig.rc) := if x.1.size < 4294967281 ∧ 1 ≤ x.2.size ∧ Lib.countB x.1 x.2 + 1 = (splitS x.1 x.2).length ∧ (splitS x.1 x.2).length ≤ maxLen then some (splitS x.1 x.2) else none
theorem x_strings_Split_ent : Entb Tryz.prog 58 := ⟨Tryz.f58, by kernel_rfl, by kernel_rfl, by kernel_rfl⟩
theorem split_ok (hG : ∀ w, Gl.I w → ∃ m, w.cell? ⟨2, 0, none⟩ = some (.int .i64 m)) : CtrOk Tryz.prog 58 ⟨x_strings_Split_sig, x_strings_Split_f⟩ := by
  intro w okc args bx x r hI hA hr
  obtain ⟨rfl, fl, h1, h2⟩ := (show bx = none ∧ ∃ fl, flatV [none, none] args.toList = some fl ∧ F2 (V1 (av w okc)) [PV.str x.1, PV.str x.2] fl from hA)
  obtain ⟨p, q, h3, rfl⟩ := flatV_two h1
  have hx : (if x.1.size < 4294967281 ∧ 1 ≤ x.2.size ∧ Lib.countB x.1 x.2 + 1 = (splitS x.1 x.2).length ∧ (splitS x.1 x.2).length ≤ maxLen then some (splitS x.1 x.2) else none) = some r := hr
  obtain ⟨m, hm⟩ := hG w hI
  split at hx
  · rename_i hc
    obtain ⟨c1, c2, c3, c4⟩ := hc
    injection hx with hx
    subst hx
    cases h2 with
    | cons hp h2 => cases h2 with
      | cons hq _ =>
        have hp : p = .string x.1 := hp
        have hq : q = .string x.2 := hq
        subst hp; subst hq
        have hargs : args = #[.string x.1, .string x.2] := by apply Array.ext'; rw [h3]
        rw [hargs]
        refine (Tryz.strings_Split x.1 x.2 m w c1 hm c2).mono ?_
        rintro e w' ⟨rfl, rfl⟩
        rw [c3]
        refine ⟨_, rfl, ⟨[.slice (some ⟨w.heap.size, 0, none⟩) (splitS x.1 x.2).length (splitS x.1 x.2).length], fun _ => False, ⟨_, rfl, ((splitS x.1 x.2).map Value.string), ⟨by simp [CK.sz], .inr ⟨w.heap.size, _, _, rfl, Nat.le_refl _, heap_alloc_new w _, Nat.le_refl _, c4, by simp [CK.sz, splitS], by simp only [CK.sz, Nat.mul_one, splitS]; exact List.take_of_length_le (by simp)⟩⟩, fun j y hj => ?_⟩, fun i j u u' g hu hu' _ _ => ?_, fun k h => h, (fun h => Bool.noConfusion (show (false : Bool) = true from h)), [.slice (some ⟨w.heap.size, 0, none⟩) (splitS x.1 x.2).length (splitS x.1 x.2).length], rfl, rfl⟩, Kp.alloc _ (Nat.le_refl _)⟩
        · refine ⟨[.string y], rfl, fun i u hi => ?_⟩
          cases i with
          | zero => simp at hi; subst hi; simp [CK.sz, hj]
          | succ i => simp at hi
        · cases i with
          | zero => cases j with
            | zero => rfl
            | succ j => simp [rowsV] at hu'
          | succ i => simp [rowsV] at hu
  · cases hx
theorem x_strings_Split_ok : CtrOk Tryz.prog 58 ⟨x_strings_Split_sig, x_strings_Split_f⟩ := split_ok fun _ h => gl_cell h
end FN

set_option linter.unusedVariables false
namespace FN
open Go Go.Proofs
/-! loop.example/firingnets/spec.l1Cut -/
@[reducible] def s_l1Cut_sig : Sig := { ps := [none, none], pc := [.str, .int .u8], rs := [none], rc := [.row 9 .str] }
noncomputable def s_l1Cut_E : Env' := { fn := fun f => none, ck := ckT, cuts := [(4, [0, 1, 5, 6, 7]), (9, [0, 5, 6])], mine := fun i => false }
noncomputable def s_l1Cut_f (x : Ts s_l1Cut_sig.pc) : Option (Ts s_l1Cut_sig.rc) := runFn Tryz.prog (s_l1Cut_E) Tryz.f86 s_l1Cut_sig x
noncomputable def s_l1Cut_l0 (y0 : ByteArray) (y1 : Int) (y2 : Int) (y3 : Int) (y4 : List (ByteArray)) : Option ((List (ByteArray))) := from_ Tryz.prog (s_l1Cut_E) Tryz.f86 s_l1Cut_sig [1, 1, 1, 0, 1, 0] ⟨mkT 35 [(0, .str y0), (1, .int .u8 y1), (5, .own 0), (6, .int .i64 y2), (7, .int .i64 y3)], [some (.arr 9 true .str y4)]⟩
noncomputable def s_l1Cut_j1 (y0 : ByteArray) (y1 : Int) (y2 : List (ByteArray)) : Option ((List (ByteArray))) := from_ Tryz.prog (s_l1Cut_E) Tryz.f86 s_l1Cut_sig [1, 1, 1, 1] ⟨mkT 35 [(0, .str y0), (5, .own 0), (6, .int .i64 y1)], [some (.arr 9 true .str y2)]⟩
theorem s_l1Cut_f_eq (x0 : (ByteArray)) (x1 : (Int)) : s_l1Cut_f (x0, x1) = (s_l1Cut_l0 x0 x1 0 0 ([] : List (ByteArray))) := by
  kernel_rfl
theorem s_l1Cut_l0_eq (y0 : ByteArray) (y1 : Int) (y2 : Int) (y3 : Int) (y4 : List (ByteArray)) : s_l1Cut_l0 y0 y1 y2 y3 y4 = (cond ((decide (y3 < (ByteArray.size y0 : Int)))) (if (0 : Int) ≤ y3 ∧ y3 < (ByteArray.size y0 : Int) then (cond ((((List.getD (ByteArray.data y0).toList (y3 : Int).toNat 0).toNat : Int) == y1)) (if (0 : Int) ≤ y3 ∧ y3 ≤ (ByteArray.size y0 : Int) then (if (0 : Int) ≤ y2 ∧ y2 ≤ y3 then (if (List.length y4 + List.length ([(ByteArray.extract y0 (y2 : Int).toNat (y3 : Int).toNat)] : List (ByteArray))) * 16 ≤ 140737488355328 then (s_l1Cut_l0 y0 y1 (IntKind.i64.wrap (y3 + 1)) (IntKind.i64.wrap (y3 + 1)) (y4 ++ ([(ByteArray.extract y0 (y2 : Int).toNat (y3 : Int).toNat)] : List (ByteArray)))) else none) else none) else none) (s_l1Cut_l0 y0 y1 y2 (IntKind.i64.wrap (y3 + 1)) y4)) else none) (s_l1Cut_j1 y0 y2 y4)) := by
  refine (loopK_eq Tryz.prog (s_l1Cut_E) (sub (Tryz.f86.body.getD .skip) [1, 1, 1, 0, 1, 0, 0]) _ _).trans ?_
  kernel_rfl
theorem s_l1Cut_j1_eq (y0 : ByteArray) (y1 : Int) (y2 : List (ByteArray)) : s_l1Cut_j1 y0 y1 y2 = (if (0 : Int) ≤ y1 ∧ y1 ≤ (ByteArray.size y0 : Int) then (if (List.length y2 + List.length ([(ByteArray.extract y0 (y1 : Int).toNat (ByteArray.size y0))] : List (ByteArray))) * 16 ≤ 140737488355328 then (some (y2 ++ ([(ByteArray.extract y0 (y1 : Int).toNat (ByteArray.size y0))] : List (ByteArray)))) else none) else none) := by
  kernel_rfl
theorem s_l1Cut_ent : Entb Tryz.prog 86 := ⟨Tryz.f86, by kernel_rfl, by kernel_rfl, by kernel_rfl⟩
theorem s_l1Cut_ok : CtrOk Tryz.prog 86 ⟨s_l1Cut_sig, s_l1Cut_f⟩ :=
  ctr_of (fn := Tryz.f86) (by kernel_rfl) (by kernel_rfl) (fun x : Ts s_l1Cut_sig.pc => s_l1Cut_E) (fun x => ⟨fn_none, clo_none, wr_none⟩) (fun h => by cases h) follows_ (fun _ _ => trivial)
end FN

set_option linter.unusedVariables false
namespace FN
open Go Go.Proofs
/-! loop.example/firingnets/spec.l1Digits -/
@[reducible] def s_l1Digits_sig : Sig := { ps := [none], pc := [.str], rs := [none], rc := [.int .i64] }
noncomputable def s_l1Digits_E : Env' := { fn := fun f => if f = 111 then some ⟨s_l1In_sig, s_l1In_f⟩ else none, ck := ckT, cuts := [(5, [0, 3, 4])], mine := fun i => false }
noncomputable def s_l1Digits_f (x : Ts s_l1Digits_sig.pc) : Option (Ts s_l1Digits_sig.rc) := runFn Tryz.prog (s_l1Digits_E) Tryz.f87 s_l1Digits_sig x
noncomputable def s_l1Digits_l0 (y0 : ByteArray) (y1 : Int) (y2 : Int) : Option ((Int)) := from_ Tryz.prog (s_l1Digits_E) Tryz.f87 s_l1Digits_sig [1, 1, 1, 0, 1, 0] ⟨mkT 44 [(0, .str y0), (3, .int .i64 y1), (4, .int .i64 y2)], []⟩
theorem s_l1Digits_f_eq (x0 : (ByteArray)) : s_l1Digits_f x0 = (Option.bind (s_l1In_f ((ByteArray.size x0 : Int), 1, 6)) fun r1 => (cond ((!r1)) (some (-1)) (cond ((decide (1 < (ByteArray.size x0 : Int)))) (if (0 : Int) ≤ 0 ∧ 0 < (ByteArray.size x0 : Int) then (cond ((((List.getD (ByteArray.data x0).toList (0 : Int).toNat 0).toNat : Int) == 48)) (some (-1)) (s_l1Digits_l0 x0 0 0)) else none) (s_l1Digits_l0 x0 0 0)))) := by
  kernel_rfl
theorem s_l1Digits_l0_eq (y0 : ByteArray) (y1 : Int) (y2 : Int) : s_l1Digits_l0 y0 y1 y2 = (cond ((decide (y2 < (ByteArray.size y0 : Int)))) (if (0 : Int) ≤ y2 ∧ y2 < (ByteArray.size y0 : Int) then (cond ((decide (((List.getD (ByteArray.data y0).toList (y2 : Int).toNat 0).toNat : Int) < 48))) (some (-1)) (if (0 : Int) ≤ y2 ∧ y2 < (ByteArray.size y0 : Int) then (cond ((decide (57 < ((List.getD (ByteArray.data y0).toList (y2 : Int).toNat 0).toNat : Int)))) (some (-1)) (if (0 : Int) ≤ y2 ∧ y2 < (ByteArray.size y0 : Int) then (s_l1Digits_l0 y0 (IntKind.i64.wrap ((IntKind.i64.wrap (10 * y1)) + (IntKind.i64.wrap (IntKind.u8.wrap (((List.getD (ByteArray.data y0).toList (y2 : Int).toNat 0).toNat : Int) - 48))))) (IntKind.i64.wrap (y2 + 1))) else none)) else none)) else none) (some y1)) := by
  refine (loopK_eq Tryz.prog (s_l1Digits_E) (sub (Tryz.f87.body.getD .skip) [1, 1, 1, 0, 1, 0, 0]) _ _).trans ?_
  kernel_rfl
theorem s_l1Digits_ent : Entb Tryz.prog 87 := ⟨Tryz.f87, by kernel_rfl, by kernel_rfl, by kernel_rfl⟩
theorem s_l1Digits_ok : CtrOk Tryz.prog 87 ⟨s_l1Digits_sig, s_l1Digits_f⟩ :=
  ctr_of (fn := Tryz.f87) (by kernel_rfl) (by kernel_rfl) (fun x : Ts s_l1Digits_sig.pc => s_l1Digits_E) (fun x => ⟨(fn_cons ⟨s_l1In_ok, s_l1In_ent⟩ fn_none), clo_none, wr_none⟩) (fun h => by cases h) follows_ (fun _ _ => trivial)
end FN

set_option linter.unusedVariables false
namespace FN
open Go Go.Proofs
/-! loop.example/firingnets/impl.NetOk -/
@[reducible] def i_NetOk_sig : Sig := { ps := [none], pc := [.view .i64], rs := [none], rc := [.bool] }
noncomputable def i_NetOk_E : Env' := { fn := fun f => none, ck := ckT, cuts := [(4, [0, 14, 15, 16]), (9, [0, 3, 4, 14, 15, 16, 38, 39])], mine := fun i => false }
noncomputable def i_NetOk_f (x : Ts i_NetOk_sig.pc) : Option (Ts i_NetOk_sig.rc) := runFn Tryz.prog (i_NetOk_E) Tryz.f43 i_NetOk_sig x
noncomputable def i_NetOk_l0 (y0 : List (Int)) (y1 : List (Int)) (y2 : Int) (y3 : Int) : Option ((Bool)) := from_ Tryz.prog (i_NetOk_E) Tryz.f43 i_NetOk_sig [1, 1, 0, 1, 0] ⟨mkT 56 [(0, .row false .i64 y0), (14, .row false .i64 y1), (15, .int .i64 y2), (16, .int .i64 y3)], []⟩
noncomputable def i_NetOk_l1 (y0 : List (Int)) (y1 : Int) (y2 : Int) (y3 : List (Int)) (y4 : Int) (y5 : Int) (y6 : Int) (y7 : Int) : Option ((Bool)) := from_ Tryz.prog (i_NetOk_E) Tryz.f43 i_NetOk_sig [1, 1, 0, 1, 0, 0, 1, 1, 0, 0, 1, 1, 1, 0] ⟨mkT 56 [(0, .row false .i64 y0), (3, .int .i64 y1), (4, .int .i64 y2), (14, .row false .i64 y3), (15, .int .i64 y4), (16, .int .i64 y5), (38, .int .i64 y6), (39, .int .i64 y7)], []⟩
theorem i_NetOk_f_eq (x0 : (List (Int))) : i_NetOk_f x0 = (cond ((decide ((List.length x0 : Int) < 1))) (some false) (cond ((decide (6 < (List.length x0 : Int)))) (some false) (i_NetOk_l0 x0 x0 (List.length x0 : Int) 0))) := by
  kernel_rfl
theorem i_NetOk_l0_eq (y0 : List (Int)) (y1 : List (Int)) (y2 : Int) (y3 : Int) : i_NetOk_l0 y0 y1 y2 y3 = (cond ((decide (y3 < y2))) (if (0 : Int) ≤ y3 ∧ y3 < (List.length y1 : Int) then (cond ((decide ((List.getD y1 (y3 : Int).toNat 0) < 0))) (some false) (if (List.length y0 : Int) < 0 then none else (cond ((decide ((IntKind.i64.wrap (1 * 2 ^ min ((List.length y0 : Int) : Int).toNat IntKind.i64.bits)) ≤ (List.getD y1 (y3 : Int).toNat 0)))) (some false) (if y3 < 0 then none else (cond (((Go.bits .and IntKind.i64 (Int.fdiv (List.getD y1 (y3 : Int).toNat 0) (2 ^ min (y3 : Int).toNat IntKind.i64.bits)) 1) == 1)) (some false) (i_NetOk_l1 y0 y3 (List.getD y1 (y3 : Int).toNat 0) y1 y2 y3 (List.length y0 : Int) 0)))))) else none) (some true)) := by
  refine (loopK_eq Tryz.prog (i_NetOk_E) (sub (Tryz.f43.body.getD .skip) [1, 1, 0, 1, 0, 0]) _ _).trans ?_
  kernel_rfl
theorem i_NetOk_l1_eq (y0 : List (Int)) (y1 : Int) (y2 : Int) (y3 : List (Int)) (y4 : Int) (y5 : Int) (y6 : Int) (y7 : Int) : i_NetOk_l1 y0 y1 y2 y3 y4 y5 y6 y7 = (cond ((decide (y7 < y6))) (if y7 < 0 then none else (if (0 : Int) ≤ y7 ∧ y7 < (List.length y0 : Int) then (if y1 < 0 then none else (cond (((Go.bits .and IntKind.i64 (Int.fdiv y2 (2 ^ min (y7 : Int).toNat IntKind.i64.bits)) 1) != (Go.bits .and IntKind.i64 (Int.fdiv (List.getD y0 (y7 : Int).toNat 0) (2 ^ min (y1 : Int).toNat IntKind.i64.bits)) 1))) (some false) (i_NetOk_l1 y0 y1 y2 y3 y4 y5 y6 (IntKind.i64.wrap (y7 + 1))))) else none)) (i_NetOk_l0 y0 y3 y4 (IntKind.i64.wrap (y5 + 1)))) := by
  refine (loopK_eq Tryz.prog (i_NetOk_E) (sub (Tryz.f43.body.getD .skip) [1, 1, 0, 1, 0, 0, 1, 1, 0, 0, 1, 1, 1, 0, 0]) _ _).trans ?_
  kernel_rfl
theorem i_NetOk_ent : Entb Tryz.prog 43 := ⟨Tryz.f43, by kernel_rfl, by kernel_rfl, by kernel_rfl⟩
theorem i_NetOk_ok : CtrOk Tryz.prog 43 ⟨i_NetOk_sig, i_NetOk_f⟩ :=
  ctr_of (fn := Tryz.f43) (by kernel_rfl) (by kernel_rfl) (fun x : Ts i_NetOk_sig.pc => i_NetOk_E) (fun x => ⟨fn_none, clo_none, wr_none⟩) (fun h => by cases h) follows_ (fun _ _ => trivial)
end FN

set_option linter.unusedVariables false
namespace FN
open Go Go.Proofs
/-! loop.example/firingnets/impl.StateOk -/
@[reducible] def i_StateOk_sig : Sig := { ps := [none, none], pc := [.int .i64, .view .i64], rs := [none], rc := [.bool] }
noncomputable def i_StateOk_E : Env' := { fn := fun f => none, ck := ckT, cuts := [(2, [0, 1, 7, 8, 9]), (7, [0, 1])], mine := fun i => false }
noncomputable def i_StateOk_f (x : Ts i_StateOk_sig.pc) : Option (Ts i_StateOk_sig.rc) := runFn Tryz.prog (i_StateOk_E) Tryz.f119 i_StateOk_sig x
noncomputable def i_StateOk_l0 (y0 : Int) (y1 : List (Int)) (y2 : List (Int)) (y3 : Int) (y4 : Int) : Option ((Bool)) := from_ Tryz.prog (i_StateOk_E) Tryz.f119 i_StateOk_sig [1, 0, 1, 0] ⟨mkT 37 [(0, .int .i64 y0), (1, .row false .i64 y1), (7, .row false .i64 y2), (8, .int .i64 y3), (9, .int .i64 y4)], []⟩
noncomputable def i_StateOk_j1 (y0 : Int) (y1 : List (Int)) : Option ((Bool)) := from_ Tryz.prog (i_StateOk_E) Tryz.f119 i_StateOk_sig [1, 1] ⟨mkT 37 [(0, .int .i64 y0), (1, .row false .i64 y1)], []⟩
theorem i_StateOk_f_eq (x0 : (Int)) (x1 : (List (Int))) : i_StateOk_f (x0, x1) = (i_StateOk_l0 x0 x1 x1 (List.length x1 : Int) 0) := by
  kernel_rfl
theorem i_StateOk_l0_eq (y0 : Int) (y1 : List (Int)) (y2 : List (Int)) (y3 : Int) (y4 : Int) : i_StateOk_l0 y0 y1 y2 y3 y4 = (cond ((decide (y4 < y3))) (if (0 : Int) ≤ y4 ∧ y4 < (List.length y2 : Int) then (cond ((decide ((List.getD y2 (y4 : Int).toNat 0) < 0))) (some false) (cond ((decide (y0 ≤ (List.getD y2 (y4 : Int).toNat 0)))) (some false) (i_StateOk_l0 y0 y1 y2 y3 (IntKind.i64.wrap (y4 + 1))))) else none) (i_StateOk_j1 y0 y1)) := by
  refine (loopK_eq Tryz.prog (i_StateOk_E) (sub (Tryz.f119.body.getD .skip) [1, 0, 1, 0, 0]) _ _).trans ?_
  kernel_rfl
theorem i_StateOk_j1_eq (y0 : Int) (y1 : List (Int)) : i_StateOk_j1 y0 y1 = (cond ((decide (3 ≤ y0))) (cond ((decide (y0 ≤ 5))) (cond ((decide (1 ≤ (List.length y1 : Int)))) (some (decide ((List.length y1 : Int) ≤ 6))) (some false)) (some false)) (some false)) := by
  kernel_rfl
theorem i_StateOk_ent : Entb Tryz.prog 119 := ⟨Tryz.f119, by kernel_rfl, by kernel_rfl, by kernel_rfl⟩
theorem i_StateOk_ok : CtrOk Tryz.prog 119 ⟨i_StateOk_sig, i_StateOk_f⟩ :=
  ctr_of (fn := Tryz.f119) (by kernel_rfl) (by kernel_rfl) (fun x : Ts i_StateOk_sig.pc => i_StateOk_E) (fun x => ⟨fn_none, clo_none, wr_none⟩) (fun h => by cases h) follows_ (fun _ _ => trivial)
end FN

set_option linter.unusedVariables false
namespace FN
open Go Go.Proofs
/-! loop.example/firingnets/impl.asked -/
@[reducible] def i_asked_sig : Sig := { ps := [none, none, none], pc := [.view .i64, .int .i64, .view .i64], rs := [none], rc := [.bool] }
noncomputable def i_asked_E : Env' := { fn := fun f => if f = 43 then some ⟨i_NetOk_sig, i_NetOk_f⟩ else if f = 119 then some ⟨i_StateOk_sig, i_StateOk_f⟩ else none, ck := ckT, cuts := [], mine := fun i => false }
noncomputable def i_asked_f (x : Ts i_asked_sig.pc) : Option (Ts i_asked_sig.rc) := runFn Tryz.prog (i_asked_E) Tryz.f101 i_asked_sig x
theorem i_asked_f_eq (x0 : (List (Int))) (x1 : (Int)) (x2 : (List (Int))) : i_asked_f (x0, x1, x2) = (Option.bind (i_NetOk_f x0) fun r1 => (cond (r1) (Option.bind (i_StateOk_f (x1, x2)) fun r2 => (cond (r2) (some ((List.length x0 : Int) == (List.length x2 : Int))) (some false))) (some false))) := by
  kernel_rfl
theorem i_asked_ent : Entb Tryz.prog 101 := ⟨Tryz.f101, by kernel_rfl, by kernel_rfl, by kernel_rfl⟩
theorem i_asked_ok : CtrOk Tryz.prog 101 ⟨i_asked_sig, i_asked_f⟩ :=
  ctr_of (fn := Tryz.f101) (by kernel_rfl) (by kernel_rfl) (fun x : Ts i_asked_sig.pc => i_asked_E) (fun x => ⟨(fn_cons ⟨i_NetOk_ok, i_NetOk_ent⟩ (fn_cons ⟨i_StateOk_ok, i_StateOk_ent⟩ fn_none)), clo_none, wr_none⟩) (fun h => by cases h) follows_ (fun _ _ => trivial)
end FN

set_option linter.unusedVariables false
namespace FN
open Go Go.Proofs
/-! loop.example/firingnets/impl.PlaceOk -/
@[reducible] def i_PlaceOk_sig : Sig := { ps := [some 3], pc := [.view .i64, .int .i64, .view .i64], rs := [none], rc := [.bool] }
noncomputable def i_PlaceOk_E : Env' := { fn := fun f => if f = 101 then some ⟨i_asked_sig, i_asked_f⟩ else none, ck := ckT, cuts := [], mine := fun i => false }
noncomputable def i_PlaceOk_f (x : Ts i_PlaceOk_sig.pc) : Option (Ts i_PlaceOk_sig.rc) := runFn Tryz.prog (i_PlaceOk_E) Tryz.f44 i_PlaceOk_sig x
theorem i_PlaceOk_f_eq (x0 : (List (Int))) (x1 : (Int)) (x2 : (List (Int))) : i_PlaceOk_f (x0, x1, x2) = (Option.bind (i_asked_f (x0, x1, x2)) fun r1 => (some r1)) := by
  kernel_rfl
theorem i_PlaceOk_ent : Entb Tryz.prog 44 := ⟨Tryz.f44, by kernel_rfl, by kernel_rfl, by kernel_rfl⟩
theorem i_PlaceOk_ok : CtrOk Tryz.prog 44 ⟨i_PlaceOk_sig, i_PlaceOk_f⟩ :=
  ctr_of (fn := Tryz.f44) (by kernel_rfl) (by kernel_rfl) (fun x : Ts i_PlaceOk_sig.pc => i_PlaceOk_E) (fun x => ⟨(fn_cons ⟨i_asked_ok, i_asked_ent⟩ fn_none), clo_none, wr_none⟩) (fun h => by cases h) follows_ (fun _ _ => trivial)
end FN

set_option linter.unusedVariables false
namespace FN
open Go Go.Proofs
/-! loop.example/firingnets/spec.NetOk -/
@[reducible] def s_NetOk_sig : Sig := { ps := [none], pc := [.view .i64], rs := [none], rc := [.bool] }
noncomputable def s_NetOk_E : Env' := { fn := fun f => if f = 111 then some ⟨s_l1In_sig, s_l1In_f⟩ else none, ck := ckT, cuts := [(4, [0, 3]), (8, [0]), (9, [0, 4]), (12, [0, 4, 5])], mine := fun i => false }
noncomputable def s_NetOk_f (x : Ts s_NetOk_sig.pc) : Option (Ts s_NetOk_sig.rc) := runFn Tryz.prog (s_NetOk_E) Tryz.f128 s_NetOk_sig x
noncomputable def s_NetOk_l0 (y0 : List (Int)) (y1 : Int) : Option ((Bool)) := from_ Tryz.prog (s_NetOk_E) Tryz.f128 s_NetOk_sig [1, 1, 0, 1, 0] ⟨mkT 68 [(0, .row false .i64 y0), (3, .int .i64 y1)], []⟩
noncomputable def s_NetOk_j1 (y0 : List (Int)) : Option ((Bool)) := from_ Tryz.prog (s_NetOk_E) Tryz.f128 s_NetOk_sig [1, 1, 1] ⟨mkT 68 [(0, .row false .i64 y0)], []⟩
noncomputable def s_NetOk_l2 (y0 : List (Int)) (y1 : Int) : Option ((Bool)) := from_ Tryz.prog (s_NetOk_E) Tryz.f128 s_NetOk_sig [1, 1, 1, 0, 1, 0] ⟨mkT 68 [(0, .row false .i64 y0), (4, .int .i64 y1)], []⟩
noncomputable def s_NetOk_l3 (y0 : List (Int)) (y1 : Int) (y2 : Int) : Option ((Bool)) := from_ Tryz.prog (s_NetOk_E) Tryz.f128 s_NetOk_sig [1, 1, 1, 0, 1, 0, 0, 1, 0, 0, 1, 0] ⟨mkT 68 [(0, .row false .i64 y0), (4, .int .i64 y1), (5, .int .i64 y2)], []⟩
theorem s_NetOk_f_eq (x0 : (List (Int))) : s_NetOk_f x0 = (Option.bind (s_l1In_f ((List.length x0 : Int), 1, 6)) fun r1 => (cond ((!r1)) (some false) (s_NetOk_l0 x0 0))) := by
  kernel_rfl
theorem s_NetOk_l0_eq (y0 : List (Int)) (y1 : Int) : s_NetOk_l0 y0 y1 = (cond ((decide (y1 < (List.length y0 : Int)))) (if (0 : Int) ≤ y1 ∧ y1 < (List.length y0 : Int) then (if (List.length y0 : Int) < 0 then none else (Option.bind (s_l1In_f ((List.getD y0 (y1 : Int).toNat 0), 0, (IntKind.i64.wrap ((IntKind.i64.wrap (1 * 2 ^ min ((List.length y0 : Int) : Int).toNat IntKind.i64.bits)) - 1)))) fun r1 => (cond ((!r1)) (some false) (s_NetOk_l0 y0 (IntKind.i64.wrap (y1 + 1)))))) else none) (s_NetOk_j1 y0)) := by
  refine (loopK_eq Tryz.prog (s_NetOk_E) (sub (Tryz.f128.body.getD .skip) [1, 1, 0, 1, 0, 0]) _ _).trans ?_
  kernel_rfl
theorem s_NetOk_j1_eq (y0 : List (Int)) : s_NetOk_j1 y0 = (s_NetOk_l2 y0 0) := by
  kernel_rfl
theorem s_NetOk_l2_eq (y0 : List (Int)) (y1 : Int) : s_NetOk_l2 y0 y1 = (cond ((decide (y1 < (List.length y0 : Int)))) (s_NetOk_l3 y0 y1 0) (some true)) := by
  refine (loopK_eq Tryz.prog (s_NetOk_E) (sub (Tryz.f128.body.getD .skip) [1, 1, 1, 0, 1, 0, 0]) _ _).trans ?_
  kernel_rfl
theorem s_NetOk_l3_eq (y0 : List (Int)) (y1 : Int) (y2 : Int) : s_NetOk_l3 y0 y1 y2 = (cond ((decide (y2 < (List.length y0 : Int)))) (if (0 : Int) ≤ y1 ∧ y1 < (List.length y0 : Int) then (if y2 < 0 then none else (if (0 : Int) ≤ y2 ∧ y2 < (List.length y0 : Int) then (if y1 < 0 then none else (cond (((Int.tmod (Int.fdiv (List.getD y0 (y1 : Int).toNat 0) (2 ^ min (y2 : Int).toNat IntKind.i64.bits)) 2) != (Int.tmod (Int.fdiv (List.getD y0 (y2 : Int).toNat 0) (2 ^ min (y1 : Int).toNat IntKind.i64.bits)) 2))) (some false) (cond ((y2 == y1)) (if (0 : Int) ≤ y1 ∧ y1 < (List.length y0 : Int) then (if y2 < 0 then none else (cond (((Int.tmod (Int.fdiv (List.getD y0 (y1 : Int).toNat 0) (2 ^ min (y2 : Int).toNat IntKind.i64.bits)) 2) == 1)) (some false) (s_NetOk_l3 y0 y1 (IntKind.i64.wrap (y2 + 1))))) else none) (s_NetOk_l3 y0 y1 (IntKind.i64.wrap (y2 + 1)))))) else none)) else none) (s_NetOk_l2 y0 (IntKind.i64.wrap (y1 + 1)))) := by
  refine (loopK_eq Tryz.prog (s_NetOk_E) (sub (Tryz.f128.body.getD .skip) [1, 1, 1, 0, 1, 0, 0, 1, 0, 0, 1, 0, 0]) _ _).trans ?_
  kernel_rfl
theorem s_NetOk_ent : Entb Tryz.prog 128 := ⟨Tryz.f128, by kernel_rfl, by kernel_rfl, by kernel_rfl⟩
theorem s_NetOk_ok : CtrOk Tryz.prog 128 ⟨s_NetOk_sig, s_NetOk_f⟩ :=
  ctr_of (fn := Tryz.f128) (by kernel_rfl) (by kernel_rfl) (fun x : Ts s_NetOk_sig.pc => s_NetOk_E) (fun x => ⟨(fn_cons ⟨s_l1In_ok, s_l1In_ent⟩ fn_none), clo_none, wr_none⟩) (fun h => by cases h) follows_ (fun _ _ => trivial)
end FN

