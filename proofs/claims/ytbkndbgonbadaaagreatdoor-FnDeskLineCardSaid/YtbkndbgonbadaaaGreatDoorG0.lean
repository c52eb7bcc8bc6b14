/- Texts of the proof, joined: The functions, their equations and contracts. -/
import Derived.Lib.LaidTab
import Derived.Lib.ItoaNum
import Derived.KernelRfl
import Derived.Test.YtbkndbgonbadaaaGreatDoorProg
import Derived.Lib.AtoiErrMem
import Derived.Maps.OwnSet
import Derived.WalkKit
import Derived.OneCell
import Derived.Test.YtbkndbgonbadaaaGreatDoorS0
set_option linter.unusedVariables false
set_option linter.unusedSimpArgs false
set_option linter.unusedSectionVars false
namespace FN
open Go Go.Proofs
def mkT (n : Nat) (l : List (Nat × PV)) : List PV := (List.range n).map fun i => (l.lookup i).getD .junk
def ckT (t : TypeId) : Option CK := if t = 3 then some .i64 else if t = 4 then some .bool else if t = 5 then some .u8 else if t = 9 then some .str else if t = 25 then some .place else if t = 36 then some .place else if t = 60 then some .deed else if t = 173 then some .pair else none
/-- One cell, two error variables, one int, and the table of powers of ten: what is asked of the library's variables. -/
abbrev tabV : Array Value := (Lib.pow10Tab.map fun z => Value.int .u64 z).toArray
theorem tabV_size : tabV.size ≠ 2 := by decide +kernel
instance : Gl := ⟨fun w => (∃ m t fz, w.heap[2]? = some (.cells #[.int .i64 m] t fz)) ∧ (∃ ev t fz, w.heap[0]? = some (.cells #[ev] t fz) ∧ (ev = .nilIface ∨ ∃ te pe, ev = .iface te pe)) ∧ (∃ ev t fz, w.heap[1]? = some (.cells #[ev] t fz) ∧ (ev = .nilIface ∨ ∃ te pe, ev = .iface te pe)) ∧ (∃ t fz, w.heap[3]? = some (.cells tabV t fz)), fun _ => True, fun {w w'} g hI hs hk hg => by
  have one : ∀ (k : Nat) (vs : Array Value) (t : TypeId) (fz : Nat × Nat), vs.size ≠ 2 → w.heap[k]? = some (Obj.cells vs t fz) → w'.heap[k]? = some (Obj.cells vs t fz) := fun k vs t fz hn h1 => by
    by_cases e : g = some k
    · obtain ⟨u, p, t', _, h2⟩ := hg k e
      rw [h1] at h2
      injection h2 with h2
      injection h2 with h2
      exact absurd (congrArg Array.size h2) hn
    · exact (hk k (Array.getElem?_eq_some_iff.1 h1).1 e).trans h1
  obtain ⟨⟨m, t, fz, h1⟩, ⟨v, t2, fz2, h2, h3⟩, ⟨v', t4, fz4, h4, h5⟩, ⟨t6, fz6, h6⟩⟩ := hI
  exact ⟨⟨m, t, fz, one _ _ _ _ (by simp) h1⟩, ⟨v, t2, fz2, one _ _ _ _ (by simp) h2, h3⟩, ⟨v', t4, fz4, one _ _ _ _ (by simp) h4, h5⟩, ⟨t6, fz6, one _ _ _ _ tabV_size h6⟩⟩⟩
theorem gl_cell {w : World} (h : Gl.I w) : ∃ m, w.cell? ⟨2, 0, none⟩ = some (.int .i64 m) := by
  obtain ⟨⟨m, t, fz, h1⟩, _⟩ := (show (∃ m t fz, w.heap[2]? = some (.cells #[.int .i64 m] t fz)) ∧ _ from h)
  exact ⟨m, by simp [World.cell?, h1]⟩
theorem gl_syn {w : World} (h : Gl.I w) : ∃ ev, w.cell? ⟨0, 0, none⟩ = some ev ∧ (ev = .nilIface ∨ ∃ te pe, ev = .iface te pe) := by
  obtain ⟨_, ⟨v, t, fz, h1, h2⟩, _⟩ := (show _ ∧ (∃ ev t fz, w.heap[0]? = some (.cells #[ev] t fz) ∧ (ev = .nilIface ∨ ∃ te pe, ev = .iface te pe)) ∧ _ from h)
  exact ⟨v, by simp [World.cell?, h1], h2⟩
theorem gl_ran {w : World} (h : Gl.I w) : ∃ ev, w.cell? ⟨1, 0, none⟩ = some ev ∧ (ev = .nilIface ∨ ∃ te pe, ev = .iface te pe) := by
  obtain ⟨_, _, ⟨v, t, fz, h1, h2⟩, _⟩ := (show _ ∧ _ ∧ (∃ ev t fz, w.heap[1]? = some (.cells #[ev] t fz) ∧ (ev = .nilIface ∨ ∃ te pe, ev = .iface te pe)) ∧ _ from h)
  exact ⟨v, by simp [World.cell?, h1], h2⟩
theorem gl_tab {w : World} (h : Gl.I w) : Lib.TabIs Tryz.prog w "internal/strconv.uint64pow10" .u64 Lib.pow10Tab := by
  obtain ⟨_, _, _, ⟨t, fz, h1⟩⟩ := (show _ ∧ _ ∧ _ ∧ (∃ t fz, w.heap[3]? = some (.cells tabV t fz)) from h)
  have hg : Tryz.prog.globalNamed "internal/strconv.uint64pow10" = some 3 := by kernel_rfl
  unfold Lib.TabIs World.var?
  rw [hg]
  simp only [Option.bind_some, h1]

theorem follows_ : Tryz.prog.follows .mixedOrders = true := by kernel_rfl
theorem rd_head {x b : List Int} {l ps : List PV} (h : (PV.row false .u8 x :: l) = PV.row false .u8 b :: ps) : x = b := by
  injection h with h _
  injection h
theorem fn_none {P : Program} : ∀ (f : FuncId) (c : Ctr'), (none : Option Ctr') = some c → CtrOk P f c ∧ Entb P f := fun _ _ h => by cases h
theorem fn_cons {P : Program} {f0 : FuncId} {c0 : Ctr'} (h0 : CtrOk P f0 c0 ∧ Entb P f0) {g : FuncId → Option Ctr'} (hg : ∀ f c, g f = some c → CtrOk P f c ∧ Entb P f) : ∀ f c, (if f = f0 then some c0 else g f) = some c → CtrOk P f c ∧ Entb P f := by
  intro f c h
  split at h
  · rename_i e; injection h with h; subst e; subst h; exact h0
  · exact hg f c h
theorem lim_some {α : Type} {g : Nat → Option α} {r : α} (h : lim g = some r) : ∃ n, g n = some r := by
  unfold lim at h
  split at h
  · exact ⟨_, h⟩
  · cases h
theorem lim_of {α : Type} {g : Nat → Option α} {v : α} (h : ∃ n, g n = some v) (u : ∀ n r, g n = some r → r = v) : lim g = some v := by
  obtain ⟨n, hn⟩ := h
  have hx : ∃ n r, g n = some r := ⟨n, v, hn⟩
  obtain ⟨r, hr⟩ := hx.choose_spec
  have : lim g = g hx.choose := dif_pos hx
  rw [this, hr, u _ r hr]
theorem clo_none {P : Program} {E : Env'} (h : E.clo = fun _ _ _ _ _ => none := by rfl) : CloOk P E := by
  intro f ps hp h' pin base w ρ args hc
  rw [h] at hc
  cases hc
def str0 : ByteArray := ⟨#[106, 111, 105, 110, 32]⟩
def str1 : ByteArray := ⟨#[32]⟩
def str2 : ByteArray := ⟨#[108, 105, 103, 104, 116, 32]⟩
def str3 : ByteArray := ⟨#[107, 105, 110, 100, 115, 32]⟩
def str4 : ByteArray := ⟨#[115, 116, 101, 112]⟩
def str5 : ByteArray := ⟨#[98, 97, 99, 107]⟩
def str10 : ByteArray := ⟨#[106, 111, 105, 110]⟩
def str11 : ByteArray := ⟨#[108, 105, 103, 104, 116]⟩
def str12 : ByteArray := ⟨#[107, 105, 110, 100, 115]⟩
def str14 : ByteArray := ⟨#[44]⟩
def str15 : ByteArray := ⟨#[46]⟩
def str16 : ByteArray := ⟨#[112, 108, 97, 99, 101]⟩
def str17 : ByteArray := ⟨#[101, 110, 100, 115]⟩
def str18 : ByteArray := ⟨#[108, 111, 111, 112]⟩
def str19 : ByteArray := ⟨#[99, 111, 117, 110, 116, 115]⟩
def str20 : ByteArray := ⟨#[112, 97, 114, 116, 115]⟩
def str21 : ByteArray := ⟨#[102, 108, 97, 116]⟩
def str22 : ByteArray := ⟨#[104, 101, 105, 103, 104, 116, 115]⟩
def str23 : ByteArray := ⟨#[106, 111, 105, 110, 32, 48]⟩
def str24 : ByteArray := ⟨#[106, 111, 105, 110, 32, 48, 32, 120]⟩
def str25 : ByteArray := ⟨#[108, 105, 103, 104, 116, 32, 120]⟩
def str26 : ByteArray := ⟨#[107, 105, 110, 100, 115, 32, 57]⟩
def str27 : ByteArray := ⟨#[115, 116, 101, 112, 32, 48]⟩
def str28 : ByteArray := ⟨#[102, 105, 114, 101, 100]⟩
def str29 : ByteArray := ⟨#[102, 105, 114, 101, 100, 32, 120]⟩
def str30 : ByteArray := ⟨#[102, 105, 114, 101, 100, 32, 54, 49]⟩
def str31 : ByteArray := ⟨#[116, 117, 114, 110, 101, 100, 32, 57, 57]⟩
def str32 : ByteArray := ⟨#[102, 97, 114, 32, 54]⟩
def str33 : ByteArray := ⟨#[102, 97, 114]⟩
def str34 : ByteArray := ⟨#[102, 97, 114, 32, 45, 49]⟩
def str35 : ByteArray := ⟨#[110, 101, 97, 114, 32, 48]⟩
def str36 : ByteArray := ⟨#[32, 112, 108, 97, 99, 101]⟩
def str37 : ByteArray := ⟨#[102, 105, 114, 101, 100, 32]⟩
def str38 : ByteArray := ⟨#[116, 117, 114, 110, 101, 100, 32]⟩
def str39 : ByteArray := ⟨#[102, 97, 114, 32]⟩
def str40 : ByteArray := ⟨#[110, 111, 110, 101]⟩
def str41 : ByteArray := ⟨#[110, 101, 118, 101, 114]⟩
def str42 : ByteArray := ⟨#[121, 101, 115]⟩
def str43 : ByteArray := ⟨#[110, 111]⟩
def str44 : ByteArray := ⟨#[119, 104, 97, 116]⟩
def str45 : ByteArray := ⟨#[116, 117, 114, 110, 101, 100]⟩
def str46 : ByteArray := ⟨#[110, 111, 116]⟩
def str47 : ByteArray := ⟨#[111, 107]⟩
def str48 : ByteArray := ⟨#[45]⟩
end FN

set_option linter.unusedVariables false
namespace FN
open Go Go.Proofs
/-! loop.example/firingnets/spec.l1In -/
@[reducible] def s_l1In_sig : Sig := { ps := [none, none, none], pc := [.int .i64, .int .i64, .int .i64], rs := [none], rc := [.bool] }
noncomputable def s_l1In_E : Env' := { fn := fun f => none, ck := ckT, cuts := [], mine := fun i => false }
noncomputable def s_l1In_f (x : Ts s_l1In_sig.pc) : Option (Ts s_l1In_sig.rc) := runFn Tryz.prog (s_l1In_E) Tryz.f111 s_l1In_sig x
theorem s_l1In_f_eq (x0 : (Int)) (x1 : (Int)) (x2 : (Int)) : s_l1In_f (x0, x1, x2) = (cond ((decide (x1 ≤ x0))) (some (decide (x0 ≤ x2))) (some false)) := by
  kernel_rfl
theorem s_l1In_ent : Entb Tryz.prog 111 := ⟨Tryz.f111, by kernel_rfl, by kernel_rfl, by kernel_rfl⟩
theorem s_l1In_ok : CtrOk Tryz.prog 111 ⟨s_l1In_sig, s_l1In_f⟩ :=
  ctr_of (fn := Tryz.f111) (by kernel_rfl) (by kernel_rfl) (fun x : Ts s_l1In_sig.pc => s_l1In_E) (fun x => ⟨fn_none, clo_none, wr_none⟩) (fun h => by cases h) follows_ (fun _ _ => trivial)
end FN

/-! strconv.Itoa, at 0 .. 99: the shelf's contract, as one of ours. -/
namespace FN
open Go Go.Proofs
theorem flatV_one {l fl : List Value} (h : flatV [none] l = some fl) : ∃ p, l = [p] ∧ fl = [p] := by
  cases l with
  | nil => simp [flatV] at h
  | cons p ps =>
    cases ps with
    | nil => exact ⟨p, rfl, by simpa [flatV] using h.symm⟩
    | cons q ps => simp [flatV] at h
@[reducible] def x_strconv_Itoa_sig : Sig := { ps := [none], pc := [.int .i64], rs := [none], rc := [.str] }
def itoaS (n : Int) : ByteArray := ⟨(Lib.decDigits n.toNat).toArray⟩
def x_strconv_Itoa_f (n : Ts x_strconv_Itoa_sig.pc) : Option (Ts x_strconv_Itoa_sig.rc) := if (0 : Int) ≤ n ∧ (n : Int) < 100 then some (itoaS n) else none
theorem x_strconv_Itoa_ent : Entb Tryz.prog 73 := ⟨Tryz.f73, by kernel_rfl, by kernel_rfl, by kernel_rfl⟩
theorem x_strconv_Itoa_ok : CtrOk Tryz.prog 73 ⟨x_strconv_Itoa_sig, x_strconv_Itoa_f⟩ := by
  intro w okc args bx x r hI hA hr
  obtain ⟨rfl, fl, h1, h2⟩ := (show bx = none ∧ ∃ fl, flatV [none] args.toList = some fl ∧ F2 (V1 (av w okc)) [PV.int .i64 x] fl from hA)
  obtain ⟨p, h3, rfl⟩ := flatV_one h1
  cases h2 with
  | cons hp _ =>
    have hp : p = .int .i64 x := hp
    subst hp
    have hx : (if (0 : Int) ≤ x ∧ (x : Int) < 100 then some (itoaS x) else none) = some r := hr
    split at hx
    · rename_i hc
      injection hx with hx
      subst hx
      have hargs : args = #[.int .i64 ((x : Int).toNat : Int)] := by
        apply Array.ext'
        rw [h3, Int.toNat_of_nonneg hc.1]
      rw [hargs]
      refine (Tryz.strconv_Itoa_small (x : Int).toNat (by have h5 : (0 : Int) ≤ x := hc.1; have h6 : (x : Int) < 100 := hc.2; exact (Int.toNat_lt h5).2 h6) w).mono ?_
      rintro e w' ⟨rfl, rfl⟩
      exact ⟨_, rfl, ⟨[.string (itoaS x)], fun _ => False, ⟨_, rfl, rfl⟩, fun i j u u' g hu => by simp [rowsV] at hu, fun k h => h, (fun h => Bool.noConfusion (show (false : Bool) = true from h)), [.string (itoaS x)], rfl, rfl⟩, Kp.refl _ _ _⟩
    · cases hx
end FN

set_option linter.unusedVariables false
namespace FN
open Go Go.Proofs
/-! loop.example/firingnets/spec.l1Number -/
@[reducible] def s_l1Number_sig : Sig := { ps := [none], pc := [.int .i64], rs := [none], rc := [.str] }
noncomputable def s_l1Number_E (g : Ts s_l1Number_sig.pc → Option (Ts s_l1Number_sig.rc)) : Env' := { fn := fun f => if f = 64 then some ⟨s_l1Number_sig, g⟩ else none, ck := ckT, cuts := [], mine := fun i => false }
noncomputable def s_l1Number_g (n : Nat) : Ts s_l1Number_sig.pc → Option (Ts s_l1Number_sig.rc) := Nat.rec (fun _ => none) (fun _ ih x => runFn Tryz.prog (s_l1Number_E ih) Tryz.f64 s_l1Number_sig x) n
theorem s_l1Number_g_eq (n : Nat) (x0 : (Int)) : s_l1Number_g (n + 1) x0 = (cond ((decide (x0 < 10))) (some (strOfNums ([(IntKind.u8.wrap (IntKind.i64.wrap (48 + (if 0 > x0 then 0 else x0))))] : List (Int)))) (Option.bind (s_l1Number_g n (IntKind.i64.wrap (Int.tdiv x0 10))) fun r1 => (if ByteArray.size r1 + ByteArray.size (strOfNums ([(IntKind.u8.wrap (IntKind.i64.wrap (48 + (Int.tmod x0 10))))] : List (Int))) ≤ 9223372036854775807 then (some (r1 ++ (strOfNums ([(IntKind.u8.wrap (IntKind.i64.wrap (48 + (Int.tmod x0 10))))] : List (Int))))) else none))) := by
  refine Eq.trans (b := (cond ((decide (x0 < 10))) (some (strOfNums ([(IntKind.u8.wrap (IntKind.i64.wrap (48 + (if 0 > x0 then 0 else x0))))] : List (Int)))) (same [(Option.bind (s_l1Number_g n (IntKind.i64.wrap (Int.tdiv x0 10))) fun r1 => (if ByteArray.size r1 + ByteArray.size (strOfNums ([(IntKind.u8.wrap (IntKind.i64.wrap (48 + (Int.tmod x0 10))))] : List (Int))) ≤ 9223372036854775807 then (some (r1 ++ (strOfNums ([(IntKind.u8.wrap (IntKind.i64.wrap (48 + (Int.tmod x0 10))))] : List (Int))))) else none)), (same [(Option.bind (s_l1Number_g n (IntKind.i64.wrap (Int.tdiv x0 10))) fun r1 => (if ByteArray.size r1 + ByteArray.size (strOfNums ([(IntKind.u8.wrap (IntKind.i64.wrap (48 + (Int.tmod x0 10))))] : List (Int))) ≤ 9223372036854775807 then (some (r1 ++ (strOfNums ([(IntKind.u8.wrap (IntKind.i64.wrap (48 + (Int.tmod x0 10))))] : List (Int))))) else none)), (Option.bind (s_l1Number_g n (IntKind.i64.wrap (Int.tdiv x0 10))) fun r1 => (if ByteArray.size r1 + ByteArray.size (strOfNums ([(IntKind.u8.wrap (IntKind.i64.wrap (48 + (Int.tmod x0 10))))] : List (Int))) ≤ 9223372036854775807 then (some (r1 ++ (strOfNums ([(IntKind.u8.wrap (IntKind.i64.wrap (48 + (Int.tmod x0 10))))] : List (Int))))) else none))])]))) (by kernel_rfl) ?_
  simp only [same2, same3, same4, same5, same6, obind_ite]
noncomputable def s_l1Number_f (x : Ts s_l1Number_sig.pc) : Option (Ts s_l1Number_sig.rc) := lim fun n => s_l1Number_g n x
theorem s_l1Number_ent : Entb Tryz.prog 64 := ⟨Tryz.f64, by kernel_rfl, by kernel_rfl, by kernel_rfl⟩
theorem s_l1Number_gok : ∀ n, CtrOk Tryz.prog 64 ⟨s_l1Number_sig, s_l1Number_g n⟩
  | 0 => fun _ _ _ _ _ _ _ _ h => by cases h
  | n + 1 => ctr_of (fn := Tryz.f64) (by kernel_rfl) (by kernel_rfl) (fun _ : Ts s_l1Number_sig.pc => s_l1Number_E (s_l1Number_g n)) (fun _ => ⟨(fn_cons ⟨s_l1Number_gok n, s_l1Number_ent⟩ fn_none), clo_none, wr_none⟩) (fun h => by cases h) follows_ (fun _ _ => trivial)
theorem s_l1Number_ok : CtrOk Tryz.prog 64 ⟨s_l1Number_sig, s_l1Number_f⟩ := fun w okc args bx x r hI hA hr => by
  obtain ⟨n, hn⟩ := lim_some (g := fun n => s_l1Number_g n x) hr
  exact s_l1Number_gok n w okc args bx x r hI hA hn
end FN

set_option linter.unusedVariables false
namespace FN
open Go Go.Proofs
/-! loop.example/firingnets/spec.DeedText -/
@[reducible] def s_DeedText_sig : Sig := { ps := [some 3], pc := [.int .i64, .int .i64, .int .i64], rs := [none], rc := [.str] }
noncomputable def s_DeedText_E : Env' := { fn := fun f => if f = 64 then some ⟨s_l1Number_sig, s_l1Number_f⟩ else if f = 111 then some ⟨s_l1In_sig, s_l1In_f⟩ else none, ck := ckT, cuts := [], mine := fun i => false }
noncomputable def s_DeedText_f (x : Ts s_DeedText_sig.pc) : Option (Ts s_DeedText_sig.rc) := runFn Tryz.prog (s_DeedText_E) Tryz.f65 s_DeedText_sig x
theorem s_DeedText_f_eq (x0 : (Int)) (x1 : (Int)) (x2 : (Int)) : s_DeedText_f (x0, x1, x2) = (Option.bind (s_l1In_f (x1, 0, 99)) fun r1 => (cond ((!r1)) (some ByteArray.empty) (Option.bind (s_l1In_f (x2, 0, 99)) fun r2 => (cond ((!r2)) (some ByteArray.empty) (cond (((x0 == 0) && ((x1 == x1) && ((x2 == x2) && true)))) (Option.bind (s_l1Number_f x1) fun r3 => (if ByteArray.size str0 + ByteArray.size r3 ≤ 9223372036854775807 then (if ByteArray.size (str0 ++ r3) + ByteArray.size str1 ≤ 9223372036854775807 then (Option.bind (s_l1Number_f x2) fun r4 => (if ByteArray.size ((str0 ++ r3) ++ str1) + ByteArray.size r4 ≤ 9223372036854775807 then (some (((str0 ++ r3) ++ str1) ++ r4)) else none)) else none) else none)) (cond (((x0 == 1) && ((x1 == x1) && ((x2 == 0) && true)))) (Option.bind (s_l1Number_f x1) fun r5 => (if ByteArray.size str2 + ByteArray.size r5 ≤ 9223372036854775807 then (some (str2 ++ r5)) else none)) (cond (((x0 == 3) && ((x1 == x1) && ((x2 == 0) && true)))) (Option.bind (s_l1Number_f x1) fun r6 => (if ByteArray.size str3 + ByteArray.size r6 ≤ 9223372036854775807 then (some (str3 ++ r6)) else none)) (cond (((x0 == 2) && ((x1 == 0) && ((x2 == 0) && true)))) (some str4) (cond (((x0 == 4) && ((x1 == 0) && ((x2 == 0) && true)))) (some str5) (some ByteArray.empty)))))))))) := by
  kernel_rfl
theorem s_DeedText_ent : Entb Tryz.prog 65 := ⟨Tryz.f65, by kernel_rfl, by kernel_rfl, by kernel_rfl⟩
theorem s_DeedText_ok : CtrOk Tryz.prog 65 ⟨s_DeedText_sig, s_DeedText_f⟩ :=
  ctr_of (fn := Tryz.f65) (by kernel_rfl) (by kernel_rfl) (fun x : Ts s_DeedText_sig.pc => s_DeedText_E) (fun x => ⟨(fn_cons ⟨s_l1Number_ok, s_l1Number_ent⟩ (fn_cons ⟨s_l1In_ok, s_l1In_ent⟩ fn_none)), clo_none, wr_none⟩) (fun h => by cases h) follows_ (fun _ _ => trivial)
end FN

set_option linter.unusedVariables false
namespace FN
open Go Go.Proofs
/-! loop.example/firingnets/impl.DeedText -/
@[reducible] def i_DeedText_sig : Sig := { ps := [some 3], pc := [.int .i64, .int .i64, .int .i64], rs := [none], rc := [.str] }
noncomputable def i_DeedText_E : Env' := { fn := fun f => if f = 73 then some ⟨x_strconv_Itoa_sig, x_strconv_Itoa_f⟩ else none, ck := ckT, cuts := [], mine := fun i => false }
noncomputable def i_DeedText_f (x : Ts i_DeedText_sig.pc) : Option (Ts i_DeedText_sig.rc) := runFn Tryz.prog (i_DeedText_E) Tryz.f68 i_DeedText_sig x
theorem i_DeedText_f_eq (x0 : (Int)) (x1 : (Int)) (x2 : (Int)) : i_DeedText_f (x0, x1, x2) = (cond ((decide (x1 < 0))) (some ByteArray.empty) (cond ((decide (99 < x1))) (some ByteArray.empty) (cond ((decide (x2 < 0))) (some ByteArray.empty) (cond ((decide (99 < x2))) (some ByteArray.empty) (Option.bind (x_strconv_Itoa_f x1) fun r1 => (if ByteArray.size str1 + ByteArray.size r1 ≤ 9223372036854775807 then (cond ((x0 == 0)) (if ByteArray.size str10 + ByteArray.size (str1 ++ r1) ≤ 9223372036854775807 then (if ByteArray.size (str10 ++ (str1 ++ r1)) + ByteArray.size str1 ≤ 9223372036854775807 then (Option.bind (x_strconv_Itoa_f x2) fun r2 => (if ByteArray.size ((str10 ++ (str1 ++ r1)) ++ str1) + ByteArray.size r2 ≤ 9223372036854775807 then (some (((str10 ++ (str1 ++ r1)) ++ str1) ++ r2)) else none)) else none) else none) (cond ((x2 != 0)) (some ByteArray.empty) (cond ((x0 == 1)) (if ByteArray.size str11 + ByteArray.size (str1 ++ r1) ≤ 9223372036854775807 then (some (str11 ++ (str1 ++ r1))) else none) (cond ((x0 == 3)) (if ByteArray.size str12 + ByteArray.size (str1 ++ r1) ≤ 9223372036854775807 then (some (str12 ++ (str1 ++ r1))) else none) (cond ((x1 != 0)) (some ByteArray.empty) (cond ((x0 == 2)) (some str4) (cond ((x0 == 4)) (some str5) (some ByteArray.empty)))))))) else none)))))) := by
  kernel_rfl
theorem i_DeedText_ent : Entb Tryz.prog 68 := ⟨Tryz.f68, by kernel_rfl, by kernel_rfl, by kernel_rfl⟩
theorem i_DeedText_ok : CtrOk Tryz.prog 68 ⟨i_DeedText_sig, i_DeedText_f⟩ :=
  ctr_of (fn := Tryz.f68) (by kernel_rfl) (by kernel_rfl) (fun x : Ts i_DeedText_sig.pc => i_DeedText_E) (fun x => ⟨(fn_cons ⟨x_strconv_Itoa_ok, x_strconv_Itoa_ent⟩ fn_none), clo_none, wr_none⟩) (fun h => by cases h) follows_ (fun _ _ => trivial)
end FN

/-! strings.Join: the shelf's contract, as one of ours. -/
namespace FN
open Go Go.Proofs Go.RowKit
theorem flatV_two {l fl : List Value} (h : flatV [none, none] l = some fl) : ∃ p q, l = [p, q] ∧ fl = [p, q] := by
  cases l with
  | nil => simp [flatV] at h
  | cons p ps =>
    simp only [flatV] at h
    obtain ⟨fl', h1, h2⟩ := Option.map_eq_some_iff.1 h
    obtain ⟨q, rfl, rfl⟩ := flatV_one h1
    exact ⟨p, q, rfl, h2.symm⟩
@[reducible] def x_strings_Join_sig : Sig := { ps := [none, none], pc := [.view .str, .str], rs := [none], rc := [.str] }
def joinS (xs : List ByteArray) (sep : ByteArray) : ByteArray := ⟨(Lib.join (xs.map (·.data.toList)) sep.data.toList).toArray⟩
def x_strings_Join_f (x : Ts x_strings_Join_sig.pc) : Option (Ts x_strings_Join_sig.rc) := if x.1.length ≤ 140737488355328 ∧ (joinS x.1 x.2).size ≤ 140737488355328 then some (joinS x.1 x.2) else none
theorem x_strings_Join_f_eq (xs : List ByteArray) (sep : ByteArray) : x_strings_Join_f (xs, sep) = if xs.length ≤ 140737488355328 ∧ (joinS xs sep).size ≤ 140737488355328 then some (joinS xs sep) else none := rfl
theorem x_strings_Join_ent : Entb Tryz.prog 108 := ⟨Tryz.f108, by kernel_rfl, by kernel_rfl, by kernel_rfl⟩
theorem kp_below {pin : Pn} {w w' : World} (h : Below w.heap.size w w') : Kp pin w.heap.size w w' := ⟨h.os, h.tape, h.output, h.size, fun k hk _ => h.block k hk⟩
theorem x_strings_Join_ok : CtrOk Tryz.prog 108 ⟨x_strings_Join_sig, x_strings_Join_f⟩ := by
  intro w okc args bx x r hI hA hr
  obtain ⟨rfl, fl, h1, h2⟩ := (show bx = none ∧ ∃ fl, flatV [none, none] args.toList = some fl ∧ F2 (V1 (av w okc)) [PV.row false .str x.1, PV.str x.2] fl from hA)
  obtain ⟨p, q, h3, rfl⟩ := flatV_two h1
  have hx : (if x.1.length ≤ 140737488355328 ∧ (joinS x.1 x.2).size ≤ 140737488355328 then some (joinS x.1 x.2) else none) = some r := hr
  split at hx
  · rename_i hc
    injection hx with hx
    subst hx
    cases h2 with
    | cons hp h2 => cases h2 with
      | cons hq _ =>
        have hq : q = .string x.2 := hq
        subst hq
        obtain ⟨A, cp, rfl, hle, hmx, hne⟩ := (show SlR w ((av w okc).okf false) .str x.1 p from hp)
        have hargs : args = #[.slice A x.1.length cp, .string x.2] := by apply Array.ext'; rw [h3]
        have fin : ∀ w', Below w.heap.size w w' → ∃ v, (Ending.returned (.string (joinS x.1 x.2)) : Ending) = .returned v ∧ RetR x_strings_Join_sig w w' okc none (joinS x.1 x.2) v ∧ Kp ⟨fun k => ∃ b, (none : Option (Nat × List Int)) = some (k, b), fun _ => True⟩ w.heap.size w w' := fun w' hb =>
          ⟨_, rfl, ⟨[.string (joinS x.1 x.2)], fun _ => False, ⟨_, rfl, rfl⟩, fun i j u u' g hu => by simp [rowsV] at hu, fun k h => h, (fun h => Bool.noConfusion (show (false : Bool) = true from h)), [.string (joinS x.1 x.2)], rfl, rfl⟩, kp_below hb⟩
        by_cases h0 : x.1 = []
        · have hz : x.1.length = 0 := by rw [h0]; rfl
          have hj : joinS x.1 x.2 = ⟨#[]⟩ := by rw [h0]; rfl
          rw [hargs, hz]
          refine (Tryz.strings_Join_none A cp x.2 w).mono ?_
          rintro e w' ⟨rfl, rfl⟩
          have := fin w' (Below.refl _ _)
          rw [hj] at this ⊢
          exact this
        · obtain ⟨ad, rfl, _, hlt, hcell⟩ := hne h0
          have hs : ad.spot = none := by
            have hpos : 0 < x.1.length := List.length_pos_iff.2 h0
            obtain ⟨cs, e1, e2⟩ := hcell 0 _ (List.getElem?_eq_getElem hpos)
            have e1 : cs = [.string (x.1[0])] := e1
            have := e2 0 (.string (x.1[0])) (by rw [e1]; rfl)
            have h5 : w.cell? ad = some (.string (x.1[0])) := this
            unfold World.cell? at h5
            split at h5
            · split at h5
              · cases h5
              · rename_i hh; simpa using hh
            · cases h5
          obtain ⟨bk, o, sp⟩ := ad
          simp only at hs
          subst hs
          rw [hargs]
          refine (Tryz.strings_Join bk o cp x.1 x.2 w (fun j y hy => ?_) hlt hc.1 hle (by simpa [joinS, ByteArray.size] using hc.2)).mono ?_
          · obtain ⟨cs, e1, e2⟩ := hcell j y hy
            have e1 : cs = [.string y] := e1
            have := e2 0 (.string y) (by rw [e1]; rfl)
            have h6 : w.cell? ((⟨bk, o, none⟩ : Addr).add (j * 1 + 0)) = some (.string y) := this
            rw [Nat.mul_one, Nat.add_zero, show (⟨bk, o, none⟩ : Addr).add j = ⟨bk, o + j, none⟩ by unfold Addr.add; split <;> simp_all] at h6
            exact h6
          · rintro e w' ⟨rfl, hb⟩
            exact fin w' hb
  · cases hx
end FN

namespace FN
open Go Go.Proofs Go.RowKit
def splitS (s sep : ByteArray) : List ByteArray := Lib.splitB sep 0 (Lib.countB s sep) s
@[reducible] def x_strings_Split_sig : Sig := { ps := [none, none], pc := [.str, .str], rs := [none], rc := [.row 9 .str] }
def x_strings_Split_f (x : Ts x_strings_Split_sig.pc) : Option (Ts x_strings_Split_sig.rc) := if x.1.size < 4294967281 ∧ 1 ≤ x.2.size ∧ Lib.countB x.1 x.2 + 1 = (splitS x.1 x.2).length ∧ (splitS x.1 x.2).length ≤ maxLen then some (splitS x.1 x.2) else none
theorem x_strings_Split_ent : Entb Tryz.prog 58 := ⟨Tryz.f58, by kernel_rfl, by kernel_rfl, by kernel_rfl⟩
theorem split_ok (hG : ∀ w, Gl.I w → ∃ m, w.cell? ⟨2, 0, none⟩ = some (.int .i64 m)) : CtrOk Tryz.prog 58 ⟨x_strings_Split_sig, x_strings_Split_f⟩ := by
  intro w okc args bx x r hI hA hr
  obtain ⟨rfl, fl, h1, h2⟩ := (show bx = none ∧ ∃ fl, flatV [none, none] args.toList = some fl ∧ F2 (V1 (av w okc)) [PV.str x.1, PV.str x.2] fl from hA)
  obtain ⟨p, q, h3, rfl⟩ := flatV_two h1
  have hx : (if x.1.size < 4294967281 ∧ 1 ≤ x.2.size ∧ Lib.countB x.1 x.2 + 1 = (splitS x.1 x.2).length ∧ (splitS x.1 x.2).length ≤ maxLen then some (splitS x.1 x.2) else none) = some r := hr
  obtain ⟨m, hm⟩ := hG w hI
  split at hx
  · rename_i hc
    obtain ⟨c1, c2, c3, c4⟩ := hc
    injection hx with hx
    subst hx
    cases h2 with
    | cons hp h2 => cases h2 with
      | cons hq _ =>
        have hp : p = .string x.1 := hp
        have hq : q = .string x.2 := hq
        subst hp; subst hq
        have hargs : args = #[.string x.1, .string x.2] := by apply Array.ext'; rw [h3]
        rw [hargs]
        refine (Tryz.strings_Split x.1 x.2 m w c1 hm c2).mono ?_
        rintro e w' ⟨rfl, rfl⟩
        rw [c3]
        refine ⟨_, rfl, ⟨[.slice (some ⟨w.heap.size, 0, none⟩) (splitS x.1 x.2).length (splitS x.1 x.2).length], fun _ => False, ⟨_, rfl, ((splitS x.1 x.2).map Value.string), ⟨by simp [CK.sz], .inr ⟨w.heap.size, _, _, rfl, Nat.le_refl _, heap_alloc_new w _, Nat.le_refl _, c4, by simp [CK.sz, splitS], by simp only [CK.sz, Nat.mul_one, splitS]; exact List.take_of_length_le (by simp)⟩⟩, fun j y hj => ?_⟩, fun i j u u' g hu hu' _ _ => ?_, fun k h => h, (fun h => Bool.noConfusion (show (false : Bool) = true from h)), [.slice (some ⟨w.heap.size, 0, none⟩) (splitS x.1 x.2).length (splitS x.1 x.2).length], rfl, rfl⟩, Kp.alloc _ (Nat.le_refl _)⟩
        · refine ⟨[.string y], rfl, fun i u hi => ?_⟩
          cases i with
          | zero => simp at hi; subst hi; simp [CK.sz, hj]
          | succ i => simp at hi
        · cases i with
          | zero => cases j with
            | zero => rfl
            | succ j => simp [rowsV] at hu'
          | succ i => simp [rowsV] at hu
  · cases hx
theorem x_strings_Split_ok : CtrOk Tryz.prog 58 ⟨x_strings_Split_sig, x_strings_Split_f⟩ := split_ok fun _ h => gl_cell h
end FN

set_option linter.unusedVariables false
namespace FN
open Go Go.Proofs
/-! loop.example/firingnets/spec.l1Cut -/
@[reducible] def s_l1Cut_sig : Sig := { ps := [none, none], pc := [.str, .int .u8], rs := [none], rc := [.row 9 .str] }
noncomputable def s_l1Cut_E : Env' := { fn := fun f => none, ck := ckT, cuts := [(4, [0, 1, 5, 6, 7]), (9, [0, 5, 6])], mine := fun i => false }
noncomputable def s_l1Cut_f (x : Ts s_l1Cut_sig.pc) : Option (Ts s_l1Cut_sig.rc) := runFn Tryz.prog (s_l1Cut_E) Tryz.f86 s_l1Cut_sig x
noncomputable def s_l1Cut_l0 (y0 : ByteArray) (y1 : Int) (y2 : Int) (y3 : Int) (y4 : List (ByteArray)) : Option ((List (ByteArray))) := from_ Tryz.prog (s_l1Cut_E) Tryz.f86 s_l1Cut_sig [1, 1, 1, 0, 1, 0] ⟨mkT 35 [(0, .str y0), (1, .int .u8 y1), (5, .own 0), (6, .int .i64 y2), (7, .int .i64 y3)], [some (.arr 9 true .str y4)]⟩
noncomputable def s_l1Cut_j1 (y0 : ByteArray) (y1 : Int) (y2 : List (ByteArray)) : Option ((List (ByteArray))) := from_ Tryz.prog (s_l1Cut_E) Tryz.f86 s_l1Cut_sig [1, 1, 1, 1] ⟨mkT 35 [(0, .str y0), (5, .own 0), (6, .int .i64 y1)], [some (.arr 9 true .str y2)]⟩
theorem s_l1Cut_f_eq (x0 : (ByteArray)) (x1 : (Int)) : s_l1Cut_f (x0, x1) = (s_l1Cut_l0 x0 x1 0 0 ([] : List (ByteArray))) := by
  kernel_rfl
theorem s_l1Cut_l0_eq (y0 : ByteArray) (y1 : Int) (y2 : Int) (y3 : Int) (y4 : List (ByteArray)) : s_l1Cut_l0 y0 y1 y2 y3 y4 = (cond ((decide (y3 < (ByteArray.size y0 : Int)))) (if (0 : Int) ≤ y3 ∧ y3 < (ByteArray.size y0 : Int) then (cond ((((List.getD (ByteArray.data y0).toList (y3 : Int).toNat 0).toNat : Int) == y1)) (if (0 : Int) ≤ y3 ∧ y3 ≤ (ByteArray.size y0 : Int) then (if (0 : Int) ≤ y2 ∧ y2 ≤ y3 then (if (List.length y4 + List.length ([(ByteArray.extract y0 (y2 : Int).toNat (y3 : Int).toNat)] : List (ByteArray))) * 16 ≤ 140737488355328 then (s_l1Cut_l0 y0 y1 (IntKind.i64.wrap (y3 + 1)) (IntKind.i64.wrap (y3 + 1)) (y4 ++ ([(ByteArray.extract y0 (y2 : Int).toNat (y3 : Int).toNat)] : List (ByteArray)))) else none) else none) else none) (s_l1Cut_l0 y0 y1 y2 (IntKind.i64.wrap (y3 + 1)) y4)) else none) (s_l1Cut_j1 y0 y2 y4)) := by
  refine (loopK_eq Tryz.prog (s_l1Cut_E) (sub (Tryz.f86.body.getD .skip) [1, 1, 1, 0, 1, 0, 0]) _ _).trans ?_
  kernel_rfl
theorem s_l1Cut_j1_eq (y0 : ByteArray) (y1 : Int) (y2 : List (ByteArray)) : s_l1Cut_j1 y0 y1 y2 = (if (0 : Int) ≤ y1 ∧ y1 ≤ (ByteArray.size y0 : Int) then (if (List.length y2 + List.length ([(ByteArray.extract y0 (y1 : Int).toNat (ByteArray.size y0))] : List (ByteArray))) * 16 ≤ 140737488355328 then (some (y2 ++ ([(ByteArray.extract y0 (y1 : Int).toNat (ByteArray.size y0))] : List (ByteArray)))) else none) else none) := by
  kernel_rfl
theorem s_l1Cut_ent : Entb Tryz.prog 86 := ⟨Tryz.f86, by kernel_rfl, by kernel_rfl, by kernel_rfl⟩
theorem s_l1Cut_ok : CtrOk Tryz.prog 86 ⟨s_l1Cut_sig, s_l1Cut_f⟩ :=
  ctr_of (fn := Tryz.f86) (by kernel_rfl) (by kernel_rfl) (fun x : Ts s_l1Cut_sig.pc => s_l1Cut_E) (fun x => ⟨fn_none, clo_none, wr_none⟩) (fun h => by cases h) follows_ (fun _ _ => trivial)
end FN

set_option linter.unusedVariables false
namespace FN
open Go Go.Proofs
/-! loop.example/firingnets/spec.l1Digits -/
@[reducible] def s_l1Digits_sig : Sig := { ps := [none], pc := [.str], rs := [none], rc := [.int .i64] }
noncomputable def s_l1Digits_E : Env' := { fn := fun f => if f = 111 then some ⟨s_l1In_sig, s_l1In_f⟩ else none, ck := ckT, cuts := [(5, [0, 3, 4])], mine := fun i => false }
noncomputable def s_l1Digits_f (x : Ts s_l1Digits_sig.pc) : Option (Ts s_l1Digits_sig.rc) := runFn Tryz.prog (s_l1Digits_E) Tryz.f87 s_l1Digits_sig x
noncomputable def s_l1Digits_l0 (y0 : ByteArray) (y1 : Int) (y2 : Int) : Option ((Int)) := from_ Tryz.prog (s_l1Digits_E) Tryz.f87 s_l1Digits_sig [1, 1, 1, 0, 1, 0] ⟨mkT 44 [(0, .str y0), (3, .int .i64 y1), (4, .int .i64 y2)], []⟩
theorem s_l1Digits_f_eq (x0 : (ByteArray)) : s_l1Digits_f x0 = (Option.bind (s_l1In_f ((ByteArray.size x0 : Int), 1, 6)) fun r1 => (cond ((!r1)) (some (-1)) (cond ((decide (1 < (ByteArray.size x0 : Int)))) (if (0 : Int) ≤ 0 ∧ 0 < (ByteArray.size x0 : Int) then (cond ((((List.getD (ByteArray.data x0).toList (0 : Int).toNat 0).toNat : Int) == 48)) (some (-1)) (s_l1Digits_l0 x0 0 0)) else none) (s_l1Digits_l0 x0 0 0)))) := by
  kernel_rfl
theorem s_l1Digits_l0_eq (y0 : ByteArray) (y1 : Int) (y2 : Int) : s_l1Digits_l0 y0 y1 y2 = (cond ((decide (y2 < (ByteArray.size y0 : Int)))) (if (0 : Int) ≤ y2 ∧ y2 < (ByteArray.size y0 : Int) then (cond ((decide (((List.getD (ByteArray.data y0).toList (y2 : Int).toNat 0).toNat : Int) < 48))) (some (-1)) (if (0 : Int) ≤ y2 ∧ y2 < (ByteArray.size y0 : Int) then (cond ((decide (57 < ((List.getD (ByteArray.data y0).toList (y2 : Int).toNat 0).toNat : Int)))) (some (-1)) (if (0 : Int) ≤ y2 ∧ y2 < (ByteArray.size y0 : Int) then (s_l1Digits_l0 y0 (IntKind.i64.wrap ((IntKind.i64.wrap (10 * y1)) + (IntKind.i64.wrap (IntKind.u8.wrap (((List.getD (ByteArray.data y0).toList (y2 : Int).toNat 0).toNat : Int) - 48))))) (IntKind.i64.wrap (y2 + 1))) else none)) else none)) else none) (some y1)) := by
  refine (loopK_eq Tryz.prog (s_l1Digits_E) (sub (Tryz.f87.body.getD .skip) [1, 1, 1, 0, 1, 0, 0]) _ _).trans ?_
  kernel_rfl
theorem s_l1Digits_ent : Entb Tryz.prog 87 := ⟨Tryz.f87, by kernel_rfl, by kernel_rfl, by kernel_rfl⟩
theorem s_l1Digits_ok : CtrOk Tryz.prog 87 ⟨s_l1Digits_sig, s_l1Digits_f⟩ :=
  ctr_of (fn := Tryz.f87) (by kernel_rfl) (by kernel_rfl) (fun x : Ts s_l1Digits_sig.pc => s_l1Digits_E) (fun x => ⟨(fn_cons ⟨s_l1In_ok, s_l1In_ent⟩ fn_none), clo_none, wr_none⟩) (fun h => by cases h) follows_ (fun _ _ => trivial)
end FN

set_option linter.unusedVariables false
namespace FN
open Go Go.Proofs
/-! loop.example/firingnets/impl.NetOk -/
@[reducible] def i_NetOk_sig : Sig := { ps := [none], pc := [.view .i64], rs := [none], rc := [.bool] }
noncomputable def i_NetOk_E : Env' := { fn := fun f => none, ck := ckT, cuts := [(4, [0, 14, 15, 16]), (9, [0, 3, 4, 14, 15, 16, 38, 39])], mine := fun i => false }
noncomputable def i_NetOk_f (x : Ts i_NetOk_sig.pc) : Option (Ts i_NetOk_sig.rc) := runFn Tryz.prog (i_NetOk_E) Tryz.f43 i_NetOk_sig x
noncomputable def i_NetOk_l0 (y0 : List (Int)) (y1 : List (Int)) (y2 : Int) (y3 : Int) : Option ((Bool)) := from_ Tryz.prog (i_NetOk_E) Tryz.f43 i_NetOk_sig [1, 1, 0, 1, 0] ⟨mkT 56 [(0, .row false .i64 y0), (14, .row false .i64 y1), (15, .int .i64 y2), (16, .int .i64 y3)], []⟩
noncomputable def i_NetOk_l1 (y0 : List (Int)) (y1 : Int) (y2 : Int) (y3 : List (Int)) (y4 : Int) (y5 : Int) (y6 : Int) (y7 : Int) : Option ((Bool)) := from_ Tryz.prog (i_NetOk_E) Tryz.f43 i_NetOk_sig [1, 1, 0, 1, 0, 0, 1, 1, 0, 0, 1, 1, 1, 0] ⟨mkT 56 [(0, .row false .i64 y0), (3, .int .i64 y1), (4, .int .i64 y2), (14, .row false .i64 y3), (15, .int .i64 y4), (16, .int .i64 y5), (38, .int .i64 y6), (39, .int .i64 y7)], []⟩
theorem i_NetOk_f_eq (x0 : (List (Int))) : i_NetOk_f x0 = (cond ((decide ((List.length x0 : Int) < 1))) (some false) (cond ((decide (6 < (List.length x0 : Int)))) (some false) (i_NetOk_l0 x0 x0 (List.length x0 : Int) 0))) := by
  kernel_rfl
theorem i_NetOk_l0_eq (y0 : List (Int)) (y1 : List (Int)) (y2 : Int) (y3 : Int) : i_NetOk_l0 y0 y1 y2 y3 = (cond ((decide (y3 < y2))) (if (0 : Int) ≤ y3 ∧ y3 < (List.length y1 : Int) then (cond ((decide ((List.getD y1 (y3 : Int).toNat 0) < 0))) (some false) (if (List.length y0 : Int) < 0 then none else (cond ((decide ((IntKind.i64.wrap (1 * 2 ^ min ((List.length y0 : Int) : Int).toNat IntKind.i64.bits)) ≤ (List.getD y1 (y3 : Int).toNat 0)))) (some false) (if y3 < 0 then none else (cond (((Go.bits .and IntKind.i64 (Int.fdiv (List.getD y1 (y3 : Int).toNat 0) (2 ^ min (y3 : Int).toNat IntKind.i64.bits)) 1) == 1)) (some false) (i_NetOk_l1 y0 y3 (List.getD y1 (y3 : Int).toNat 0) y1 y2 y3 (List.length y0 : Int) 0)))))) else none) (some true)) := by
  refine (loopK_eq Tryz.prog (i_NetOk_E) (sub (Tryz.f43.body.getD .skip) [1, 1, 0, 1, 0, 0]) _ _).trans ?_
  kernel_rfl
theorem i_NetOk_l1_eq (y0 : List (Int)) (y1 : Int) (y2 : Int) (y3 : List (Int)) (y4 : Int) (y5 : Int) (y6 : Int) (y7 : Int) : i_NetOk_l1 y0 y1 y2 y3 y4 y5 y6 y7 = (cond ((decide (y7 < y6))) (if y7 < 0 then none else (if (0 : Int) ≤ y7 ∧ y7 < (List.length y0 : Int) then (if y1 < 0 then none else (cond (((Go.bits .and IntKind.i64 (Int.fdiv y2 (2 ^ min (y7 : Int).toNat IntKind.i64.bits)) 1) != (Go.bits .and IntKind.i64 (Int.fdiv (List.getD y0 (y7 : Int).toNat 0) (2 ^ min (y1 : Int).toNat IntKind.i64.bits)) 1))) (some false) (i_NetOk_l1 y0 y1 y2 y3 y4 y5 y6 (IntKind.i64.wrap (y7 + 1))))) else none)) (i_NetOk_l0 y0 y3 y4 (IntKind.i64.wrap (y5 + 1)))) := by
  refine (loopK_eq Tryz.prog (i_NetOk_E) (sub (Tryz.f43.body.getD .skip) [1, 1, 0, 1, 0, 0, 1, 1, 0, 0, 1, 1, 1, 0, 0]) _ _).trans ?_
  kernel_rfl
theorem i_NetOk_ent : Entb Tryz.prog 43 := ⟨Tryz.f43, by kernel_rfl, by kernel_rfl, by kernel_rfl⟩
theorem i_NetOk_ok : CtrOk Tryz.prog 43 ⟨i_NetOk_sig, i_NetOk_f⟩ :=
  ctr_of (fn := Tryz.f43) (by kernel_rfl) (by kernel_rfl) (fun x : Ts i_NetOk_sig.pc => i_NetOk_E) (fun x => ⟨fn_none, clo_none, wr_none⟩) (fun h => by cases h) follows_ (fun _ _ => trivial)
end FN

set_option linter.unusedVariables false
namespace FN
open Go Go.Proofs
/-! loop.example/firingnets/impl.StateOk -/
@[reducible] def i_StateOk_sig : Sig := { ps := [none, none], pc := [.int .i64, .view .i64], rs := [none], rc := [.bool] }
noncomputable def i_StateOk_E : Env' := { fn := fun f => none, ck := ckT, cuts := [(2, [0, 1, 7, 8, 9]), (7, [0, 1])], mine := fun i => false }
noncomputable def i_StateOk_f (x : Ts i_StateOk_sig.pc) : Option (Ts i_StateOk_sig.rc) := runFn Tryz.prog (i_StateOk_E) Tryz.f119 i_StateOk_sig x
noncomputable def i_StateOk_l0 (y0 : Int) (y1 : List (Int)) (y2 : List (Int)) (y3 : Int) (y4 : Int) : Option ((Bool)) := from_ Tryz.prog (i_StateOk_E) Tryz.f119 i_StateOk_sig [1, 0, 1, 0] ⟨mkT 37 [(0, .int .i64 y0), (1, .row false .i64 y1), (7, .row false .i64 y2), (8, .int .i64 y3), (9, .int .i64 y4)], []⟩
noncomputable def i_StateOk_j1 (y0 : Int) (y1 : List (Int)) : Option ((Bool)) := from_ Tryz.prog (i_StateOk_E) Tryz.f119 i_StateOk_sig [1, 1] ⟨mkT 37 [(0, .int .i64 y0), (1, .row false .i64 y1)], []⟩
theorem i_StateOk_f_eq (x0 : (Int)) (x1 : (List (Int))) : i_StateOk_f (x0, x1) = (i_StateOk_l0 x0 x1 x1 (List.length x1 : Int) 0) := by
  kernel_rfl
theorem i_StateOk_l0_eq (y0 : Int) (y1 : List (Int)) (y2 : List (Int)) (y3 : Int) (y4 : Int) : i_StateOk_l0 y0 y1 y2 y3 y4 = (cond ((decide (y4 < y3))) (if (0 : Int) ≤ y4 ∧ y4 < (List.length y2 : Int) then (cond ((decide ((List.getD y2 (y4 : Int).toNat 0) < 0))) (some false) (cond ((decide (y0 ≤ (List.getD y2 (y4 : Int).toNat 0)))) (some false) (i_StateOk_l0 y0 y1 y2 y3 (IntKind.i64.wrap (y4 + 1))))) else none) (i_StateOk_j1 y0 y1)) := by
  refine (loopK_eq Tryz.prog (i_StateOk_E) (sub (Tryz.f119.body.getD .skip) [1, 0, 1, 0, 0]) _ _).trans ?_
  kernel_rfl
theorem i_StateOk_j1_eq (y0 : Int) (y1 : List (Int)) : i_StateOk_j1 y0 y1 = (cond ((decide (3 ≤ y0))) (cond ((decide (y0 ≤ 5))) (cond ((decide (1 ≤ (List.length y1 : Int)))) (some (decide ((List.length y1 : Int) ≤ 6))) (some false)) (some false)) (some false)) := by
  kernel_rfl
theorem i_StateOk_ent : Entb Tryz.prog 119 := ⟨Tryz.f119, by kernel_rfl, by kernel_rfl, by kernel_rfl⟩
theorem i_StateOk_ok : CtrOk Tryz.prog 119 ⟨i_StateOk_sig, i_StateOk_f⟩ :=
  ctr_of (fn := Tryz.f119) (by kernel_rfl) (by kernel_rfl) (fun x : Ts i_StateOk_sig.pc => i_StateOk_E) (fun x => ⟨fn_none, clo_none, wr_none⟩) (fun h => by cases h) follows_ (fun _ _ => trivial)
end FN

set_option linter.unusedVariables false
namespace FN
open Go Go.Proofs
/-! loop.example/firingnets/impl.asked -/
@[reducible] def i_asked_sig : Sig := { ps := [none, none, none], pc := [.view .i64, .int .i64, .view .i64], rs := [none], rc := [.bool] }
noncomputable def i_asked_E : Env' := { fn := fun f => if f = 43 then some ⟨i_NetOk_sig, i_NetOk_f⟩ else if f = 119 then some ⟨i_StateOk_sig, i_StateOk_f⟩ else none, ck := ckT, cuts := [], mine := fun i => false }
noncomputable def i_asked_f (x : Ts i_asked_sig.pc) : Option (Ts i_asked_sig.rc) := runFn Tryz.prog (i_asked_E) Tryz.f101 i_asked_sig x
theorem i_asked_f_eq (x0 : (List (Int))) (x1 : (Int)) (x2 : (List (Int))) : i_asked_f (x0, x1, x2) = (Option.bind (i_NetOk_f x0) fun r1 => (cond (r1) (Option.bind (i_StateOk_f (x1, x2)) fun r2 => (cond (r2) (some ((List.length x0 : Int) == (List.length x2 : Int))) (some false))) (some false))) := by
  kernel_rfl
theorem i_asked_ent : Entb Tryz.prog 101 := ⟨Tryz.f101, by kernel_rfl, by kernel_rfl, by kernel_rfl⟩
theorem i_asked_ok : CtrOk Tryz.prog 101 ⟨i_asked_sig, i_asked_f⟩ :=
  ctr_of (fn := Tryz.f101) (by kernel_rfl) (by kernel_rfl) (fun x : Ts i_asked_sig.pc => i_asked_E) (fun x => ⟨(fn_cons ⟨i_NetOk_ok, i_NetOk_ent⟩ (fn_cons ⟨i_StateOk_ok, i_StateOk_ent⟩ fn_none)), clo_none, wr_none⟩) (fun h => by cases h) follows_ (fun _ _ => trivial)
end FN

set_option linter.unusedVariables false
namespace FN
open Go Go.Proofs
/-! loop.example/firingnets/impl.PlaceOk -/
@[reducible] def i_PlaceOk_sig : Sig := { ps := [some 3], pc := [.view .i64, .int .i64, .view .i64], rs := [none], rc := [.bool] }
noncomputable def i_PlaceOk_E : Env' := { fn := fun f => if f = 101 then some ⟨i_asked_sig, i_asked_f⟩ else none, ck := ckT, cuts := [], mine := fun i => false }
noncomputable def i_PlaceOk_f (x : Ts i_PlaceOk_sig.pc) : Option (Ts i_PlaceOk_sig.rc) := runFn Tryz.prog (i_PlaceOk_E) Tryz.f44 i_PlaceOk_sig x
theorem i_PlaceOk_f_eq (x0 : (List (Int))) (x1 : (Int)) (x2 : (List (Int))) : i_PlaceOk_f (x0, x1, x2) = (Option.bind (i_asked_f (x0, x1, x2)) fun r1 => (some r1)) := by
  kernel_rfl
theorem i_PlaceOk_ent : Entb Tryz.prog 44 := ⟨Tryz.f44, by kernel_rfl, by kernel_rfl, by kernel_rfl⟩
theorem i_PlaceOk_ok : CtrOk Tryz.prog 44 ⟨i_PlaceOk_sig, i_PlaceOk_f⟩ :=
  ctr_of (fn := Tryz.f44) (by kernel_rfl) (by kernel_rfl) (fun x : Ts i_PlaceOk_sig.pc => i_PlaceOk_E) (fun x => ⟨(fn_cons ⟨i_asked_ok, i_asked_ent⟩ fn_none), clo_none, wr_none⟩) (fun h => by cases h) follows_ (fun _ _ => trivial)
end FN

set_option linter.unusedVariables false
namespace FN
open Go Go.Proofs
/-! loop.example/firingnets/spec.NetOk -/
@[reducible] def s_NetOk_sig : Sig := { ps := [none], pc := [.view .i64], rs := [none], rc := [.bool] }
noncomputable def s_NetOk_E : Env' := { fn := fun f => if f = 111 then some ⟨s_l1In_sig, s_l1In_f⟩ else none, ck := ckT, cuts := [(4, [0, 3]), (8, [0]), (9, [0, 4]), (12, [0, 4, 5])], mine := fun i => false }
noncomputable def s_NetOk_f (x : Ts s_NetOk_sig.pc) : Option (Ts s_NetOk_sig.rc) := runFn Tryz.prog (s_NetOk_E) Tryz.f128 s_NetOk_sig x
noncomputable def s_NetOk_l0 (y0 : List (Int)) (y1 : Int) : Option ((Bool)) := from_ Tryz.prog (s_NetOk_E) Tryz.f128 s_NetOk_sig [1, 1, 0, 1, 0] ⟨mkT 68 [(0, .row false .i64 y0), (3, .int .i64 y1)], []⟩
noncomputable def s_NetOk_j1 (y0 : List (Int)) : Option ((Bool)) := from_ Tryz.prog (s_NetOk_E) Tryz.f128 s_NetOk_sig [1, 1, 1] ⟨mkT 68 [(0, .row false .i64 y0)], []⟩
noncomputable def s_NetOk_l2 (y0 : List (Int)) (y1 : Int) : Option ((Bool)) := from_ Tryz.prog (s_NetOk_E) Tryz.f128 s_NetOk_sig [1, 1, 1, 0, 1, 0] ⟨mkT 68 [(0, .row false .i64 y0), (4, .int .i64 y1)], []⟩
noncomputable def s_NetOk_l3 (y0 : List (Int)) (y1 : Int) (y2 : Int) : Option ((Bool)) := from_ Tryz.prog (s_NetOk_E) Tryz.f128 s_NetOk_sig [1, 1, 1, 0, 1, 0, 0, 1, 0, 0, 1, 0] ⟨mkT 68 [(0, .row false .i64 y0), (4, .int .i64 y1), (5, .int .i64 y2)], []⟩
theorem s_NetOk_f_eq (x0 : (List (Int))) : s_NetOk_f x0 = (Option.bind (s_l1In_f ((List.length x0 : Int), 1, 6)) fun r1 => (cond ((!r1)) (some false) (s_NetOk_l0 x0 0))) := by
  kernel_rfl
theorem s_NetOk_l0_eq (y0 : List (Int)) (y1 : Int) : s_NetOk_l0 y0 y1 = (cond ((decide (y1 < (List.length y0 : Int)))) (if (0 : Int) ≤ y1 ∧ y1 < (List.length y0 : Int) then (if (List.length y0 : Int) < 0 then none else (Option.bind (s_l1In_f ((List.getD y0 (y1 : Int).toNat 0), 0, (IntKind.i64.wrap ((IntKind.i64.wrap (1 * 2 ^ min ((List.length y0 : Int) : Int).toNat IntKind.i64.bits)) - 1)))) fun r1 => (cond ((!r1)) (some false) (s_NetOk_l0 y0 (IntKind.i64.wrap (y1 + 1)))))) else none) (s_NetOk_j1 y0)) := by
  refine (loopK_eq Tryz.prog (s_NetOk_E) (sub (Tryz.f128.body.getD .skip) [1, 1, 0, 1, 0, 0]) _ _).trans ?_
  kernel_rfl
theorem s_NetOk_j1_eq (y0 : List (Int)) : s_NetOk_j1 y0 = (s_NetOk_l2 y0 0) := by
  kernel_rfl
theorem s_NetOk_l2_eq (y0 : List (Int)) (y1 : Int) : s_NetOk_l2 y0 y1 = (cond ((decide (y1 < (List.length y0 : Int)))) (s_NetOk_l3 y0 y1 0) (some true)) := by
  refine (loopK_eq Tryz.prog (s_NetOk_E) (sub (Tryz.f128.body.getD .skip) [1, 1, 1, 0, 1, 0, 0]) _ _).trans ?_
  kernel_rfl
theorem s_NetOk_l3_eq (y0 : List (Int)) (y1 : Int) (y2 : Int) : s_NetOk_l3 y0 y1 y2 = (cond ((decide (y2 < (List.length y0 : Int)))) (if (0 : Int) ≤ y1 ∧ y1 < (List.length y0 : Int) then (if y2 < 0 then none else (if (0 : Int) ≤ y2 ∧ y2 < (List.length y0 : Int) then (if y1 < 0 then none else (cond (((Int.tmod (Int.fdiv (List.getD y0 (y1 : Int).toNat 0) (2 ^ min (y2 : Int).toNat IntKind.i64.bits)) 2) != (Int.tmod (Int.fdiv (List.getD y0 (y2 : Int).toNat 0) (2 ^ min (y1 : Int).toNat IntKind.i64.bits)) 2))) (some false) (cond ((y2 == y1)) (if (0 : Int) ≤ y1 ∧ y1 < (List.length y0 : Int) then (if y2 < 0 then none else (cond (((Int.tmod (Int.fdiv (List.getD y0 (y1 : Int).toNat 0) (2 ^ min (y2 : Int).toNat IntKind.i64.bits)) 2) == 1)) (some false) (s_NetOk_l3 y0 y1 (IntKind.i64.wrap (y2 + 1))))) else none) (s_NetOk_l3 y0 y1 (IntKind.i64.wrap (y2 + 1)))))) else none)) else none) (s_NetOk_l2 y0 (IntKind.i64.wrap (y1 + 1)))) := by
  refine (loopK_eq Tryz.prog (s_NetOk_E) (sub (Tryz.f128.body.getD .skip) [1, 1, 1, 0, 1, 0, 0, 1, 0, 0, 1, 0, 0]) _ _).trans ?_
  kernel_rfl
theorem s_NetOk_ent : Entb Tryz.prog 128 := ⟨Tryz.f128, by kernel_rfl, by kernel_rfl, by kernel_rfl⟩
theorem s_NetOk_ok : CtrOk Tryz.prog 128 ⟨s_NetOk_sig, s_NetOk_f⟩ :=
  ctr_of (fn := Tryz.f128) (by kernel_rfl) (by kernel_rfl) (fun x : Ts s_NetOk_sig.pc => s_NetOk_E) (fun x => ⟨(fn_cons ⟨s_l1In_ok, s_l1In_ent⟩ fn_none), clo_none, wr_none⟩) (fun h => by cases h) follows_ (fun _ _ => trivial)
end FN

set_option linter.unusedVariables false
namespace FN
open Go Go.Proofs
/-! loop.example/firingnets/spec.StateOk -/
@[reducible] def s_StateOk_sig : Sig := { ps := [none, none], pc := [.int .i64, .view .i64], rs := [none], rc := [.bool] }
noncomputable def s_StateOk_E : Env' := { fn := fun f => if f = 111 then some ⟨s_l1In_sig, s_l1In_f⟩ else none, ck := ckT, cuts := [(2, [0, 1, 5]), (6, [0, 1])], mine := fun i => false }
noncomputable def s_StateOk_f (x : Ts s_StateOk_sig.pc) : Option (Ts s_StateOk_sig.rc) := runFn Tryz.prog (s_StateOk_E) Tryz.f127 s_StateOk_sig x
noncomputable def s_StateOk_l0 (y0 : Int) (y1 : List (Int)) (y2 : Int) : Option ((Bool)) := from_ Tryz.prog (s_StateOk_E) Tryz.f127 s_StateOk_sig [1, 0, 1, 0] ⟨mkT 32 [(0, .int .i64 y0), (1, .row false .i64 y1), (5, .int .i64 y2)], []⟩
noncomputable def s_StateOk_j1 (y0 : Int) (y1 : List (Int)) : Option ((Bool)) := from_ Tryz.prog (s_StateOk_E) Tryz.f127 s_StateOk_sig [1, 1] ⟨mkT 32 [(0, .int .i64 y0), (1, .row false .i64 y1)], []⟩
theorem s_StateOk_f_eq (x0 : (Int)) (x1 : (List (Int))) : s_StateOk_f (x0, x1) = (s_StateOk_l0 x0 x1 0) := by
  kernel_rfl
theorem s_StateOk_l0_eq (y0 : Int) (y1 : List (Int)) (y2 : Int) : s_StateOk_l0 y0 y1 y2 = (cond ((decide (y2 < (List.length y1 : Int)))) (if (0 : Int) ≤ y2 ∧ y2 < (List.length y1 : Int) then (cond ((decide ((List.getD y1 (y2 : Int).toNat 0) < 0))) (some false) (if (0 : Int) ≤ y2 ∧ y2 < (List.length y1 : Int) then (cond ((decide (y0 ≤ (List.getD y1 (y2 : Int).toNat 0)))) (some false) (s_StateOk_l0 y0 y1 (IntKind.i64.wrap (y2 + 1)))) else none)) else none) (s_StateOk_j1 y0 y1)) := by
  refine (loopK_eq Tryz.prog (s_StateOk_E) (sub (Tryz.f127.body.getD .skip) [1, 0, 1, 0, 0]) _ _).trans ?_
  kernel_rfl
theorem s_StateOk_j1_eq (y0 : Int) (y1 : List (Int)) : s_StateOk_j1 y0 y1 = (Option.bind (s_l1In_f (y0, 3, 5)) fun r1 => (cond (r1) (Option.bind (s_l1In_f ((List.length y1 : Int), 1, 6)) fun r2 => (some r2)) (some false))) := by
  kernel_rfl
theorem s_StateOk_ent : Entb Tryz.prog 127 := ⟨Tryz.f127, by kernel_rfl, by kernel_rfl, by kernel_rfl⟩
theorem s_StateOk_ok : CtrOk Tryz.prog 127 ⟨s_StateOk_sig, s_StateOk_f⟩ :=
  ctr_of (fn := Tryz.f127) (by kernel_rfl) (by kernel_rfl) (fun x : Ts s_StateOk_sig.pc => s_StateOk_E) (fun x => ⟨(fn_cons ⟨s_l1In_ok, s_l1In_ent⟩ fn_none), clo_none, wr_none⟩) (fun h => by cases h) follows_ (fun _ _ => trivial)
end FN

set_option linter.unusedVariables false
namespace FN
open Go Go.Proofs
/-! loop.example/firingnets/spec.l3Ok -/
@[reducible] def s_l3Ok_sig : Sig := { ps := [none, none, none], pc := [.view .i64, .int .i64, .view .i64], rs := [none], rc := [.bool] }
noncomputable def s_l3Ok_E : Env' := { fn := fun f => if f = 127 then some ⟨s_StateOk_sig, s_StateOk_f⟩ else if f = 128 then some ⟨s_NetOk_sig, s_NetOk_f⟩ else none, ck := ckT, cuts := [], mine := fun i => false }
noncomputable def s_l3Ok_f (x : Ts s_l3Ok_sig.pc) : Option (Ts s_l3Ok_sig.rc) := runFn Tryz.prog (s_l3Ok_E) Tryz.f100 s_l3Ok_sig x
theorem s_l3Ok_f_eq (x0 : (List (Int))) (x1 : (Int)) (x2 : (List (Int))) : s_l3Ok_f (x0, x1, x2) = (Option.bind (s_NetOk_f x0) fun r1 => (cond (r1) (Option.bind (s_StateOk_f (x1, x2)) fun r2 => (cond (r2) (some ((List.length x2 : Int) == (List.length x0 : Int))) (some false))) (some false))) := by
  kernel_rfl
theorem s_l3Ok_ent : Entb Tryz.prog 100 := ⟨Tryz.f100, by kernel_rfl, by kernel_rfl, by kernel_rfl⟩
theorem s_l3Ok_ok : CtrOk Tryz.prog 100 ⟨s_l3Ok_sig, s_l3Ok_f⟩ :=
  ctr_of (fn := Tryz.f100) (by kernel_rfl) (by kernel_rfl) (fun x : Ts s_l3Ok_sig.pc => s_l3Ok_E) (fun x => ⟨(fn_cons ⟨s_StateOk_ok, s_StateOk_ent⟩ (fn_cons ⟨s_NetOk_ok, s_NetOk_ent⟩ fn_none)), clo_none, wr_none⟩) (fun h => by cases h) follows_ (fun _ _ => trivial)
end FN

set_option linter.unusedVariables false
namespace FN
open Go Go.Proofs
/-! loop.example/firingnets/spec.PlaceOk -/
@[reducible] def s_PlaceOk_sig : Sig := { ps := [some 3], pc := [.view .i64, .int .i64, .view .i64], rs := [none], rc := [.bool] }
noncomputable def s_PlaceOk_E : Env' := { fn := fun f => if f = 100 then some ⟨s_l3Ok_sig, s_l3Ok_f⟩ else none, ck := ckT, cuts := [], mine := fun i => false }
noncomputable def s_PlaceOk_f (x : Ts s_PlaceOk_sig.pc) : Option (Ts s_PlaceOk_sig.rc) := runFn Tryz.prog (s_PlaceOk_E) Tryz.f42 s_PlaceOk_sig x
theorem s_PlaceOk_f_eq (x0 : (List (Int))) (x1 : (Int)) (x2 : (List (Int))) : s_PlaceOk_f (x0, x1, x2) = (Option.bind (s_l3Ok_f (x0, x1, x2)) fun r1 => (some r1)) := by
  kernel_rfl
theorem s_PlaceOk_ent : Entb Tryz.prog 42 := ⟨Tryz.f42, by kernel_rfl, by kernel_rfl, by kernel_rfl⟩
theorem s_PlaceOk_ok : CtrOk Tryz.prog 42 ⟨s_PlaceOk_sig, s_PlaceOk_f⟩ :=
  ctr_of (fn := Tryz.f42) (by kernel_rfl) (by kernel_rfl) (fun x : Ts s_PlaceOk_sig.pc => s_PlaceOk_E) (fun x => ⟨(fn_cons ⟨s_l3Ok_ok, s_l3Ok_ent⟩ fn_none), clo_none, wr_none⟩) (fun h => by cases h) follows_ (fun _ _ => trivial)
end FN

set_option linter.unusedVariables false
namespace FN
open Go Go.Proofs
/-! loop.example/firingnets/spec.PlaceText -/
@[reducible] def s_PlaceText_sig : Sig := { ps := [some 3], pc := [.view .i64, .int .i64, .view .i64], rs := [none], rc := [.str] }
noncomputable def s_PlaceText_E : Env' := { fn := fun f => if f = 42 then some ⟨s_PlaceOk_sig, s_PlaceOk_f⟩ else if f = 64 then some ⟨s_l1Number_sig, s_l1Number_f⟩ else none, ck := ckT, cuts := [(6, [1, 3, 4, 5]), (10, [1, 3, 4, 5, 6]), (15, [1, 3, 4, 5, 6]), (16, [1, 3, 4]), (18, [1, 3, 4])], mine := fun i => false }
noncomputable def s_PlaceText_f (x : Ts s_PlaceText_sig.pc) : Option (Ts s_PlaceText_sig.rc) := runFn Tryz.prog (s_PlaceText_E) Tryz.f89 s_PlaceText_sig x
noncomputable def s_PlaceText_l0 (y0 : ByteArray) (y1 : ByteArray) (y2 : Int) (y3 : List (Int)) (y4 : Int) (y5 : List (Int)) : Option ((ByteArray)) := from_ Tryz.prog (s_PlaceText_E) Tryz.f89 s_PlaceText_sig [1, 1, 1, 1, 0, 1, 0] ⟨mkT 71 [(1, .ptr 0 0), (3, .str y0), (4, .str y1), (5, .int .i64 y2)], [some (.box 25 [.row false .i64 y3, .int .i64 y4, .row false .i64 y5])]⟩
noncomputable def s_PlaceText_l1 (y0 : ByteArray) (y1 : ByteArray) (y2 : Int) (y3 : Int) (y4 : List (Int)) (y5 : Int) (y6 : List (Int)) : Option ((ByteArray)) := from_ Tryz.prog (s_PlaceText_E) Tryz.f89 s_PlaceText_sig [1, 1, 1, 1, 0, 1, 0, 0, 1, 0, 0, 1, 1, 0] ⟨mkT 71 [(1, .ptr 0 0), (3, .str y0), (4, .str y1), (5, .int .i64 y2), (6, .int .i64 y3)], [some (.box 25 [.row false .i64 y4, .int .i64 y5, .row false .i64 y6])]⟩
noncomputable def s_PlaceText_j2 (y0 : ByteArray) (y1 : ByteArray) (y2 : List (Int)) (y3 : Int) (y4 : List (Int)) : Option ((ByteArray)) := from_ Tryz.prog (s_PlaceText_E) Tryz.f89 s_PlaceText_sig [1, 1, 1, 1, 1] ⟨mkT 71 [(1, .ptr 0 0), (3, .str y0), (4, .str y1)], [some (.box 25 [.row false .i64 y2, .int .i64 y3, .row false .i64 y4])]⟩
noncomputable def s_PlaceText_j3 (y0 : ByteArray) (y1 : ByteArray) (y2 : Int) (y3 : Int) (y4 : List (Int)) (y5 : Int) (y6 : List (Int)) : Option ((ByteArray)) := from_ Tryz.prog (s_PlaceText_E) Tryz.f89 s_PlaceText_sig [1, 1, 1, 1, 0, 1, 0, 0, 1, 0, 0, 1, 1, 0, 0, 1, 0, 0, 1, 1] ⟨mkT 71 [(1, .ptr 0 0), (3, .str y0), (4, .str y1), (5, .int .i64 y2), (6, .int .i64 y3)], [some (.box 25 [.row false .i64 y4, .int .i64 y5, .row false .i64 y6])]⟩
noncomputable def s_PlaceText_j4 (y0 : ByteArray) (y1 : ByteArray) (y2 : List (Int)) (y3 : Int) (y4 : List (Int)) : Option ((ByteArray)) := from_ Tryz.prog (s_PlaceText_E) Tryz.f89 s_PlaceText_sig [1, 1, 1, 1, 1, 1] ⟨mkT 71 [(1, .ptr 0 0), (3, .str y0), (4, .str y1)], [some (.box 25 [.row false .i64 y2, .int .i64 y3, .row false .i64 y4])]⟩
theorem s_PlaceText_f_eq (x0 : (List (Int))) (x1 : (Int)) (x2 : (List (Int))) : s_PlaceText_f (x0, x1, x2) = (Option.bind (s_PlaceOk_f (x0, x1, x2)) fun r1 => (cond ((!r1)) (some ByteArray.empty) (s_PlaceText_l0 ByteArray.empty ByteArray.empty 0 x0 x1 x2))) := by
  kernel_rfl
theorem s_PlaceText_l0_eq (y0 : ByteArray) (y1 : ByteArray) (y2 : Int) (y3 : List (Int)) (y4 : Int) (y5 : List (Int)) : s_PlaceText_l0 y0 y1 y2 y3 y4 y5 = (cond ((decide (y2 < (List.length y3 : Int)))) (if (0 : Int) ≤ y2 ∧ y2 < (List.length y5 : Int) then (Option.bind (s_l1Number_f (List.getD y5 (y2 : Int).toNat 0)) fun r1 => (if ByteArray.size y1 + ByteArray.size r1 ≤ 9223372036854775807 then (s_PlaceText_l1 y0 (y1 ++ r1) y2 (IntKind.i64.wrap (y2 + 1)) y3 y4 y5) else none)) else none) (s_PlaceText_j2 y0 y1 y3 y4 y5)) := by
  refine (loopK_eq Tryz.prog (s_PlaceText_E) (sub (Tryz.f89.body.getD .skip) [1, 1, 1, 1, 0, 1, 0, 0]) _ _).trans ?_
  kernel_rfl
theorem s_PlaceText_l1_eq (y0 : ByteArray) (y1 : ByteArray) (y2 : Int) (y3 : Int) (y4 : List (Int)) (y5 : Int) (y6 : List (Int)) : s_PlaceText_l1 y0 y1 y2 y3 y4 y5 y6 = (cond ((decide (y3 < (List.length y4 : Int)))) (if (0 : Int) ≤ y2 ∧ y2 < (List.length y4 : Int) then (if y3 < 0 then none else (cond (((Int.tmod (Int.fdiv (List.getD y4 (y2 : Int).toNat 0) (2 ^ min (y3 : Int).toNat IntKind.i64.bits)) 2) == 0)) (s_PlaceText_l1 y0 y1 y2 (IntKind.i64.wrap (y3 + 1)) y4 y5 y6) (cond ((!(ByteArray.toList y0 == ByteArray.toList ByteArray.empty))) (if ByteArray.size y0 + ByteArray.size str14 ≤ 9223372036854775807 then (s_PlaceText_j3 (y0 ++ str14) y1 y2 y3 y4 y5 y6) else none) (s_PlaceText_j3 y0 y1 y2 y3 y4 y5 y6)))) else none) (s_PlaceText_l0 y0 y1 (IntKind.i64.wrap (y2 + 1)) y4 y5 y6)) := by
  refine (loopK_eq Tryz.prog (s_PlaceText_E) (sub (Tryz.f89.body.getD .skip) [1, 1, 1, 1, 0, 1, 0, 0, 1, 0, 0, 1, 1, 0, 0]) _ _).trans ?_
  kernel_rfl
theorem s_PlaceText_j2_eq (y0 : ByteArray) (y1 : ByteArray) (y2 : List (Int)) (y3 : Int) (y4 : List (Int)) : s_PlaceText_j2 y0 y1 y2 y3 y4 = (cond ((ByteArray.toList y0 == ByteArray.toList ByteArray.empty)) (s_PlaceText_j4 str15 y1 y2 y3 y4) (s_PlaceText_j4 y0 y1 y2 y3 y4)) := by
  kernel_rfl
theorem s_PlaceText_j3_eq (y0 : ByteArray) (y1 : ByteArray) (y2 : Int) (y3 : Int) (y4 : List (Int)) (y5 : Int) (y6 : List (Int)) : s_PlaceText_j3 y0 y1 y2 y3 y4 y5 y6 = (Option.bind (s_l1Number_f y2) fun r1 => (if ByteArray.size y0 + ByteArray.size r1 ≤ 9223372036854775807 then (Option.bind (s_l1Number_f y3) fun r2 => (if ByteArray.size (y0 ++ r1) + ByteArray.size r2 ≤ 9223372036854775807 then (s_PlaceText_l1 ((y0 ++ r1) ++ r2) y1 y2 (IntKind.i64.wrap (y3 + 1)) y4 y5 y6) else none)) else none)) := by
  kernel_rfl
theorem s_PlaceText_j4_eq (y0 : ByteArray) (y1 : ByteArray) (y2 : List (Int)) (y3 : Int) (y4 : List (Int)) : s_PlaceText_j4 y0 y1 y2 y3 y4 = (Option.bind (s_l1Number_f (List.length y2 : Int)) fun r1 => (if ByteArray.size r1 + ByteArray.size str1 ≤ 9223372036854775807 then (if ByteArray.size (r1 ++ str1) + ByteArray.size y0 ≤ 9223372036854775807 then (if ByteArray.size ((r1 ++ str1) ++ y0) + ByteArray.size str1 ≤ 9223372036854775807 then (Option.bind (s_l1Number_f y3) fun r2 => (if ByteArray.size (((r1 ++ str1) ++ y0) ++ str1) + ByteArray.size r2 ≤ 9223372036854775807 then (if ByteArray.size ((((r1 ++ str1) ++ y0) ++ str1) ++ r2) + ByteArray.size str1 ≤ 9223372036854775807 then (if ByteArray.size (((((r1 ++ str1) ++ y0) ++ str1) ++ r2) ++ str1) + ByteArray.size y1 ≤ 9223372036854775807 then (some ((((((r1 ++ str1) ++ y0) ++ str1) ++ r2) ++ str1) ++ y1)) else none) else none) else none)) else none) else none) else none)) := by
  kernel_rfl
theorem s_PlaceText_ent : Entb Tryz.prog 89 := ⟨Tryz.f89, by kernel_rfl, by kernel_rfl, by kernel_rfl⟩
theorem s_PlaceText_ok : CtrOk Tryz.prog 89 ⟨s_PlaceText_sig, s_PlaceText_f⟩ :=
  ctr_of (fn := Tryz.f89) (by kernel_rfl) (by kernel_rfl) (fun x : Ts s_PlaceText_sig.pc => s_PlaceText_E) (fun x => ⟨(fn_cons ⟨s_PlaceOk_ok, s_PlaceOk_ent⟩ (fn_cons ⟨s_l1Number_ok, s_l1Number_ent⟩ fn_none)), clo_none, wr_none⟩) (fun h => by cases h) follows_ (fun _ _ => trivial)
end FN

set_option linter.unusedVariables false
namespace FN
open Go Go.Proofs
/-! loop.example/firingnets/impl.PlaceText -/
@[reducible] def i_PlaceText_sig : Sig := { ps := [some 3], pc := [.view .i64, .int .i64, .view .i64], rs := [none], rc := [.str] }
noncomputable def i_PlaceText_E : Env' := { fn := fun f => if f = 44 then some ⟨i_PlaceOk_sig, i_PlaceOk_f⟩ else if f = 73 then some ⟨x_strconv_Itoa_sig, x_strconv_Itoa_f⟩ else if f = 108 then some ⟨x_strings_Join_sig, x_strings_Join_f⟩ else none, ck := ckT, cuts := [(5, [1, 3, 15, 16, 17]), (8, [1, 3, 4, 5, 6, 15, 16, 17]), (13, [1, 3]), (15, [1, 3]), (17, [7, 66, 67, 68])], mine := fun i => false }
noncomputable def i_PlaceText_f (x : Ts i_PlaceText_sig.pc) : Option (Ts i_PlaceText_sig.rc) := runFn Tryz.prog (i_PlaceText_E) Tryz.f59 i_PlaceText_sig x
noncomputable def i_PlaceText_l0 (y0 : List (Int)) (y1 : Int) (y2 : Int) (y3 : List (Int)) (y4 : Int) (y5 : List (Int)) (y6 : List (ByteArray)) : Option ((ByteArray)) := from_ Tryz.prog (i_PlaceText_E) Tryz.f59 i_PlaceText_sig [1, 1, 1, 0, 1, 0] ⟨mkT 78 [(1, .ptr 0 0), (3, .own 1), (15, .row false .i64 y0), (16, .int .i64 y1), (17, .int .i64 y2)], [some (.box 25 [.row false .i64 y3, .int .i64 y4, .row false .i64 y5]), some (.arr 9 true .str y6)]⟩
noncomputable def i_PlaceText_l1 (y0 : Int) (y1 : Int) (y2 : Int) (y3 : List (Int)) (y4 : Int) (y5 : Int) (y6 : List (Int)) (y7 : Int) (y8 : List (Int)) (y9 : List (ByteArray)) : Option ((ByteArray)) := from_ Tryz.prog (i_PlaceText_E) Tryz.f59 i_PlaceText_sig [1, 1, 1, 0, 1, 0, 0, 1, 1, 0, 0, 1, 1, 0] ⟨mkT 78 [(1, .ptr 0 0), (3, .own 1), (4, .int .i64 y0), (5, .int .i64 y1), (6, .int .i64 y2), (15, .row false .i64 y3), (16, .int .i64 y4), (17, .int .i64 y5)], [some (.box 25 [.row false .i64 y6, .int .i64 y7, .row false .i64 y8]), some (.arr 9 true .str y9)]⟩
noncomputable def i_PlaceText_j2 (y0 : List (Int)) (y1 : Int) (y2 : List (Int)) (y3 : List (ByteArray)) : Option ((ByteArray)) := from_ Tryz.prog (i_PlaceText_E) Tryz.f59 i_PlaceText_sig [1, 1, 1, 1] ⟨mkT 78 [(1, .ptr 0 0), (3, .own 1)], [some (.box 25 [.row false .i64 y0, .int .i64 y1, .row false .i64 y2]), some (.arr 9 true .str y3)]⟩
noncomputable def i_PlaceText_j3 (y0 : List (Int)) (y1 : Int) (y2 : List (Int)) (y3 : List (ByteArray)) : Option ((ByteArray)) := from_ Tryz.prog (i_PlaceText_E) Tryz.f59 i_PlaceText_sig [1, 1, 1, 1, 1] ⟨mkT 78 [(1, .ptr 0 0), (3, .own 1)], [some (.box 25 [.row false .i64 y0, .int .i64 y1, .row false .i64 y2]), some (.arr 9 true .str y3)]⟩
noncomputable def i_PlaceText_l4 (y0 : ByteArray) (y1 : List (Int)) (y2 : Int) (y3 : Int) : Option ((ByteArray)) := from_ Tryz.prog (i_PlaceText_E) Tryz.f59 i_PlaceText_sig [1, 1, 1, 1, 1, 1, 0, 1, 0] ⟨mkT 78 [(7, .str y0), (66, .row false .i64 y1), (67, .int .i64 y2), (68, .int .i64 y3)], []⟩
theorem i_PlaceText_f_eq (x0 : (List (Int))) (x1 : (Int)) (x2 : (List (Int))) : i_PlaceText_f (x0, x1, x2) = (Option.bind (i_PlaceOk_f (x0, x1, x2)) fun r1 => (cond ((!r1)) (some ByteArray.empty) (i_PlaceText_l0 x0 (List.length x0 : Int) 0 x0 x1 x2 ([] : List (ByteArray))))) := by
  kernel_rfl
theorem i_PlaceText_l0_eq (y0 : List (Int)) (y1 : Int) (y2 : Int) (y3 : List (Int)) (y4 : Int) (y5 : List (Int)) (y6 : List (ByteArray)) : i_PlaceText_l0 y0 y1 y2 y3 y4 y5 y6 = (cond ((decide (y2 < y1))) (if (0 : Int) ≤ y2 ∧ y2 < (List.length y0 : Int) then (i_PlaceText_l1 y2 (List.getD y0 (y2 : Int).toNat 0) (IntKind.i64.wrap (y2 + 1)) y0 y1 y2 y3 y4 y5 y6) else none) (i_PlaceText_j2 y3 y4 y5 y6)) := by
  refine (loopK_eq Tryz.prog (i_PlaceText_E) (sub (Tryz.f59.body.getD .skip) [1, 1, 1, 0, 1, 0, 0]) _ _).trans ?_
  kernel_rfl
theorem i_PlaceText_l1_eq (y0 : Int) (y1 : Int) (y2 : Int) (y3 : List (Int)) (y4 : Int) (y5 : Int) (y6 : List (Int)) (y7 : Int) (y8 : List (Int)) (y9 : List (ByteArray)) : i_PlaceText_l1 y0 y1 y2 y3 y4 y5 y6 y7 y8 y9 = (cond ((decide (y2 < (List.length y6 : Int)))) (if y2 < 0 then none else (cond (((Go.bits .and IntKind.i64 (Int.fdiv y1 (2 ^ min (y2 : Int).toNat IntKind.i64.bits)) 1) == 1)) (Option.bind (x_strconv_Itoa_f y0) fun r1 => (Option.bind (x_strconv_Itoa_f y2) fun r2 => (if ByteArray.size r1 + ByteArray.size r2 ≤ 9223372036854775807 then (if (List.length y9 + List.length ([(r1 ++ r2)] : List (ByteArray))) * 16 ≤ 140737488355328 then (i_PlaceText_l1 y0 y1 (IntKind.i64.wrap (y2 + 1)) y3 y4 y5 y6 y7 y8 (y9 ++ ([(r1 ++ r2)] : List (ByteArray)))) else none) else none))) (i_PlaceText_l1 y0 y1 (IntKind.i64.wrap (y2 + 1)) y3 y4 y5 y6 y7 y8 y9))) (i_PlaceText_l0 y3 y4 (IntKind.i64.wrap (y5 + 1)) y6 y7 y8 y9)) := by
  refine (loopK_eq Tryz.prog (i_PlaceText_E) (sub (Tryz.f59.body.getD .skip) [1, 1, 1, 0, 1, 0, 0, 1, 1, 0, 0, 1, 1, 0, 0]) _ _).trans ?_
  kernel_rfl
theorem i_PlaceText_j2_eq (y0 : List (Int)) (y1 : Int) (y2 : List (Int)) (y3 : List (ByteArray)) : i_PlaceText_j2 y0 y1 y2 y3 = (cond (((List.length y3 : Int) == 0)) (if (List.length y3 + List.length ([str15] : List (ByteArray))) * 16 ≤ 140737488355328 then (i_PlaceText_j3 y0 y1 y2 (y3 ++ ([str15] : List (ByteArray)))) else none) (i_PlaceText_j3 y0 y1 y2 y3)) := by
  kernel_rfl
theorem i_PlaceText_j3_eq (y0 : List (Int)) (y1 : Int) (y2 : List (Int)) (y3 : List (ByteArray)) : i_PlaceText_j3 y0 y1 y2 y3 = (Option.bind (x_strconv_Itoa_f (List.length y0 : Int)) fun r1 => (if ByteArray.size r1 + ByteArray.size str1 ≤ 9223372036854775807 then (Option.bind (x_strings_Join_f (y3, str14)) fun r2 => (if ByteArray.size (r1 ++ str1) + ByteArray.size r2 ≤ 9223372036854775807 then (if ByteArray.size ((r1 ++ str1) ++ r2) + ByteArray.size str1 ≤ 9223372036854775807 then (Option.bind (x_strconv_Itoa_f y1) fun r3 => (if ByteArray.size (((r1 ++ str1) ++ r2) ++ str1) + ByteArray.size r3 ≤ 9223372036854775807 then (if ByteArray.size ((((r1 ++ str1) ++ r2) ++ str1) ++ r3) + ByteArray.size str1 ≤ 9223372036854775807 then (i_PlaceText_l4 (((((r1 ++ str1) ++ r2) ++ str1) ++ r3) ++ str1) y2 (List.length y2 : Int) 0) else none) else none)) else none) else none)) else none)) := by
  kernel_rfl
theorem i_PlaceText_l4_eq (y0 : ByteArray) (y1 : List (Int)) (y2 : Int) (y3 : Int) : i_PlaceText_l4 y0 y1 y2 y3 = (cond ((decide (y3 < y2))) (if (0 : Int) ≤ y3 ∧ y3 < (List.length y1 : Int) then (Option.bind (x_strconv_Itoa_f (List.getD y1 (y3 : Int).toNat 0)) fun r1 => (if ByteArray.size y0 + ByteArray.size r1 ≤ 9223372036854775807 then (i_PlaceText_l4 (y0 ++ r1) y1 y2 (IntKind.i64.wrap (y3 + 1))) else none)) else none) (some y0)) := by
  refine (loopK_eq Tryz.prog (i_PlaceText_E) (sub (Tryz.f59.body.getD .skip) [1, 1, 1, 1, 1, 1, 0, 1, 0, 0]) _ _).trans ?_
  kernel_rfl
theorem i_PlaceText_ent : Entb Tryz.prog 59 := ⟨Tryz.f59, by kernel_rfl, by kernel_rfl, by kernel_rfl⟩
theorem i_PlaceText_ok : CtrOk Tryz.prog 59 ⟨i_PlaceText_sig, i_PlaceText_f⟩ :=
  ctr_of (fn := Tryz.f59) (by kernel_rfl) (by kernel_rfl) (fun x : Ts i_PlaceText_sig.pc => i_PlaceText_E) (fun x => ⟨(fn_cons ⟨i_PlaceOk_ok, i_PlaceOk_ent⟩ (fn_cons ⟨x_strconv_Itoa_ok, x_strconv_Itoa_ent⟩ (fn_cons ⟨x_strings_Join_ok, x_strings_Join_ent⟩ fn_none))), clo_none, wr_none⟩) (fun h => by cases h) follows_ (fun _ _ => trivial)
end FN

set_option linter.unusedVariables false
namespace FN
open Go Go.Proofs
/-! loop.example/firingnets/impl.ReadPlace -/
@[reducible] def i_ReadPlace_sig : Sig := { ps := [none], pc := [.str], rs := [some 3, none], rc := [.row 3 .i64, .int .i64, .row 3 .i64, .bool] }
noncomputable def i_ReadPlace_E : Env' := { fn := fun f => if f = 58 then some ⟨x_strings_Split_sig, x_strings_Split_f⟩ else if f = 59 then some ⟨i_PlaceText_sig, i_PlaceText_f⟩ else none, ck := ckT, cuts := [(10, [0, 2, 4, 5, 6, 61, 62, 63]), (15, [0, 2, 4, 5, 6, 9, 10, 61, 62, 63]), (17, [0, 2, 4, 5, 6, 9, 10, 61, 62, 63]), (18, [0, 2, 4, 5, 6, 9, 10, 61, 62, 63]), (20, [0, 2, 4, 6]), (21, [0, 2, 4, 6, 118, 119]), (25, [0, 2, 6])], mine := fun i => false }
end FN

/-! strconv.Atoi: the shelf's contracts, as one of ours: the error is told by nobody. -/
namespace FN
open Go Go.Proofs Go.RowKit
def atoiV (s : ByteArray) : Int := match Lib.atoiAll s.data.toList with
  | .ok v => v
  | .«syntax» => 0
  | .range => Lib.atoiSat s.data.toList
@[reducible] def x_strconv_Atoi_sig : Sig := { ps := [none], pc := [.str], rs := [none, none], rc := [.int .i64, .any] }
def x_strconv_Atoi_f (s : Ts x_strconv_Atoi_sig.pc) : Option (Ts x_strconv_Atoi_sig.rc) := if ByteArray.size s ≤ 281474976710656 then some (atoiV s, ()) else none
theorem x_strconv_Atoi_ent : Entb Tryz.prog 67 := ⟨Tryz.f67, by kernel_rfl, by kernel_rfl, by kernel_rfl⟩
theorem kpB {pin : Pn} {w w' : World} (h : Below w.heap.size w w') : Kp pin w.heap.size w w' := ⟨h.os, h.tape, h.output, h.size, fun k hk _ => h.block k hk⟩
theorem x_strconv_Atoi_ok : CtrOk Tryz.prog 67 ⟨x_strconv_Atoi_sig, x_strconv_Atoi_f⟩ := by
  intro w okc args bx x r hI hA hr
  obtain ⟨rfl, fl, h1, h2⟩ := (show bx = none ∧ ∃ fl, flatV [none] args.toList = some fl ∧ F2 (V1 (av w okc)) [PV.str x] fl from hA)
  obtain ⟨p, h3, rfl⟩ := flatV_one h1
  cases h2 with
  | cons hp _ =>
    have hp : p = .string x := hp
    subst hp
    have hx : (if ByteArray.size x ≤ 281474976710656 then some (atoiV x, ()) else none) = some r := hr
    split at hx
    · rename_i hc
      injection hx with hx
      subst hx
      have hargs : args = #[.string x] := by apply Array.ext'; rw [h3]
      rw [hargs]
      have fin : ∀ (e : Ending) (w' : World) (u : Value), e = .returned (.tuple #[.int .i64 (atoiV x), u]) → Below w.heap.size w w' → ∃ v, e = .returned v ∧ RetR x_strconv_Atoi_sig w w' okc (none : Option (Nat × List Int)) (atoiV x, ()) v ∧ Kp ⟨fun k => ∃ b, (none : Option (Nat × List Int)) = some (k, b), fun _ => True⟩ w.heap.size w w' := by
        intro e w' u he hb
        exact ⟨_, he, ⟨[.int .i64 (atoiV x), u], fun _ => False, ⟨_, _, rfl, rfl, ⟨_, rfl, trivial⟩⟩, fun i j u u' g hu => by simp [rowsV] at hu, fun k h => h, (fun h => Bool.noConfusion (show (false : Bool) = true from h)), [.int .i64 (atoiV x), u], rfl, rfl⟩, kpB hb⟩
      cases ha : Lib.atoiAll (ByteArray.data x).toList with
      | ok v =>
        have hv : atoiV x = v := by unfold atoiV; rw [ha]
        refine (Tryz.strconv_Atoi_ok x (Nat.le_trans hc (by decide)) v ha w).mono ?_
        rintro e w' ⟨he, hw⟩
        refine fin e w' .nilIface (by rw [hv]; exact he) ?_
        rcases hw with rfl | ⟨t, rfl⟩
        · exact Below.refl _ _
        · exact Lib.bytesWorld_below _ _ _
      | «syntax» =>
        have hv : atoiV x = 0 := by unfold atoiV; rw [ha]
        obtain ⟨ev, g1, g2⟩ := gl_syn hI
        refine (Tryz.strconv_Atoi_syntax x hc ha ev w g1 g2).mono ?_
        rintro e w' ⟨N, he, _, _, hb⟩
        exact fin e w' _ (by rw [hv]; exact he) hb
      | range =>
        have hv : atoiV x = Lib.atoiSat (ByteArray.data x).toList := by unfold atoiV; rw [ha]
        obtain ⟨ev, g1, g2⟩ := gl_ran hI
        refine (Tryz.strconv_Atoi_range x hc ha ev w g1 g2).mono ?_
        rintro e w' ⟨N, he, _, _, hb⟩
        exact fin e w' _ (by rw [hv]; exact he) hb
    · cases hx
end FN

set_option linter.unusedVariables false
namespace FN
open Go Go.Proofs
/-! slices.Index[[]string,string] -/
@[reducible] def x_slices_Index_string_string_sig : Sig := { ps := [none, none], pc := [.view .str, .str], rs := [none], rc := [.int .i64] }
noncomputable def x_slices_Index_string_string_E : Env' := { fn := fun f => none, ck := ckT, cuts := [(2, [0, 1, 7, 8])], mine := fun i => false }
noncomputable def x_slices_Index_string_string_f (x : Ts x_slices_Index_string_string_sig.pc) : Option (Ts x_slices_Index_string_string_sig.rc) := runFn Tryz.prog (x_slices_Index_string_string_E) Tryz.f66 x_slices_Index_string_string_sig x
noncomputable def x_slices_Index_string_string_l0 (y0 : List (ByteArray)) (y1 : ByteArray) (y2 : Int) (y3 : Int) : Option ((Int)) := from_ Tryz.prog (x_slices_Index_string_string_E) Tryz.f66 x_slices_Index_string_string_sig [1, 0, 1, 0] ⟨mkT 19 [(0, .row false .str y0), (1, .str y1), (7, .int .i64 y2), (8, .int .i64 y3)], []⟩
theorem x_slices_Index_string_string_f_eq (x0 : (List (ByteArray))) (x1 : (ByteArray)) : x_slices_Index_string_string_f (x0, x1) = (x_slices_Index_string_string_l0 x0 x1 (List.length x0 : Int) 0) := by
  kernel_rfl
theorem x_slices_Index_string_string_l0_eq (y0 : List (ByteArray)) (y1 : ByteArray) (y2 : Int) (y3 : Int) : x_slices_Index_string_string_l0 y0 y1 y2 y3 = (cond ((decide (y3 < y2))) (if (0 : Int) ≤ y3 ∧ y3 < (List.length y0 : Int) then (cond ((ByteArray.toList y1 == ByteArray.toList (List.getD y0 (y3 : Int).toNat ByteArray.empty))) (some y3) (x_slices_Index_string_string_l0 y0 y1 y2 (IntKind.i64.wrap (y3 + 1)))) else none) (some (-1))) := by
  refine (loopK_eq Tryz.prog (x_slices_Index_string_string_E) (sub (Tryz.f66.body.getD .skip) [1, 0, 1, 0, 0]) _ _).trans ?_
  kernel_rfl
theorem x_slices_Index_string_string_ent : Entb Tryz.prog 66 := ⟨Tryz.f66, by kernel_rfl, by kernel_rfl, by kernel_rfl⟩
theorem x_slices_Index_string_string_ok : CtrOk Tryz.prog 66 ⟨x_slices_Index_string_string_sig, x_slices_Index_string_string_f⟩ :=
  ctr_of (fn := Tryz.f66) (by kernel_rfl) (by kernel_rfl) (fun x : Ts x_slices_Index_string_string_sig.pc => x_slices_Index_string_string_E) (fun x => ⟨fn_none, clo_none, wr_none⟩) (fun h => by cases h) follows_ (fun _ _ => trivial)
end FN

set_option linter.unusedVariables false
namespace FN
open Go Go.Proofs
/-! loop.example/firingnets/impl.ReadDeed -/
@[reducible] def i_ReadDeed_sig : Sig := { ps := [none], pc := [.str], rs := [some 3, none], rc := [.int .i64, .int .i64, .int .i64, .bool] }
noncomputable def i_ReadDeed_E : Env' := { fn := fun f => if f = 58 then some ⟨x_strings_Split_sig, x_strings_Split_f⟩ else if f = 66 then some ⟨x_slices_Index_string_string_sig, x_slices_Index_string_string_f⟩ else if f = 67 then some ⟨x_strconv_Atoi_sig, x_strconv_Atoi_f⟩ else if f = 68 then some ⟨i_DeedText_sig, i_DeedText_f⟩ else none, ck := ckT, cuts := [(8, [0, 2, 4, 6]), (10, [0, 2, 6])], mine := fun i => false }
noncomputable def i_ReadDeed_f (x : Ts i_ReadDeed_sig.pc) : Option (Ts i_ReadDeed_sig.rc) := runFn Tryz.prog (i_ReadDeed_E) Tryz.f34 i_ReadDeed_sig x
noncomputable def i_ReadDeed_j0 (y0 : ByteArray) (y1 : List (ByteArray)) (y2 : Int) (y3 : Int) (y4 : Int) (y5 : Int) (y6 : Int) (y7 : Int) : Option ((Int) × (Int) × (Int) × (Bool)) := from_ Tryz.prog (i_ReadDeed_E) Tryz.f34 i_ReadDeed_sig [1, 1, 1, 1, 1, 1] ⟨mkT 55 [(0, .str y0), (2, .ptr 0 0), (4, .row true .str y1), (6, .ptr 1 0)], [some (.box 60 [.int .i64 y2, .int .i64 y3, .int .i64 y4]), some (.box 60 [.int .i64 y5, .int .i64 y6, .int .i64 y7])]⟩
noncomputable def i_ReadDeed_j1 (y0 : ByteArray) (y1 : Int) (y2 : Int) (y3 : Int) (y4 : Int) (y5 : Int) (y6 : Int) : Option ((Int) × (Int) × (Int) × (Bool)) := from_ Tryz.prog (i_ReadDeed_E) Tryz.f34 i_ReadDeed_sig [1, 1, 1, 1, 1, 1, 1] ⟨mkT 55 [(0, .str y0), (2, .ptr 0 0), (6, .ptr 1 0)], [some (.box 60 [.int .i64 y1, .int .i64 y2, .int .i64 y3]), some (.box 60 [.int .i64 y4, .int .i64 y5, .int .i64 y6])]⟩
theorem i_ReadDeed_f_eq (x0 : (ByteArray)) : i_ReadDeed_f x0 = (Option.bind (x_strings_Split_f (x0, str1)) fun r1 => (if (0 : Int) ≤ 0 ∧ 0 < (List.length r1 : Int) then (Option.bind (x_slices_Index_string_string_f (([str10, str11, str4, str12, str5] : List (ByteArray)), (List.getD r1 (0 : Int).toNat ByteArray.empty))) fun r2 => (cond ((decide (r2 < 0))) (some (0, 0, 0, false)) (cond ((decide (3 < (List.length r1 : Int)))) (some (0, 0, 0, false)) (if (0 : Int) ≤ r2 ∧ r2 < (List.length ([0, 1, 2, 3, 4] : List (Int)) : Int) then (cond ((decide (1 < (List.length r1 : Int)))) (if (0 : Int) ≤ 1 ∧ 1 < (List.length r1 : Int) then (Option.bind (x_strconv_Atoi_f (List.getD r1 (1 : Int).toNat ByteArray.empty)) fun r3 => (i_ReadDeed_j0 x0 r1 0 0 0 (List.getD ([0, 1, 2, 3, 4] : List (Int)) (r2 : Int).toNat 0) r3.1 0)) else none) (i_ReadDeed_j0 x0 r1 0 0 0 (List.getD ([0, 1, 2, 3, 4] : List (Int)) (r2 : Int).toNat 0) 0 0)) else none)))) else none)) := by
  kernel_rfl
theorem i_ReadDeed_j0_eq (y0 : ByteArray) (y1 : List (ByteArray)) (y2 : Int) (y3 : Int) (y4 : Int) (y5 : Int) (y6 : Int) (y7 : Int) : i_ReadDeed_j0 y0 y1 y2 y3 y4 y5 y6 y7 = (cond ((decide (2 < (List.length y1 : Int)))) (if (0 : Int) ≤ 2 ∧ 2 < (List.length y1 : Int) then (Option.bind (x_strconv_Atoi_f (List.getD y1 (2 : Int).toNat ByteArray.empty)) fun r1 => (i_ReadDeed_j1 y0 y2 y3 y4 y5 y6 r1.1)) else none) (i_ReadDeed_j1 y0 y2 y3 y4 y5 y6 y7)) := by
  kernel_rfl
theorem i_ReadDeed_j1_eq (y0 : ByteArray) (y1 : Int) (y2 : Int) (y3 : Int) (y4 : Int) (y5 : Int) (y6 : Int) : i_ReadDeed_j1 y0 y1 y2 y3 y4 y5 y6 = (Option.bind (i_DeedText_f (y4, y5, y6)) fun r1 => (cond ((!(ByteArray.toList r1 == ByteArray.toList y0))) (some (0, 0, 0, false)) (some (y4, y5, y6, true)))) := by
  kernel_rfl
theorem i_ReadDeed_ent : Entb Tryz.prog 34 := ⟨Tryz.f34, by kernel_rfl, by kernel_rfl, by kernel_rfl⟩
theorem i_ReadDeed_ok : CtrOk Tryz.prog 34 ⟨i_ReadDeed_sig, i_ReadDeed_f⟩ :=
  ctr_of (fn := Tryz.f34) (by kernel_rfl) (by kernel_rfl) (fun x : Ts i_ReadDeed_sig.pc => i_ReadDeed_E) (fun x => ⟨(fn_cons ⟨x_strings_Split_ok, x_strings_Split_ent⟩ (fn_cons ⟨x_slices_Index_string_string_ok, x_slices_Index_string_string_ent⟩ (fn_cons ⟨x_strconv_Atoi_ok, x_strconv_Atoi_ent⟩ (fn_cons ⟨i_DeedText_ok, i_DeedText_ent⟩ fn_none)))), clo_none, wr_none⟩) (fun h => by cases h) follows_ (fun _ _ => trivial)
end FN

set_option linter.unusedVariables false
namespace FN
open Go Go.Proofs
/-! loop.example/firingnets/spec.ReadDeed -/
@[reducible] def s_ReadDeed_sig : Sig := { ps := [none], pc := [.str], rs := [some 3, none], rc := [.int .i64, .int .i64, .int .i64, .bool] }
noncomputable def s_ReadDeed_E : Env' := { fn := fun f => if f = 65 then some ⟨s_DeedText_sig, s_DeedText_f⟩ else if f = 86 then some ⟨s_l1Cut_sig, s_l1Cut_f⟩ else if f = 87 then some ⟨s_l1Digits_sig, s_l1Digits_f⟩ else none, ck := ckT, cuts := [(6, [0, 2, 4, 5]), (8, [0, 2, 5]), (9, [0, 2, 5, 7])], mine := fun i => false }
noncomputable def s_ReadDeed_f (x : Ts s_ReadDeed_sig.pc) : Option (Ts s_ReadDeed_sig.rc) := runFn Tryz.prog (s_ReadDeed_E) Tryz.f39 s_ReadDeed_sig x
noncomputable def s_ReadDeed_j0 (y0 : ByteArray) (y1 : List (ByteArray)) (y2 : Int) (y3 : Int) (y4 : Int) (y5 : List (Int × Int × Int)) : Option ((Int) × (Int) × (Int) × (Bool)) := from_ Tryz.prog (s_ReadDeed_E) Tryz.f39 s_ReadDeed_sig [1, 1, 1, 1] ⟨mkT 64 [(0, .str y0), (2, .ptr 0 0), (4, .row true .str y1), (5, .own 1)], [some (.box 60 [.int .i64 y2, .int .i64 y3, .int .i64 y4]), some (.arr 60 true .deed y5)]⟩
noncomputable def s_ReadDeed_j1 (y0 : ByteArray) (y1 : Int) (y2 : Int) (y3 : Int) (y4 : List (Int × Int × Int)) : Option ((Int) × (Int) × (Int) × (Bool)) := from_ Tryz.prog (s_ReadDeed_E) Tryz.f39 s_ReadDeed_sig [1, 1, 1, 1, 1] ⟨mkT 64 [(0, .str y0), (2, .ptr 0 0), (5, .own 1)], [some (.box 60 [.int .i64 y1, .int .i64 y2, .int .i64 y3]), some (.arr 60 true .deed y4)]⟩
noncomputable def s_ReadDeed_l2 (y0 : ByteArray) (y1 : Int) (y2 : Int) (y3 : Int) (y4 : Int) (y5 : List (Int × Int × Int)) : Option ((Int) × (Int) × (Int) × (Bool)) := from_ Tryz.prog (s_ReadDeed_E) Tryz.f39 s_ReadDeed_sig [1, 1, 1, 1, 1, 0, 1, 0] ⟨mkT 64 [(0, .str y0), (2, .ptr 0 0), (5, .own 1), (7, .int .i64 y1)], [some (.box 60 [.int .i64 y2, .int .i64 y3, .int .i64 y4]), some (.arr 60 true .deed y5)]⟩
theorem s_ReadDeed_f_eq (x0 : (ByteArray)) : s_ReadDeed_f x0 = (Option.bind (s_l1Cut_f (x0, 32)) fun r1 => (cond (((List.length r1 : Int) == 2)) (if (0 : Int) ≤ 1 ∧ 1 < (List.length r1 : Int) then (Option.bind (s_l1Digits_f (List.getD r1 (1 : Int).toNat ByteArray.empty)) fun r2 => (if (List.length ([(2, 0, 0), (4, 0, 0)] : List (Int × Int × Int)) + List.length ([(1, r2, 0), (3, r2, 0)] : List (Int × Int × Int))) * 24 ≤ 140737488355328 then (s_ReadDeed_j0 x0 r1 0 0 0 (([(2, 0, 0), (4, 0, 0)] : List (Int × Int × Int)) ++ ([(1, r2, 0), (3, r2, 0)] : List (Int × Int × Int)))) else none)) else none) (s_ReadDeed_j0 x0 r1 0 0 0 ([(2, 0, 0), (4, 0, 0)] : List (Int × Int × Int))))) := by
  kernel_rfl
theorem s_ReadDeed_j0_eq (y0 : ByteArray) (y1 : List (ByteArray)) (y2 : Int) (y3 : Int) (y4 : Int) (y5 : List (Int × Int × Int)) : s_ReadDeed_j0 y0 y1 y2 y3 y4 y5 = (cond (((List.length y1 : Int) == 3)) (if (0 : Int) ≤ 1 ∧ 1 < (List.length y1 : Int) then (if (0 : Int) ≤ 2 ∧ 2 < (List.length y1 : Int) then (Option.bind (s_l1Digits_f (List.getD y1 (1 : Int).toNat ByteArray.empty)) fun r1 => (Option.bind (s_l1Digits_f (List.getD y1 (2 : Int).toNat ByteArray.empty)) fun r2 => (if (List.length y5 + List.length ([(0, r1, r2)] : List (Int × Int × Int))) * 24 ≤ 140737488355328 then (s_ReadDeed_j1 y0 y2 y3 y4 (y5 ++ ([(0, r1, r2)] : List (Int × Int × Int)))) else none))) else none) else none) (s_ReadDeed_j1 y0 y2 y3 y4 y5)) := by
  kernel_rfl
theorem s_ReadDeed_j1_eq (y0 : ByteArray) (y1 : Int) (y2 : Int) (y3 : Int) (y4 : List (Int × Int × Int)) : s_ReadDeed_j1 y0 y1 y2 y3 y4 = (s_ReadDeed_l2 y0 0 y1 y2 y3 y4) := by
  kernel_rfl
theorem s_ReadDeed_l2_eq (y0 : ByteArray) (y1 : Int) (y2 : Int) (y3 : Int) (y4 : Int) (y5 : List (Int × Int × Int)) : s_ReadDeed_l2 y0 y1 y2 y3 y4 y5 = (cond ((decide (y1 < (List.length y5 : Int)))) (cond ((!(ByteArray.toList y0 == ByteArray.toList ByteArray.empty))) (if (0 : Int) ≤ y1 ∧ y1 < (List.length y5 : Int) then (Option.bind (s_DeedText_f ((List.getD y5 (y1 : Int).toNat (0, 0, 0)).1, (List.getD y5 (y1 : Int).toNat (0, 0, 0)).2.1, (List.getD y5 (y1 : Int).toNat (0, 0, 0)).2.2)) fun r1 => (cond ((ByteArray.toList r1 == ByteArray.toList y0)) (if (0 : Int) ≤ y1 ∧ y1 < (List.length y5 : Int) then (some ((List.getD y5 (y1 : Int).toNat (0, 0, 0)).1, (List.getD y5 (y1 : Int).toNat (0, 0, 0)).2.1, (List.getD y5 (y1 : Int).toNat (0, 0, 0)).2.2, true)) else none) (s_ReadDeed_l2 y0 (IntKind.i64.wrap (y1 + 1)) y2 y3 y4 y5))) else none) (s_ReadDeed_l2 y0 (IntKind.i64.wrap (y1 + 1)) y2 y3 y4 y5)) (some (0, 0, 0, false))) := by
  refine (loopK_eq Tryz.prog (s_ReadDeed_E) (sub (Tryz.f39.body.getD .skip) [1, 1, 1, 1, 1, 0, 1, 0, 0]) _ _).trans ?_
  kernel_rfl
theorem s_ReadDeed_ent : Entb Tryz.prog 39 := ⟨Tryz.f39, by kernel_rfl, by kernel_rfl, by kernel_rfl⟩
theorem s_ReadDeed_ok : CtrOk Tryz.prog 39 ⟨s_ReadDeed_sig, s_ReadDeed_f⟩ :=
  ctr_of (fn := Tryz.f39) (by kernel_rfl) (by kernel_rfl) (fun x : Ts s_ReadDeed_sig.pc => s_ReadDeed_E) (fun x => ⟨(fn_cons ⟨s_DeedText_ok, s_DeedText_ent⟩ (fn_cons ⟨s_l1Cut_ok, s_l1Cut_ent⟩ (fn_cons ⟨s_l1Digits_ok, s_l1Digits_ent⟩ fn_none))), clo_none, wr_none⟩) (fun h => by cases h) follows_ (fun _ _ => trivial)
end FN

set_option linter.unusedVariables false
namespace FN
open Go Go.Proofs
/-! loop.example/firingnets/spec.DeskOk -/
@[reducible] def s_DeskOk_sig : Sig := { ps := [some 4], pc := [.view .i64, .int .i64, .view .i64, .view .place], rs := [none], rc := [.bool] }
noncomputable def s_DeskOk_E : Env' := { fn := fun f => if f = 42 then some ⟨s_PlaceOk_sig, s_PlaceOk_f⟩ else none, ck := ckT, cuts := [(2, [1, 3]), (6, [1])], mine := fun i => false }
noncomputable def s_DeskOk_f (x : Ts s_DeskOk_sig.pc) : Option (Ts s_DeskOk_sig.rc) := runFn Tryz.prog (s_DeskOk_E) Tryz.f11 s_DeskOk_sig x
noncomputable def s_DeskOk_l0 (y0 : Int) (y1 : List (Int)) (y2 : Int) (y3 : List (Int)) (y4 : List (List Int × Int × List Int)) : Option ((Bool)) := from_ Tryz.prog (s_DeskOk_E) Tryz.f11 s_DeskOk_sig [1, 0, 1, 0] ⟨mkT 27 [(1, .ptr 0 0), (3, .int .i64 y0)], [some (.box 28 [.row false .i64 y1, .int .i64 y2, .row false .i64 y3, .row false .place y4])]⟩
noncomputable def s_DeskOk_j1 (y0 : List (Int)) (y1 : Int) (y2 : List (Int)) (y3 : List (List Int × Int × List Int)) : Option ((Bool)) := from_ Tryz.prog (s_DeskOk_E) Tryz.f11 s_DeskOk_sig [1, 1] ⟨mkT 27 [(1, .ptr 0 0)], [some (.box 28 [.row false .i64 y0, .int .i64 y1, .row false .i64 y2, .row false .place y3])]⟩
theorem s_DeskOk_f_eq (x0 : (List (Int))) (x1 : (Int)) (x2 : (List (Int))) (x3 : (List (List Int × Int × List Int))) : s_DeskOk_f (x0, x1, x2, x3) = (s_DeskOk_l0 0 x0 x1 x2 x3) := by
  kernel_rfl
theorem s_DeskOk_l0_eq (y0 : Int) (y1 : List (Int)) (y2 : Int) (y3 : List (Int)) (y4 : List (List Int × Int × List Int)) : s_DeskOk_l0 y0 y1 y2 y3 y4 = (cond ((decide (y0 < (List.length y4 : Int)))) (if (0 : Int) ≤ y0 ∧ y0 < (List.length y4 : Int) then (Option.bind (s_PlaceOk_f ((List.getD y4 (y0 : Int).toNat ([], 0, [])).1, (List.getD y4 (y0 : Int).toNat ([], 0, [])).2.1, (List.getD y4 (y0 : Int).toNat ([], 0, [])).2.2)) fun r1 => (cond ((!r1)) (some false) (s_DeskOk_l0 (IntKind.i64.wrap (y0 + 1)) y1 y2 y3 y4))) else none) (s_DeskOk_j1 y1 y2 y3 y4)) := by
  refine (loopK_eq Tryz.prog (s_DeskOk_E) (sub (Tryz.f11.body.getD .skip) [1, 0, 1, 0, 0]) _ _).trans ?_
  kernel_rfl
theorem s_DeskOk_j1_eq (y0 : List (Int)) (y1 : Int) (y2 : List (Int)) (y3 : List (List Int × Int × List Int)) : s_DeskOk_j1 y0 y1 y2 y3 = (Option.bind (s_PlaceOk_f (y0, y1, y2)) fun r1 => (cond (r1) (some (decide ((List.length y3 : Int) ≤ 8))) (some false))) := by
  kernel_rfl
theorem s_DeskOk_ent : Entb Tryz.prog 11 := ⟨Tryz.f11, by kernel_rfl, by kernel_rfl, by kernel_rfl⟩
theorem s_DeskOk_ok : CtrOk Tryz.prog 11 ⟨s_DeskOk_sig, s_DeskOk_f⟩ :=
  ctr_of (fn := Tryz.f11) (by kernel_rfl) (by kernel_rfl) (fun x : Ts s_DeskOk_sig.pc => s_DeskOk_E) (fun x => ⟨(fn_cons ⟨s_PlaceOk_ok, s_PlaceOk_ent⟩ fn_none), clo_none, wr_none⟩) (fun h => by cases h) follows_ (fun _ _ => trivial)
end FN

set_option linter.unusedVariables false
namespace FN
open Go Go.Proofs
/-! loop.example/firingnets/spec.l15Place -/
@[reducible] def s_l15Place_sig : Sig := { ps := [some 3], pc := [.view .i64, .int .i64, .view .i64], rs := [some 3], rc := [.row 3 .i64, .int .i64, .row 3 .i64] }
noncomputable def s_l15Place_E : Env' := { fn := fun f => none, ck := ckT, cuts := [], mine := fun i => false }
noncomputable def s_l15Place_f (x : Ts s_l15Place_sig.pc) : Option (Ts s_l15Place_sig.rc) := runFn Tryz.prog (s_l15Place_E) Tryz.f85 s_l15Place_sig x
theorem s_l15Place_f_eq (x0 : (List (Int))) (x1 : (Int)) (x2 : (List (Int))) : s_l15Place_f (x0, x1, x2) = (if (List.length ([] : List (Int)) + List.length x0) * 8 ≤ 140737488355328 then (if (List.length ([] : List (Int)) + List.length x2) * 8 ≤ 140737488355328 then (some ((([] : List (Int)) ++ x0), x1, (([] : List (Int)) ++ x2))) else none) else none) := by
  refine Eq.trans (b := (same [(same [(if (List.length ([] : List (Int)) + List.length x0) * 8 ≤ 140737488355328 then (if (List.length ([] : List (Int)) + List.length x2) * 8 ≤ 140737488355328 then (some ((([] : List (Int)) ++ x0), x1, (([] : List (Int)) ++ x2))) else none) else none), (if (List.length ([] : List (Int)) + List.length x0) * 8 ≤ 140737488355328 then (if (List.length ([] : List (Int)) + List.length x2) * 8 ≤ 140737488355328 then (some ((([] : List (Int)) ++ x0), x1, (([] : List (Int)) ++ x2))) else none) else none)]), (if (List.length ([] : List (Int)) + List.length x0) * 8 ≤ 140737488355328 then (if (List.length ([] : List (Int)) + List.length x2) * 8 ≤ 140737488355328 then (some ((([] : List (Int)) ++ x0), x1, (([] : List (Int)) ++ x2))) else none) else none)])) (by kernel_rfl) ?_
  simp only [same2, same3, same4, same5, same6, obind_ite]
theorem s_l15Place_ent : Entb Tryz.prog 85 := ⟨Tryz.f85, by kernel_rfl, by kernel_rfl, by kernel_rfl⟩
theorem s_l15Place_ok : CtrOk Tryz.prog 85 ⟨s_l15Place_sig, s_l15Place_f⟩ :=
  ctr_of (fn := Tryz.f85) (by kernel_rfl) (by kernel_rfl) (fun x : Ts s_l15Place_sig.pc => s_l15Place_E) (fun x => ⟨fn_none, clo_none, wr_none⟩) (fun h => by cases h) follows_ (fun _ _ => trivial)
end FN

set_option linter.unusedVariables false
namespace FN
open Go Go.Proofs
/-! loop.example/firingnets/spec.l15Copy -/
@[reducible] def s_l15Copy_sig : Sig := { ps := [some 4], pc := [.view .i64, .int .i64, .view .i64, .view .place], rs := [some 4], rc := [.row 3 .i64, .int .i64, .row 3 .i64, .row 25 .place] }
noncomputable def s_l15Copy_E : Env' := { fn := fun f => if f = 85 then some ⟨s_l15Place_sig, s_l15Place_f⟩ else none, ck := ckT, cuts := [(3, [1, 2, 3, 4])], mine := fun i => i == 7 || i == 23 }
noncomputable def s_l15Copy_f (x : Ts s_l15Copy_sig.pc) : Option (Ts s_l15Copy_sig.rc) := runFn Tryz.prog (s_l15Copy_E) Tryz.f38 s_l15Copy_sig x
noncomputable def s_l15Copy_l0 (y0 : Int) (y1 : List (Int)) (y2 : Int) (y3 : List (Int)) (y4 : List (List Int × Int × List Int)) (y5 : Int) (y6 : Int) (y7 : List (Int)) (y8 : List (Int)) : Option ((List (Int)) × (Int) × (List (Int)) × (List (List Int × Int × List Int))) := from_ Tryz.prog (s_l15Copy_E) Tryz.f38 s_l15Copy_sig [1, 1, 0, 1, 0] ⟨mkT 28 [(1, .ptr 0 0), (2, .ptr 1 0), (3, .ptr 2 0), (4, .int .i64 y0)], [some (.box 28 [.row false .i64 y1, .int .i64 y2, .row false .i64 y3, .row false .place y4]), some (.box 28 [.nilS, .int .i64 y5, .nilS, .nilS]), some (.box 28 [.own 3, .int .i64 y6, .own 4, .nilS]), some (.arr 3 true .i64 y7), some (.arr 3 true .i64 y8)]⟩
noncomputable def s_l15Copy_l1 (y0 : Int) (y1 : List (Int)) (y2 : Int) (y3 : List (Int)) (y4 : List (List Int × Int × List Int)) (y5 : Int) (y6 : Int) (y7 : List (Int)) (y8 : List (Int)) (y9 : List (List Int × Int × List Int)) : Option ((List (Int)) × (Int) × (List (Int)) × (List (List Int × Int × List Int))) := from_ Tryz.prog (s_l15Copy_E) Tryz.f38 s_l15Copy_sig [1, 1, 0, 1, 0] ⟨mkT 28 [(1, .ptr 0 0), (2, .ptr 1 0), (3, .ptr 2 0), (4, .int .i64 y0)], [some (.box 28 [.row false .i64 y1, .int .i64 y2, .row false .i64 y3, .row false .place y4]), some (.box 28 [.nilS, .int .i64 y5, .nilS, .nilS]), some (.box 28 [.own 3, .int .i64 y6, .own 4, .own 5]), some (.arr 3 true .i64 y7), some (.arr 3 true .i64 y8), some (.arr 25 true .place y9)]⟩
theorem s_l15Copy_f_eq (x0 : (List (Int))) (x1 : (Int)) (x2 : (List (Int))) (x3 : (List (List Int × Int × List Int))) : s_l15Copy_f (x0, x1, x2, x3) = (Option.bind (s_l15Place_f (x0, x1, x2)) fun r1 => (s_l15Copy_l0 0 x0 x1 x2 x3 0 r1.2.1 r1.1 r1.2.2)) := by
  kernel_rfl
theorem s_l15Copy_l0_eq (y0 : Int) (y1 : List (Int)) (y2 : Int) (y3 : List (Int)) (y4 : List (List Int × Int × List Int)) (y5 : Int) (y6 : Int) (y7 : List (Int)) (y8 : List (Int)) : s_l15Copy_l0 y0 y1 y2 y3 y4 y5 y6 y7 y8 = (cond ((decide (y0 < (List.length y4 : Int)))) (if (0 : Int) ≤ y0 ∧ y0 < (List.length y4 : Int) then (Option.bind (s_l15Place_f ((List.getD y4 (y0 : Int).toNat ([], 0, [])).1, (List.getD y4 (y0 : Int).toNat ([], 0, [])).2.1, (List.getD y4 (y0 : Int).toNat ([], 0, [])).2.2)) fun r1 => (if (List.length ([] : List (List Int × Int × List Int)) + List.length ([(r1.1, r1.2.1, r1.2.2)] : List (List Int × Int × List Int))) * 56 ≤ 140737488355328 then (s_l15Copy_l1 (IntKind.i64.wrap (y0 + 1)) y1 y2 y3 y4 y5 y6 y7 y8 (([] : List (List Int × Int × List Int)) ++ ([(r1.1, r1.2.1, r1.2.2)] : List (List Int × Int × List Int)))) else none)) else none) (some (y7, y6, y8, []))) := by
  refine (loopK_eq Tryz.prog (s_l15Copy_E) (sub (Tryz.f38.body.getD .skip) [1, 1, 0, 1, 0, 0]) _ _).trans ?_
  kernel_rfl
theorem s_l15Copy_l1_eq (y0 : Int) (y1 : List (Int)) (y2 : Int) (y3 : List (Int)) (y4 : List (List Int × Int × List Int)) (y5 : Int) (y6 : Int) (y7 : List (Int)) (y8 : List (Int)) (y9 : List (List Int × Int × List Int)) : s_l15Copy_l1 y0 y1 y2 y3 y4 y5 y6 y7 y8 y9 = (cond ((decide (y0 < (List.length y4 : Int)))) (if (0 : Int) ≤ y0 ∧ y0 < (List.length y4 : Int) then (Option.bind (s_l15Place_f ((List.getD y4 (y0 : Int).toNat ([], 0, [])).1, (List.getD y4 (y0 : Int).toNat ([], 0, [])).2.1, (List.getD y4 (y0 : Int).toNat ([], 0, [])).2.2)) fun r1 => (if (List.length y9 + List.length ([(r1.1, r1.2.1, r1.2.2)] : List (List Int × Int × List Int))) * 56 ≤ 140737488355328 then (s_l15Copy_l1 (IntKind.i64.wrap (y0 + 1)) y1 y2 y3 y4 y5 y6 y7 y8 (y9 ++ ([(r1.1, r1.2.1, r1.2.2)] : List (List Int × Int × List Int)))) else none)) else none) (some (y7, y6, y8, y9))) := by
  refine (loopK_eq Tryz.prog (s_l15Copy_E) (sub (Tryz.f38.body.getD .skip) [1, 1, 0, 1, 0, 0]) _ _).trans ?_
  kernel_rfl
theorem s_l15Copy_ent : Entb Tryz.prog 38 := ⟨Tryz.f38, by kernel_rfl, by kernel_rfl, by kernel_rfl⟩
theorem s_l15Copy_ok : CtrOk Tryz.prog 38 ⟨s_l15Copy_sig, s_l15Copy_f⟩ :=
  ctr_of (fn := Tryz.f38) (by kernel_rfl) (by kernel_rfl) (fun x : Ts s_l15Copy_sig.pc => s_l15Copy_E) (fun x => ⟨(fn_cons ⟨s_l15Place_ok, s_l15Place_ent⟩ fn_none), clo_none, wr_none⟩) (fun h => by cases h) follows_ (fun _ _ => trivial)
end FN

set_option linter.unusedVariables false
namespace FN
open Go Go.Proofs
/-! loop.example/firingnets/spec.l3Step -/
@[reducible] def s_l3Step_sig : Sig := { ps := [none, none, none], pc := [.view .i64, .int .i64, .view .i64], rs := [none], rc := [.row 3 .i64] }
noncomputable def s_l3Step_E : Env' := { fn := fun f => none, ck := ckT, cuts := [(3, [0, 1, 2, 7, 8]), (7, [0, 1, 2, 7]), (9, [0, 1, 2, 7, 9, 10])], mine := fun i => false }
noncomputable def s_l3Step_f (x : Ts s_l3Step_sig.pc) : Option (Ts s_l3Step_sig.rc) := runFn Tryz.prog (s_l3Step_E) Tryz.f125 s_l3Step_sig x
noncomputable def s_l3Step_l0 (y0 : List (Int)) (y1 : Int) (y2 : List (Int)) (y3 : Int) (y4 : Int) : Option ((List (Int))) := from_ Tryz.prog (s_l3Step_E) Tryz.f125 s_l3Step_sig [1, 1, 0, 1, 0] ⟨mkT 58 [(0, .row false .i64 y0), (1, .int .i64 y1), (2, .row false .i64 y2), (7, .int .i64 y3), (8, .int .i64 y4)], []⟩
noncomputable def s_l3Step_j1 (y0 : List (Int)) (y1 : Int) (y2 : List (Int)) (y3 : Int) : Option ((List (Int))) := from_ Tryz.prog (s_l3Step_E) Tryz.f125 s_l3Step_sig [1, 1, 1] ⟨mkT 58 [(0, .row false .i64 y0), (1, .int .i64 y1), (2, .row false .i64 y2), (7, .int .i64 y3)], []⟩
noncomputable def s_l3Step_l2 (y0 : List (Int)) (y1 : Int) (y2 : List (Int)) (y3 : Int) (y4 : Int) (y5 : List (Int)) : Option ((List (Int))) := from_ Tryz.prog (s_l3Step_E) Tryz.f125 s_l3Step_sig [1, 1, 1, 1, 0, 1, 0] ⟨mkT 58 [(0, .row false .i64 y0), (1, .int .i64 y1), (2, .row false .i64 y2), (7, .int .i64 y3), (9, .own 0), (10, .int .i64 y4)], [some (.arr 3 true .i64 y5)]⟩
theorem s_l3Step_f_eq (x0 : (List (Int))) (x1 : (Int)) (x2 : (List (Int))) : s_l3Step_f (x0, x1, x2) = (s_l3Step_l0 x0 x1 x2 0 0) := by
  kernel_rfl
theorem s_l3Step_l0_eq (y0 : List (Int)) (y1 : Int) (y2 : List (Int)) (y3 : Int) (y4 : Int) : s_l3Step_l0 y0 y1 y2 y3 y4 = (cond ((decide (y4 < (List.length y2 : Int)))) (if (0 : Int) ≤ y4 ∧ y4 < (List.length y2 : Int) then (cond (((List.getD y2 (y4 : Int).toNat 0) == 1)) (if y4 < 0 then none else (s_l3Step_l0 y0 y1 y2 (Go.bits .or IntKind.i64 y3 (IntKind.i64.wrap (1 * 2 ^ min (y4 : Int).toNat IntKind.i64.bits))) (IntKind.i64.wrap (y4 + 1)))) (s_l3Step_l0 y0 y1 y2 y3 (IntKind.i64.wrap (y4 + 1)))) else none) (s_l3Step_j1 y0 y1 y2 y3)) := by
  refine (loopK_eq Tryz.prog (s_l3Step_E) (sub (Tryz.f125.body.getD .skip) [1, 1, 0, 1, 0, 0]) _ _).trans ?_
  kernel_rfl
theorem s_l3Step_j1_eq (y0 : List (Int)) (y1 : Int) (y2 : List (Int)) (y3 : Int) : s_l3Step_j1 y0 y1 y2 y3 = (s_l3Step_l2 y0 y1 y2 y3 0 ([] : List (Int))) := by
  kernel_rfl
theorem s_l3Step_l2_eq (y0 : List (Int)) (y1 : Int) (y2 : List (Int)) (y3 : Int) (y4 : Int) (y5 : List (Int)) : s_l3Step_l2 y0 y1 y2 y3 y4 y5 = (cond ((decide (y4 < (List.length y2 : Int)))) (if (0 : Int) ≤ y4 ∧ y4 < (List.length y2 : Int) then (cond ((decide (0 < (List.getD y2 (y4 : Int).toNat 0)))) (if y1 = 0 then none else (if (List.length y5 + List.length ([(Int.tmod (IntKind.i64.wrap ((List.getD y2 (y4 : Int).toNat 0) + 1)) y1)] : List (Int))) * 8 ≤ 140737488355328 then (s_l3Step_l2 y0 y1 y2 y3 (IntKind.i64.wrap (y4 + 1)) (y5 ++ ([(Int.tmod (IntKind.i64.wrap ((List.getD y2 (y4 : Int).toNat 0) + 1)) y1)] : List (Int)))) else none)) (if (0 : Int) ≤ y4 ∧ y4 < (List.length y0 : Int) then (cond (((Go.bits .and IntKind.i64 (List.getD y0 (y4 : Int).toNat 0) y3) != 0)) (if (List.length y5 + List.length ([1] : List (Int))) * 8 ≤ 140737488355328 then (s_l3Step_l2 y0 y1 y2 y3 (IntKind.i64.wrap (y4 + 1)) (y5 ++ ([1] : List (Int)))) else none) (if (List.length y5 + List.length ([(List.getD y2 (y4 : Int).toNat 0)] : List (Int))) * 8 ≤ 140737488355328 then (s_l3Step_l2 y0 y1 y2 y3 (IntKind.i64.wrap (y4 + 1)) (y5 ++ ([(List.getD y2 (y4 : Int).toNat 0)] : List (Int)))) else none)) else none)) else none) (some y5)) := by
  refine (loopK_eq Tryz.prog (s_l3Step_E) (sub (Tryz.f125.body.getD .skip) [1, 1, 1, 1, 0, 1, 0, 0]) _ _).trans ?_
  kernel_rfl
theorem s_l3Step_ent : Entb Tryz.prog 125 := ⟨Tryz.f125, by kernel_rfl, by kernel_rfl, by kernel_rfl⟩
theorem s_l3Step_ok : CtrOk Tryz.prog 125 ⟨s_l3Step_sig, s_l3Step_f⟩ :=
  ctr_of (fn := Tryz.f125) (by kernel_rfl) (by kernel_rfl) (fun x : Ts s_l3Step_sig.pc => s_l3Step_E) (fun x => ⟨fn_none, clo_none, wr_none⟩) (fun h => by cases h) follows_ (fun _ _ => trivial)
end FN

set_option linter.unusedVariables false
namespace FN
open Go Go.Proofs
/-! loop.example/firingnets/spec.l15Made -/
@[reducible] def s_l15Made_sig : Sig := { ps := [some 3, some 3], pc := [.view .i64, .int .i64, .view .i64, .int .i64, .int .i64, .int .i64], rs := [some 3], rc := [.row 3 .i64, .int .i64, .row 3 .i64] }
noncomputable def s_l15Made_E : Env' := { fn := fun f => if f = 85 then some ⟨s_l15Place_sig, s_l15Place_f⟩ else if f = 111 then some ⟨s_l1In_sig, s_l1In_f⟩ else if f = 125 then some ⟨s_l3Step_sig, s_l3Step_f⟩ else none, ck := ckT, cuts := [], mine := fun i => i == 8 || i == 25 || i == 31 || i == 81 || i == 108 }
noncomputable def s_l15Made_f (x : Ts s_l15Made_sig.pc) : Option (Ts s_l15Made_sig.rc) := runFn Tryz.prog (s_l15Made_E) Tryz.f88 s_l15Made_sig x
theorem s_l15Made_f_eq (x0 : (List (Int))) (x1 : (Int)) (x2 : (List (Int))) (x3 : (Int)) (x4 : (Int)) (x5 : (Int)) : s_l15Made_f (x0, x1, x2, x3, x4, x5) = (Option.bind (s_l15Place_f (x0, x1, x2)) fun r1 => (cond (((x3 == 0) && ((x4 == x4) && ((x5 == x5) && true)))) (Option.bind (s_l1In_f (x4, 0, (IntKind.i64.wrap ((List.length x0 : Int) - 1)))) fun r2 => (cond (r2) (Option.bind (s_l1In_f (x5, 0, (IntKind.i64.wrap ((List.length x0 : Int) - 1)))) fun r3 => (cond (r3) (cond ((x4 != x5)) (if (0 : Int) ≤ x4 ∧ x4 < (List.length r1.1 : Int) then (if x5 < 0 then none else (if (0 : Int) ≤ x4 ∧ x4 < (List.length r1.1 : Int) then (if (0 : Int) ≤ x5 ∧ x5 < (List.length (List.set r1.1 (x4 : Int).toNat (Go.bits .xor IntKind.i64 (List.getD r1.1 (x4 : Int).toNat 0) (IntKind.i64.wrap (1 * 2 ^ min (x5 : Int).toNat IntKind.i64.bits)))) : Int) then (if x4 < 0 then none else (if (0 : Int) ≤ x5 ∧ x5 < (List.length (List.set r1.1 (x4 : Int).toNat (Go.bits .xor IntKind.i64 (List.getD r1.1 (x4 : Int).toNat 0) (IntKind.i64.wrap (1 * 2 ^ min (x5 : Int).toNat IntKind.i64.bits)))) : Int) then (some ((List.set (List.set r1.1 (x4 : Int).toNat (Go.bits .xor IntKind.i64 (List.getD r1.1 (x4 : Int).toNat 0) (IntKind.i64.wrap (1 * 2 ^ min (x5 : Int).toNat IntKind.i64.bits)))) (x5 : Int).toNat (Go.bits .xor IntKind.i64 (List.getD (List.set r1.1 (x4 : Int).toNat (Go.bits .xor IntKind.i64 (List.getD r1.1 (x4 : Int).toNat 0) (IntKind.i64.wrap (1 * 2 ^ min (x5 : Int).toNat IntKind.i64.bits)))) (x5 : Int).toNat 0) (IntKind.i64.wrap (1 * 2 ^ min (x4 : Int).toNat IntKind.i64.bits)))), r1.2.1, r1.2.2)) else none)) else none) else none)) else none) (cond (((x3 == 1) && ((x4 == x4) && ((x5 == 0) && true)))) (Option.bind (s_l1In_f (x4, 0, (IntKind.i64.wrap ((List.length x0 : Int) - 1)))) fun r4 => (cond (r4) (if (0 : Int) ≤ x4 ∧ x4 < (List.length x2 : Int) then (cond (((List.getD x2 (x4 : Int).toNat 0) == 0)) (if (0 : Int) ≤ x4 ∧ x4 < (List.length r1.2.2 : Int) then (some (r1.1, r1.2.1, (List.set r1.2.2 (x4 : Int).toNat 1))) else none) (cond (((x3 == 2) && ((x4 == 0) && ((x5 == 0) && true)))) (Option.bind (s_l3Step_f (x0, x1, x2)) fun r5 => (some (r1.1, r1.2.1, r5))) (cond (((x3 == 3) && ((x4 == x4) && ((x5 == 0) && true)))) (some (r1.1, x4, r1.2.2)) (some ([], 0, []))))) else none) (cond (((x3 == 2) && ((x4 == 0) && ((x5 == 0) && true)))) (Option.bind (s_l3Step_f (x0, x1, x2)) fun r6 => (some (r1.1, r1.2.1, r6))) (cond (((x3 == 3) && ((x4 == x4) && ((x5 == 0) && true)))) (some (r1.1, x4, r1.2.2)) (some ([], 0, [])))))) (cond (((x3 == 2) && ((x4 == 0) && ((x5 == 0) && true)))) (Option.bind (s_l3Step_f (x0, x1, x2)) fun r7 => (some (r1.1, r1.2.1, r7))) (cond (((x3 == 3) && ((x4 == x4) && ((x5 == 0) && true)))) (some (r1.1, x4, r1.2.2)) (some ([], 0, [])))))) (cond (((x3 == 1) && ((x4 == x4) && ((x5 == 0) && true)))) (Option.bind (s_l1In_f (x4, 0, (IntKind.i64.wrap ((List.length x0 : Int) - 1)))) fun r8 => (cond (r8) (if (0 : Int) ≤ x4 ∧ x4 < (List.length x2 : Int) then (cond (((List.getD x2 (x4 : Int).toNat 0) == 0)) (if (0 : Int) ≤ x4 ∧ x4 < (List.length r1.2.2 : Int) then (some (r1.1, r1.2.1, (List.set r1.2.2 (x4 : Int).toNat 1))) else none) (cond (((x3 == 2) && ((x4 == 0) && ((x5 == 0) && true)))) (Option.bind (s_l3Step_f (x0, x1, x2)) fun r9 => (some (r1.1, r1.2.1, r9))) (cond (((x3 == 3) && ((x4 == x4) && ((x5 == 0) && true)))) (some (r1.1, x4, r1.2.2)) (some ([], 0, []))))) else none) (cond (((x3 == 2) && ((x4 == 0) && ((x5 == 0) && true)))) (Option.bind (s_l3Step_f (x0, x1, x2)) fun r10 => (some (r1.1, r1.2.1, r10))) (cond (((x3 == 3) && ((x4 == x4) && ((x5 == 0) && true)))) (some (r1.1, x4, r1.2.2)) (some ([], 0, [])))))) (cond (((x3 == 2) && ((x4 == 0) && ((x5 == 0) && true)))) (Option.bind (s_l3Step_f (x0, x1, x2)) fun r11 => (some (r1.1, r1.2.1, r11))) (cond (((x3 == 3) && ((x4 == x4) && ((x5 == 0) && true)))) (some (r1.1, x4, r1.2.2)) (some ([], 0, []))))))) (cond (((x3 == 1) && ((x4 == x4) && ((x5 == 0) && true)))) (Option.bind (s_l1In_f (x4, 0, (IntKind.i64.wrap ((List.length x0 : Int) - 1)))) fun r12 => (cond (r12) (if (0 : Int) ≤ x4 ∧ x4 < (List.length x2 : Int) then (cond (((List.getD x2 (x4 : Int).toNat 0) == 0)) (if (0 : Int) ≤ x4 ∧ x4 < (List.length r1.2.2 : Int) then (some (r1.1, r1.2.1, (List.set r1.2.2 (x4 : Int).toNat 1))) else none) (cond (((x3 == 2) && ((x4 == 0) && ((x5 == 0) && true)))) (Option.bind (s_l3Step_f (x0, x1, x2)) fun r13 => (some (r1.1, r1.2.1, r13))) (cond (((x3 == 3) && ((x4 == x4) && ((x5 == 0) && true)))) (some (r1.1, x4, r1.2.2)) (some ([], 0, []))))) else none) (cond (((x3 == 2) && ((x4 == 0) && ((x5 == 0) && true)))) (Option.bind (s_l3Step_f (x0, x1, x2)) fun r14 => (some (r1.1, r1.2.1, r14))) (cond (((x3 == 3) && ((x4 == x4) && ((x5 == 0) && true)))) (some (r1.1, x4, r1.2.2)) (some ([], 0, [])))))) (cond (((x3 == 2) && ((x4 == 0) && ((x5 == 0) && true)))) (Option.bind (s_l3Step_f (x0, x1, x2)) fun r15 => (some (r1.1, r1.2.1, r15))) (cond (((x3 == 3) && ((x4 == x4) && ((x5 == 0) && true)))) (some (r1.1, x4, r1.2.2)) (some ([], 0, []))))))) (cond (((x3 == 1) && ((x4 == x4) && ((x5 == 0) && true)))) (Option.bind (s_l1In_f (x4, 0, (IntKind.i64.wrap ((List.length x0 : Int) - 1)))) fun r16 => (cond (r16) (if (0 : Int) ≤ x4 ∧ x4 < (List.length x2 : Int) then (cond (((List.getD x2 (x4 : Int).toNat 0) == 0)) (if (0 : Int) ≤ x4 ∧ x4 < (List.length r1.2.2 : Int) then (some (r1.1, r1.2.1, (List.set r1.2.2 (x4 : Int).toNat 1))) else none) (cond (((x3 == 2) && ((x4 == 0) && ((x5 == 0) && true)))) (Option.bind (s_l3Step_f (x0, x1, x2)) fun r17 => (some (r1.1, r1.2.1, r17))) (cond (((x3 == 3) && ((x4 == x4) && ((x5 == 0) && true)))) (some (r1.1, x4, r1.2.2)) (some ([], 0, []))))) else none) (cond (((x3 == 2) && ((x4 == 0) && ((x5 == 0) && true)))) (Option.bind (s_l3Step_f (x0, x1, x2)) fun r18 => (some (r1.1, r1.2.1, r18))) (cond (((x3 == 3) && ((x4 == x4) && ((x5 == 0) && true)))) (some (r1.1, x4, r1.2.2)) (some ([], 0, [])))))) (cond (((x3 == 2) && ((x4 == 0) && ((x5 == 0) && true)))) (Option.bind (s_l3Step_f (x0, x1, x2)) fun r19 => (some (r1.1, r1.2.1, r19))) (cond (((x3 == 3) && ((x4 == x4) && ((x5 == 0) && true)))) (some (r1.1, x4, r1.2.2)) (some ([], 0, []))))))) := by
  kernel_rfl
theorem s_l15Made_ent : Entb Tryz.prog 88 := ⟨Tryz.f88, by kernel_rfl, by kernel_rfl, by kernel_rfl⟩
theorem s_l15Made_ok : CtrOk Tryz.prog 88 ⟨s_l15Made_sig, s_l15Made_f⟩ :=
  ctr_of (fn := Tryz.f88) (by kernel_rfl) (by kernel_rfl) (fun x : Ts s_l15Made_sig.pc => s_l15Made_E) (fun x => ⟨(fn_cons ⟨s_l15Place_ok, s_l15Place_ent⟩ (fn_cons ⟨s_l1In_ok, s_l1In_ent⟩ (fn_cons ⟨s_l3Step_ok, s_l3Step_ent⟩ fn_none))), clo_none, wr_none⟩) (fun h => by cases h) follows_ (fun _ _ => trivial)
end FN

set_option linter.unusedVariables false
namespace FN
open Go Go.Proofs
/-! loop.example/firingnets/spec.DeskDo -/
@[reducible] def s_DeskDo_sig : Sig := { ps := [some 4, some 3], pc := [.view .i64, .int .i64, .view .i64, .view .place, .int .i64, .int .i64, .int .i64], rs := [some 4, none], rc := [.view .i64, .int .i64, .view .i64, .view .place, .bool] }
noncomputable def s_DeskDo_E : Env' := { fn := fun f => if f = 11 then some ⟨s_DeskOk_sig, s_DeskOk_f⟩ else if f = 38 then some ⟨s_l15Copy_sig, s_l15Copy_f⟩ else if f = 42 then some ⟨s_PlaceOk_sig, s_PlaceOk_f⟩ else if f = 88 then some ⟨s_l15Made_sig, s_l15Made_f⟩ else if f = 89 then some ⟨s_PlaceText_sig, s_PlaceText_f⟩ else none, ck := ckT, cuts := [(15, [4, 6, 8])], mine := fun i => i == 10 || i == 14 || i == 43 || i == 45 || i == 49 || i == 52 }
noncomputable def s_DeskDo_f (x : Ts s_DeskDo_sig.pc) : Option (Ts s_DeskDo_sig.rc) := runFn Tryz.prog (s_DeskDo_E) Tryz.f40 s_DeskDo_sig x
noncomputable def s_DeskDo_j0 (y0 : Int) (y1 : Int) (y2 : List (List Int × Int × List Int)) (y3 : Int) (y4 : List (Int)) (y5 : List (Int)) : Option ((List (Int)) × (Int) × (List (Int)) × (List (List Int × Int × List Int)) × (Bool)) := from_ Tryz.prog (s_DeskDo_E) Tryz.f40 s_DeskDo_sig [1, 1, 1, 1, 1, 1, 1, 1] ⟨mkT 74 [(4, .ptr 0 0), (6, .ptr 1 0), (8, .ptr 2 0)], [some (.box 28 [.nilS, .int .i64 y0, .nilS, .nilS]), some (.box 28 [.junk, .int .i64 y1, .junk, .row true .place y2]), some (.box 25 [.own 3, .int .i64 y3, .own 4]), some (.arr 3 true .i64 y4), some (.arr 3 true .i64 y5)]⟩
noncomputable def s_DeskDo_j1 (y0 : Int) (y1 : Int) (y2 : Int) (y3 : List (List Int × Int × List Int)) (y4 : List (Int)) (y5 : List (Int)) : Option ((List (Int)) × (Int) × (List (Int)) × (List (List Int × Int × List Int)) × (Bool)) := from_ Tryz.prog (s_DeskDo_E) Tryz.f40 s_DeskDo_sig [1, 1, 1, 1, 1, 1, 1, 1] ⟨mkT 74 [(4, .ptr 0 0), (6, .ptr 1 0), (8, .ptr 2 0)], [some (.box 28 [.nilS, .int .i64 y0, .nilS, .nilS]), some (.box 28 [.junk, .int .i64 y1, .junk, .own 3]), some (.box 25 [.own 4, .int .i64 y2, .own 5]), some (.arr 25 true .place y3), some (.arr 3 true .i64 y4), some (.arr 3 true .i64 y5)]⟩
theorem s_DeskDo_f_eq (x0 : (List (Int))) (x1 : (Int)) (x2 : (List (Int))) (x3 : (List (List Int × Int × List Int))) (x4 : (Int)) (x5 : (Int)) (x6 : (Int)) : s_DeskDo_f (x0, x1, x2, x3, x4, x5, x6) = (Option.bind (s_DeskOk_f (x0, x1, x2, x3)) fun r1 => (cond ((!r1)) (some ([], 0, [], [], false)) (Option.bind (s_l15Copy_f (x0, x1, x2, x3)) fun r2 => (cond (((x4 == 4) && ((x5 == 0) && ((x6 == 0) && true)))) (cond ((decide (0 < (List.length x3 : Int)))) (if (0 : Int) ≤ (IntKind.i64.wrap ((List.length r2.2.2.2 : Int) - 1)) ∧ (IntKind.i64.wrap ((List.length r2.2.2.2 : Int) - 1)) < (List.length r2.2.2.2 : Int) then (if (0 : Int) ≤ (IntKind.i64.wrap ((List.length r2.2.2.2 : Int) - 1)) ∧ (IntKind.i64.wrap ((List.length r2.2.2.2 : Int) - 1)) ≤ (List.length r2.2.2.2 : Int) then (some ((List.getD r2.2.2.2 ((IntKind.i64.wrap ((List.length r2.2.2.2 : Int) - 1)) : Int).toNat ([], 0, [])).1, (List.getD r2.2.2.2 ((IntKind.i64.wrap ((List.length r2.2.2.2 : Int) - 1)) : Int).toNat ([], 0, [])).2.1, (List.getD r2.2.2.2 ((IntKind.i64.wrap ((List.length r2.2.2.2 : Int) - 1)) : Int).toNat ([], 0, [])).2.2, (List.drop 0 (List.take (((IntKind.i64.wrap ((List.length r2.2.2.2 : Int) - 1)) : Int).toNat) r2.2.2.2)), true)) else none) else none) (Option.bind (s_l15Made_f (x0, x1, x2, x4, x5, x6)) fun r3 => (Option.bind (s_PlaceOk_f (r3.1, r3.2.1, r3.2.2)) fun r4 => (cond ((!r4)) (some (r2.1, r2.2.1, r2.2.2.1, r2.2.2.2, false)) (Option.bind (s_PlaceText_f (r3.1, r3.2.1, r3.2.2)) fun r5 => (Option.bind (s_PlaceText_f (x0, x1, x2)) fun r6 => (cond ((ByteArray.toList r5 == ByteArray.toList r6)) (some (r2.1, r2.2.1, r2.2.2.1, r2.2.2.2, false)) (if (List.length r2.2.2.2 + List.length ([(r2.1, r2.2.1, r2.2.2.1)] : List (List Int × Int × List Int))) * 56 ≤ 140737488355328 then (cond ((decide (8 < (List.length (r2.2.2.2 ++ ([(r2.1, r2.2.1, r2.2.2.1)] : List (List Int × Int × List Int))) : Int)))) (if (0 : Int) ≤ 1 ∧ 1 ≤ (List.length (r2.2.2.2 ++ ([(r2.1, r2.2.1, r2.2.2.1)] : List (List Int × Int × List Int))) : Int) then (s_DeskDo_j0 0 r2.2.1 (List.drop (1 : Int).toNat (List.take ((List.length (r2.2.2.2 ++ ([(r2.1, r2.2.1, r2.2.2.1)] : List (List Int × Int × List Int))))) (r2.2.2.2 ++ ([(r2.1, r2.2.1, r2.2.2.1)] : List (List Int × Int × List Int))))) r3.2.1 r3.1 r3.2.2) else none) (s_DeskDo_j1 0 r2.2.1 r3.2.1 (r2.2.2.2 ++ ([(r2.1, r2.2.1, r2.2.2.1)] : List (List Int × Int × List Int))) r3.1 r3.2.2)) else none)))))))) (Option.bind (s_l15Made_f (x0, x1, x2, x4, x5, x6)) fun r7 => (Option.bind (s_PlaceOk_f (r7.1, r7.2.1, r7.2.2)) fun r8 => (cond ((!r8)) (some (r2.1, r2.2.1, r2.2.2.1, r2.2.2.2, false)) (Option.bind (s_PlaceText_f (r7.1, r7.2.1, r7.2.2)) fun r9 => (Option.bind (s_PlaceText_f (x0, x1, x2)) fun r10 => (cond ((ByteArray.toList r9 == ByteArray.toList r10)) (some (r2.1, r2.2.1, r2.2.2.1, r2.2.2.2, false)) (if (List.length r2.2.2.2 + List.length ([(r2.1, r2.2.1, r2.2.2.1)] : List (List Int × Int × List Int))) * 56 ≤ 140737488355328 then (cond ((decide (8 < (List.length (r2.2.2.2 ++ ([(r2.1, r2.2.1, r2.2.2.1)] : List (List Int × Int × List Int))) : Int)))) (if (0 : Int) ≤ 1 ∧ 1 ≤ (List.length (r2.2.2.2 ++ ([(r2.1, r2.2.1, r2.2.2.1)] : List (List Int × Int × List Int))) : Int) then (s_DeskDo_j0 0 r2.2.1 (List.drop (1 : Int).toNat (List.take ((List.length (r2.2.2.2 ++ ([(r2.1, r2.2.1, r2.2.2.1)] : List (List Int × Int × List Int))))) (r2.2.2.2 ++ ([(r2.1, r2.2.1, r2.2.2.1)] : List (List Int × Int × List Int))))) r7.2.1 r7.1 r7.2.2) else none) (s_DeskDo_j1 0 r2.2.1 r7.2.1 (r2.2.2.2 ++ ([(r2.1, r2.2.1, r2.2.2.1)] : List (List Int × Int × List Int))) r7.1 r7.2.2)) else none))))))))))) := by
  kernel_rfl
theorem s_DeskDo_j0_eq (y0 : Int) (y1 : Int) (y2 : List (List Int × Int × List Int)) (y3 : Int) (y4 : List (Int)) (y5 : List (Int)) : s_DeskDo_j0 y0 y1 y2 y3 y4 y5 = (some (y4, y3, y5, y2, true)) := by
  kernel_rfl
theorem s_DeskDo_j1_eq (y0 : Int) (y1 : Int) (y2 : Int) (y3 : List (List Int × Int × List Int)) (y4 : List (Int)) (y5 : List (Int)) : s_DeskDo_j1 y0 y1 y2 y3 y4 y5 = (some (y4, y2, y5, y3, true)) := by
  kernel_rfl
theorem s_DeskDo_ent : Entb Tryz.prog 40 := ⟨Tryz.f40, by kernel_rfl, by kernel_rfl, by kernel_rfl⟩
theorem s_DeskDo_ok : CtrOk Tryz.prog 40 ⟨s_DeskDo_sig, s_DeskDo_f⟩ :=
  ctr_of (fn := Tryz.f40) (by kernel_rfl) (by kernel_rfl) (fun x : Ts s_DeskDo_sig.pc => s_DeskDo_E) (fun x => ⟨(fn_cons ⟨s_DeskOk_ok, s_DeskOk_ent⟩ (fn_cons ⟨s_l15Copy_ok, s_l15Copy_ent⟩ (fn_cons ⟨s_PlaceOk_ok, s_PlaceOk_ent⟩ (fn_cons ⟨s_l15Made_ok, s_l15Made_ent⟩ (fn_cons ⟨s_PlaceText_ok, s_PlaceText_ent⟩ fn_none))))), clo_none, wr_none⟩) (fun h => by cases h) follows_ (fun _ _ => trivial)
end FN

set_option linter.unusedVariables false
namespace FN
open Go Go.Proofs
/-! loop.example/firingnets/impl.needStep -/
@[reducible] def i_needStep_sig : Sig := { ps := [none, none, none, none], pc := [.view .i64, .int .i64, .any, .view .i64], rs := [none], rc := [.row 3 .i64] }
noncomputable def i_needStep_E : Env' := { fn := fun f => none, ck := ckT, cuts := [(3, [0, 1, 2, 3, 9, 19, 20, 21]), (9, [0, 1, 2, 3, 9, 10, 12, 13, 19, 20, 21, 35, 36, 37]), (14, [0, 1, 2, 3, 9, 10, 12, 13, 19, 20, 21]), (16, [0, 1, 2, 3, 9, 10, 12, 13, 19, 20, 21])], mine := fun i => false }
noncomputable def i_needStep_f (x : Ts i_needStep_sig.pc) : Option (Ts i_needStep_sig.rc) := runFn Tryz.prog (i_needStep_E) Tryz.f69 i_needStep_sig x
noncomputable def i_needStep_l0 (y0 : List (Int)) (y1 : Int) (y2 : List (Int)) (y3 : List (Int)) (y4 : Int) (y5 : Int) (y6 : List (Int)) : Option ((List (Int))) := from_ Tryz.prog (i_needStep_E) Tryz.f69 i_needStep_sig [1, 1, 0, 1, 0] ⟨mkT 71 [(0, .row false .i64 y0), (1, .int .i64 y1), (2, .nilS), (3, .row false .i64 y2), (9, .own 0), (19, .row false .i64 y3), (20, .int .i64 y4), (21, .int .i64 y5)], [some (.arr 3 true .i64 y6)]⟩
noncomputable def i_needStep_l1 (y0 : List (Int)) (y1 : Int) (y2 : List (Int)) (y3 : Int) (y4 : Int) (y5 : Int) (y6 : List (Int)) (y7 : Int) (y8 : Int) (y9 : List (Int)) (y10 : Int) (y11 : Int) (y12 : List (Int)) : Option ((List (Int))) := from_ Tryz.prog (i_needStep_E) Tryz.f69 i_needStep_sig [1, 1, 0, 1, 0, 0, 1, 1, 0, 0, 1, 1, 1, 0, 1, 0] ⟨mkT 71 [(0, .row false .i64 y0), (1, .int .i64 y1), (2, .nilS), (3, .row false .i64 y2), (9, .own 0), (10, .int .i64 y3), (12, .int .i64 y4), (13, .int .i64 y5), (19, .row false .i64 y6), (20, .int .i64 y7), (21, .int .i64 y8), (35, .row false .i64 y9), (36, .int .i64 y10), (37, .int .i64 y11)], [some (.arr 3 true .i64 y12)]⟩
noncomputable def i_needStep_j2 (y0 : List (Int)) (y1 : Int) (y2 : List (Int)) (y3 : Int) (y4 : Int) (y5 : Int) (y6 : List (Int)) (y7 : Int) (y8 : Int) (y9 : List (Int)) : Option ((List (Int))) := from_ Tryz.prog (i_needStep_E) Tryz.f69 i_needStep_sig [1, 1, 0, 1, 0, 0, 1, 1, 0, 0, 1, 1, 1, 1] ⟨mkT 71 [(0, .row false .i64 y0), (1, .int .i64 y1), (2, .nilS), (3, .row false .i64 y2), (9, .own 0), (10, .int .i64 y3), (12, .int .i64 y4), (13, .int .i64 y5), (19, .row false .i64 y6), (20, .int .i64 y7), (21, .int .i64 y8)], [some (.arr 3 true .i64 y9)]⟩
noncomputable def i_needStep_j3 (y0 : List (Int)) (y1 : Int) (y2 : List (Int)) (y3 : Int) (y4 : Int) (y5 : Int) (y6 : List (Int)) (y7 : Int) (y8 : Int) (y9 : List (Int)) : Option ((List (Int))) := from_ Tryz.prog (i_needStep_E) Tryz.f69 i_needStep_sig [1, 1, 0, 1, 0, 0, 1, 1, 0, 0, 1, 1, 1, 1, 1] ⟨mkT 71 [(0, .row false .i64 y0), (1, .int .i64 y1), (2, .nilS), (3, .row false .i64 y2), (9, .own 0), (10, .int .i64 y3), (12, .int .i64 y4), (13, .int .i64 y5), (19, .row false .i64 y6), (20, .int .i64 y7), (21, .int .i64 y8)], [some (.arr 3 true .i64 y9)]⟩
theorem i_needStep_f_eq (x0 : (List (Int))) (x1 : (Int)) (x2 : (Unit)) (x3 : (List (Int))) : i_needStep_f (x0, x1, x2, x3) = (if (0 : Int) ≤ (List.length x3 : Int) ∧ (List.length x3 : Int) * 8 ≤ 140737488355328 ∧ (List.length x3 : Int) ≤ 140737488355328 then (i_needStep_l0 x0 x1 x3 x3 (List.length x3 : Int) 0 (List.replicate ((List.length x3 : Int) : Int).toNat 0 : List (Int))) else none) := by
  kernel_rfl
theorem i_needStep_l0_eq (y0 : List (Int)) (y1 : Int) (y2 : List (Int)) (y3 : List (Int)) (y4 : Int) (y5 : Int) (y6 : List (Int)) : i_needStep_l0 y0 y1 y2 y3 y4 y5 y6 = (cond ((decide (y5 < y4))) (if (0 : Int) ≤ y5 ∧ y5 < (List.length y3 : Int) then (cond ((decide (0 < (List.getD y3 (y5 : Int).toNat 0)))) (if y1 = 0 then none else (if (0 : Int) ≤ y5 ∧ y5 < (List.length y6 : Int) then (i_needStep_l0 y0 y1 y2 y3 y4 (IntKind.i64.wrap (y5 + 1)) (List.set y6 (y5 : Int).toNat (Int.tmod (IntKind.i64.wrap ((List.getD y3 (y5 : Int).toNat 0) + 1)) y1))) else none)) (i_needStep_l1 y0 y1 y2 y5 0 1 y3 y4 y5 y2 (List.length y2 : Int) 0 y6)) else none) (some y6)) := by
  refine (loopK_eq Tryz.prog (i_needStep_E) (sub (Tryz.f69.body.getD .skip) [1, 1, 0, 1, 0, 0]) _ _).trans ?_
  kernel_rfl
theorem i_needStep_l1_eq (y0 : List (Int)) (y1 : Int) (y2 : List (Int)) (y3 : Int) (y4 : Int) (y5 : Int) (y6 : List (Int)) (y7 : Int) (y8 : Int) (y9 : List (Int)) (y10 : Int) (y11 : Int) (y12 : List (Int)) : i_needStep_l1 y0 y1 y2 y3 y4 y5 y6 y7 y8 y9 y10 y11 y12 = (cond ((decide (y11 < y10))) (if (0 : Int) ≤ y11 ∧ y11 < (List.length y9 : Int) then (if (0 : Int) ≤ y3 ∧ y3 < (List.length y0 : Int) then (if y11 < 0 then none else (cond (((Go.bits .and IntKind.i64 (Int.fdiv (List.getD y0 (y3 : Int).toNat 0) (2 ^ min (y11 : Int).toNat IntKind.i64.bits)) 1) == 1)) (cond (((List.getD y9 (y11 : Int).toNat 0) == 1)) (i_needStep_l1 y0 y1 y2 y3 (IntKind.i64.wrap (y4 + 1)) y5 y6 y7 y8 y9 y10 (IntKind.i64.wrap (y11 + 1)) y12) (i_needStep_l1 y0 y1 y2 y3 y4 y5 y6 y7 y8 y9 y10 (IntKind.i64.wrap (y11 + 1)) y12)) (i_needStep_l1 y0 y1 y2 y3 y4 y5 y6 y7 y8 y9 y10 (IntKind.i64.wrap (y11 + 1)) y12))) else none) else none) (i_needStep_j2 y0 y1 y2 y3 y4 y5 y6 y7 y8 y12)) := by
  refine (loopK_eq Tryz.prog (i_needStep_E) (sub (Tryz.f69.body.getD .skip) [1, 1, 0, 1, 0, 0, 1, 1, 0, 0, 1, 1, 1, 0, 1, 0, 0]) _ _).trans ?_
  kernel_rfl
theorem i_needStep_j2_eq (y0 : List (Int)) (y1 : Int) (y2 : List (Int)) (y3 : Int) (y4 : Int) (y5 : Int) (y6 : List (Int)) (y7 : Int) (y8 : Int) (y9 : List (Int)) : i_needStep_j2 y0 y1 y2 y3 y4 y5 y6 y7 y8 y9 = (i_needStep_j3 y0 y1 y2 y3 y4 y5 y6 y7 y8 y9) := by
  kernel_rfl
theorem i_needStep_j3_eq (y0 : List (Int)) (y1 : Int) (y2 : List (Int)) (y3 : Int) (y4 : Int) (y5 : Int) (y6 : List (Int)) (y7 : Int) (y8 : Int) (y9 : List (Int)) : i_needStep_j3 y0 y1 y2 y3 y4 y5 y6 y7 y8 y9 = (cond ((decide (y5 ≤ y4))) (if (0 : Int) ≤ y3 ∧ y3 < (List.length y9 : Int) then (i_needStep_l0 y0 y1 y2 y6 y7 (IntKind.i64.wrap (y8 + 1)) (List.set y9 (y3 : Int).toNat 1)) else none) (i_needStep_l0 y0 y1 y2 y6 y7 (IntKind.i64.wrap (y8 + 1)) y9)) := by
  kernel_rfl
theorem i_needStep_ent : Entb Tryz.prog 69 := ⟨Tryz.f69, by kernel_rfl, by kernel_rfl, by kernel_rfl⟩
theorem i_needStep_ok : CtrOk Tryz.prog 69 ⟨i_needStep_sig, i_needStep_f⟩ :=
  ctr_of (fn := Tryz.f69) (by kernel_rfl) (by kernel_rfl) (fun x : Ts i_needStep_sig.pc => i_needStep_E) (fun x => ⟨fn_none, clo_none, wr_none⟩) (fun h => by cases h) follows_ (fun _ _ => trivial)
end FN

set_option linter.unusedVariables false
namespace FN
open Go Go.Proofs
/-! loop.example/firingnets/impl.setOk -/
@[reducible] def i_setOk_sig : Sig := { ps := [none, none], pc := [.view .i64, .int .i64], rs := [none], rc := [.bool] }
noncomputable def i_setOk_E : Env' := { fn := fun f => if f = 43 then some ⟨i_NetOk_sig, i_NetOk_f⟩ else none, ck := ckT, cuts := [], mine := fun i => false }
noncomputable def i_setOk_f (x : Ts i_setOk_sig.pc) : Option (Ts i_setOk_sig.rc) := runFn Tryz.prog (i_setOk_E) Tryz.f124 i_setOk_sig x
theorem i_setOk_f_eq (x0 : (List (Int))) (x1 : (Int)) : i_setOk_f (x0, x1) = (Option.bind (i_NetOk_f x0) fun r1 => (cond (r1) (cond ((decide (0 ≤ x1))) (if (List.length x0 : Int) < 0 then none else (some (decide (x1 < (IntKind.i64.wrap (1 * 2 ^ min ((List.length x0 : Int) : Int).toNat IntKind.i64.bits)))))) (some false)) (some false))) := by
  kernel_rfl
theorem i_setOk_ent : Entb Tryz.prog 124 := ⟨Tryz.f124, by kernel_rfl, by kernel_rfl, by kernel_rfl⟩
theorem i_setOk_ok : CtrOk Tryz.prog 124 ⟨i_setOk_sig, i_setOk_f⟩ :=
  ctr_of (fn := Tryz.f124) (by kernel_rfl) (by kernel_rfl) (fun x : Ts i_setOk_sig.pc => i_setOk_E) (fun x => ⟨(fn_cons ⟨i_NetOk_ok, i_NetOk_ent⟩ fn_none), clo_none, wr_none⟩) (fun h => by cases h) follows_ (fun _ _ => trivial)
end FN

set_option linter.unusedVariables false
namespace FN
open Go Go.Proofs
/-! loop.example/firingnets/impl.DistancesFrom -/
@[reducible] def i_DistancesFrom_sig : Sig := { ps := [none, none], pc := [.view .i64, .int .i64], rs := [none], rc := [.row 3 .i64] }
noncomputable def i_DistancesFrom_E : Env' := { fn := fun f => if f = 124 then some ⟨i_setOk_sig, i_setOk_f⟩ else none, ck := ckT, cuts := [(5, [0, 1, 5, 18, 19]), (9, [0, 1, 5]), (10, [0, 1, 5, 7]), (14, [0, 1, 5, 7, 8, 31, 32])], mine := fun i => false }
noncomputable def i_DistancesFrom_f (x : Ts i_DistancesFrom_sig.pc) : Option (Ts i_DistancesFrom_sig.rc) := runFn Tryz.prog (i_DistancesFrom_E) Tryz.f84 i_DistancesFrom_sig x
noncomputable def i_DistancesFrom_l0 (y0 : List (Int)) (y1 : Int) (y2 : Int) (y3 : Int) (y4 : List (Int)) : Option ((List (Int))) := from_ Tryz.prog (i_DistancesFrom_E) Tryz.f84 i_DistancesFrom_sig [1, 1, 1, 0, 1, 0] ⟨mkT 60 [(0, .row false .i64 y0), (1, .int .i64 y1), (5, .own 0), (18, .int .i64 y2), (19, .int .i64 y3)], [some (.arr 3 true .i64 y4)]⟩
noncomputable def i_DistancesFrom_j1 (y0 : List (Int)) (y1 : Int) (y2 : List (Int)) : Option ((List (Int))) := from_ Tryz.prog (i_DistancesFrom_E) Tryz.f84 i_DistancesFrom_sig [1, 1, 1, 1] ⟨mkT 60 [(0, .row false .i64 y0), (1, .int .i64 y1), (5, .own 0)], [some (.arr 3 true .i64 y2)]⟩
noncomputable def i_DistancesFrom_l2 (y0 : List (Int)) (y1 : Int) (y2 : Int) (y3 : List (Int)) : Option ((List (Int))) := from_ Tryz.prog (i_DistancesFrom_E) Tryz.f84 i_DistancesFrom_sig [1, 1, 1, 1, 0, 1, 0] ⟨mkT 60 [(0, .row false .i64 y0), (1, .int .i64 y1), (5, .own 0), (7, .int .i64 y2)], [some (.arr 3 true .i64 y3)]⟩
noncomputable def i_DistancesFrom_l3 (y0 : List (Int)) (y1 : Int) (y2 : Int) (y3 : Int) (y4 : Int) (y5 : Int) (y6 : List (Int)) : Option ((List (Int))) := from_ Tryz.prog (i_DistancesFrom_E) Tryz.f84 i_DistancesFrom_sig [1, 1, 1, 1, 0, 1, 0, 0, 1, 0, 0, 1, 0, 1, 0] ⟨mkT 60 [(0, .row false .i64 y0), (1, .int .i64 y1), (5, .own 0), (7, .int .i64 y2), (8, .int .i64 y3), (31, .int .i64 y4), (32, .int .i64 y5)], [some (.arr 3 true .i64 y6)]⟩
theorem i_DistancesFrom_f_eq (x0 : (List (Int))) (x1 : (Int)) : i_DistancesFrom_f (x0, x1) = (Option.bind (i_setOk_f (x0, x1)) fun r1 => (cond ((!r1)) (some []) (if (0 : Int) ≤ (List.length x0 : Int) ∧ (List.length x0 : Int) * 8 ≤ 140737488355328 ∧ (List.length x0 : Int) ≤ 140737488355328 then (i_DistancesFrom_l0 x0 x1 (List.length (List.replicate ((List.length x0 : Int) : Int).toNat 0 : List (Int)) : Int) 0 (List.replicate ((List.length x0 : Int) : Int).toNat 0 : List (Int))) else none))) := by
  kernel_rfl
theorem i_DistancesFrom_l0_eq (y0 : List (Int)) (y1 : Int) (y2 : Int) (y3 : Int) (y4 : List (Int)) : i_DistancesFrom_l0 y0 y1 y2 y3 y4 = (cond ((decide (y3 < y2))) (if (0 : Int) ≤ y3 ∧ y3 < (List.length y4 : Int) then (i_DistancesFrom_l0 y0 y1 y2 (IntKind.i64.wrap (y3 + 1)) (List.set y4 (y3 : Int).toNat (-1))) else none) (i_DistancesFrom_j1 y0 y1 y4)) := by
  refine (loopK_eq Tryz.prog (i_DistancesFrom_E) (sub (Tryz.f84.body.getD .skip) [1, 1, 1, 0, 1, 0, 0]) _ _).trans ?_
  kernel_rfl
theorem i_DistancesFrom_j1_eq (y0 : List (Int)) (y1 : Int) (y2 : List (Int)) : i_DistancesFrom_j1 y0 y1 y2 = (i_DistancesFrom_l2 y0 y1 0 y2) := by
  kernel_rfl
theorem i_DistancesFrom_l2_eq (y0 : List (Int)) (y1 : Int) (y2 : Int) (y3 : List (Int)) : i_DistancesFrom_l2 y0 y1 y2 y3 = (cond ((y1 != 0)) (i_DistancesFrom_l3 y0 y1 y2 0 (List.length y3 : Int) 0 y3) (some y3)) := by
  refine (loopK_eq Tryz.prog (i_DistancesFrom_E) (sub (Tryz.f84.body.getD .skip) [1, 1, 1, 1, 0, 1, 0, 0]) _ _).trans ?_
  kernel_rfl
theorem i_DistancesFrom_l3_eq (y0 : List (Int)) (y1 : Int) (y2 : Int) (y3 : Int) (y4 : Int) (y5 : Int) (y6 : List (Int)) : i_DistancesFrom_l3 y0 y1 y2 y3 y4 y5 y6 = (cond ((decide (y5 < y4))) (if y5 < 0 then none else (cond (((Go.bits .and IntKind.i64 (Int.fdiv y1 (2 ^ min (y5 : Int).toNat IntKind.i64.bits)) 1) == 1)) (if (0 : Int) ≤ y5 ∧ y5 < (List.length y6 : Int) then (cond ((decide ((List.getD y6 (y5 : Int).toNat 0) < 0))) (if (0 : Int) ≤ y5 ∧ y5 < (List.length y6 : Int) then (if (0 : Int) ≤ y5 ∧ y5 < (List.length y0 : Int) then (i_DistancesFrom_l3 y0 y1 y2 (Go.bits .or IntKind.i64 y3 (List.getD y0 (y5 : Int).toNat 0)) y4 (IntKind.i64.wrap (y5 + 1)) (List.set y6 (y5 : Int).toNat y2)) else none) else none) (i_DistancesFrom_l3 y0 y1 y2 y3 y4 (IntKind.i64.wrap (y5 + 1)) y6)) else none) (i_DistancesFrom_l3 y0 y1 y2 y3 y4 (IntKind.i64.wrap (y5 + 1)) y6))) (i_DistancesFrom_l2 y0 y3 (IntKind.i64.wrap (y2 + 1)) y6)) := by
  refine (loopK_eq Tryz.prog (i_DistancesFrom_E) (sub (Tryz.f84.body.getD .skip) [1, 1, 1, 1, 0, 1, 0, 0, 1, 0, 0, 1, 0, 1, 0, 0]) _ _).trans ?_
  kernel_rfl
theorem i_DistancesFrom_ent : Entb Tryz.prog 84 := ⟨Tryz.f84, by kernel_rfl, by kernel_rfl, by kernel_rfl⟩
theorem i_DistancesFrom_ok : CtrOk Tryz.prog 84 ⟨i_DistancesFrom_sig, i_DistancesFrom_f⟩ :=
  ctr_of (fn := Tryz.f84) (by kernel_rfl) (by kernel_rfl) (fun x : Ts i_DistancesFrom_sig.pc => i_DistancesFrom_E) (fun x => ⟨(fn_cons ⟨i_setOk_ok, i_setOk_ent⟩ fn_none), clo_none, wr_none⟩) (fun h => by cases h) follows_ (fun _ _ => trivial)
end FN

set_option linter.unusedVariables false
namespace FN
open Go Go.Proofs
/-! loop.example/firingnets/impl.PartsOf -/
@[reducible] def i_PartsOf_sig : Sig := { ps := [none], pc := [.view .i64], rs := [none], rc := [.row 3 .i64] }
noncomputable def i_PartsOf_E : Env' := { fn := fun f => if f = 43 then some ⟨i_NetOk_sig, i_NetOk_f⟩ else if f = 84 then some ⟨i_DistancesFrom_sig, i_DistancesFrom_f⟩ else none, ck := ckT, cuts := [(5, [0, 3, 12, 13]), (8, [0, 3, 12, 13, 19, 20, 21])], mine := fun i => false }
noncomputable def i_PartsOf_f (x : Ts i_PartsOf_sig.pc) : Option (Ts i_PartsOf_sig.rc) := runFn Tryz.prog (i_PartsOf_E) Tryz.f77 i_PartsOf_sig x
noncomputable def i_PartsOf_l0 (y0 : List (Int)) (y1 : Int) (y2 : Int) (y3 : List (Int)) : Option ((List (Int))) := from_ Tryz.prog (i_PartsOf_E) Tryz.f77 i_PartsOf_sig [1, 1, 1, 0, 1, 0] ⟨mkT 35 [(0, .row false .i64 y0), (3, .own 0), (12, .int .i64 y1), (13, .int .i64 y2)], [some (.arr 3 true .i64 y3)]⟩
noncomputable def i_PartsOf_l1 (y0 : List (Int)) (y1 : Int) (y2 : Int) (y3 : List (Int)) (y4 : Int) (y5 : Int) (y6 : List (Int)) : Option ((List (Int))) := from_ Tryz.prog (i_PartsOf_E) Tryz.f77 i_PartsOf_sig [1, 1, 1, 0, 1, 0, 0, 1, 1, 0, 0, 1, 1, 0] ⟨mkT 35 [(0, .row false .i64 y0), (3, .own 0), (12, .int .i64 y1), (13, .int .i64 y2), (19, .row true .i64 y3), (20, .int .i64 y4), (21, .int .i64 y5)], [some (.arr 3 true .i64 y6)]⟩
theorem i_PartsOf_f_eq (x0 : (List (Int))) : i_PartsOf_f x0 = (Option.bind (i_NetOk_f x0) fun r1 => (cond ((!r1)) (some []) (i_PartsOf_l0 x0 (List.length x0 : Int) 0 ([] : List (Int))))) := by
  kernel_rfl
theorem i_PartsOf_l0_eq (y0 : List (Int)) (y1 : Int) (y2 : Int) (y3 : List (Int)) : i_PartsOf_l0 y0 y1 y2 y3 = (cond ((decide (y2 < y1))) (if y2 < 0 then none else (Option.bind (i_DistancesFrom_f (y0, (IntKind.i64.wrap (1 * 2 ^ min (y2 : Int).toNat IntKind.i64.bits)))) fun r1 => (i_PartsOf_l1 y0 y1 y2 r1 (List.length r1 : Int) 0 y3))) (some y3)) := by
  refine (loopK_eq Tryz.prog (i_PartsOf_E) (sub (Tryz.f77.body.getD .skip) [1, 1, 1, 0, 1, 0, 0]) _ _).trans ?_
  kernel_rfl
theorem i_PartsOf_l1_eq (y0 : List (Int)) (y1 : Int) (y2 : Int) (y3 : List (Int)) (y4 : Int) (y5 : Int) (y6 : List (Int)) : i_PartsOf_l1 y0 y1 y2 y3 y4 y5 y6 = (cond ((decide (y5 < y4))) (if (0 : Int) ≤ y5 ∧ y5 < (List.length y3 : Int) then (cond ((decide (0 ≤ (List.getD y3 (y5 : Int).toNat 0)))) (if (List.length y6 + List.length ([y5] : List (Int))) * 8 ≤ 140737488355328 then (i_PartsOf_l0 y0 y1 (IntKind.i64.wrap (y2 + 1)) (y6 ++ ([y5] : List (Int)))) else none) (i_PartsOf_l1 y0 y1 y2 y3 y4 (IntKind.i64.wrap (y5 + 1)) y6)) else none) (i_PartsOf_l0 y0 y1 (IntKind.i64.wrap (y2 + 1)) y6)) := by
  refine (loopK_eq Tryz.prog (i_PartsOf_E) (sub (Tryz.f77.body.getD .skip) [1, 1, 1, 0, 1, 0, 0, 1, 1, 0, 0, 1, 1, 0, 0]) _ _).trans ?_
  kernel_rfl
theorem i_PartsOf_ent : Entb Tryz.prog 77 := ⟨Tryz.f77, by kernel_rfl, by kernel_rfl, by kernel_rfl⟩
theorem i_PartsOf_ok : CtrOk Tryz.prog 77 ⟨i_PartsOf_sig, i_PartsOf_f⟩ :=
  ctr_of (fn := Tryz.f77) (by kernel_rfl) (by kernel_rfl) (fun x : Ts i_PartsOf_sig.pc => i_PartsOf_E) (fun x => ⟨(fn_cons ⟨i_NetOk_ok, i_NetOk_ent⟩ (fn_cons ⟨i_DistancesFrom_ok, i_DistancesFrom_ent⟩ fn_none)), clo_none, wr_none⟩) (fun h => by cases h) follows_ (fun _ _ => trivial)
end FN

set_option linter.unusedVariables false
namespace FN
open Go Go.Proofs
/-! loop.example/firingnets/spec.l1Near -/
@[reducible] def s_l1Near_sig : Sig := { ps := [none, none], pc := [.view .i64, .int .i64], rs := [none], rc := [.int .i64] }
noncomputable def s_l1Near_E : Env' := { fn := fun f => none, ck := ckT, cuts := [(3, [0, 1, 5, 6])], mine := fun i => false }
noncomputable def s_l1Near_f (x : Ts s_l1Near_sig.pc) : Option (Ts s_l1Near_sig.rc) := runFn Tryz.prog (s_l1Near_E) Tryz.f149 s_l1Near_sig x
noncomputable def s_l1Near_l0 (y0 : List (Int)) (y1 : Int) (y2 : Int) (y3 : Int) : Option ((Int)) := from_ Tryz.prog (s_l1Near_E) Tryz.f149 s_l1Near_sig [1, 1, 0, 1, 0] ⟨mkT 25 [(0, .row false .i64 y0), (1, .int .i64 y1), (5, .int .i64 y2), (6, .int .i64 y3)], []⟩
theorem s_l1Near_f_eq (x0 : (List (Int))) (x1 : (Int)) : s_l1Near_f (x0, x1) = (s_l1Near_l0 x0 x1 0 0) := by
  kernel_rfl
theorem s_l1Near_l0_eq (y0 : List (Int)) (y1 : Int) (y2 : Int) (y3 : Int) : s_l1Near_l0 y0 y1 y2 y3 = (cond ((decide (y3 < (List.length y0 : Int)))) (if y3 < 0 then none else (cond (((Int.tmod (Int.fdiv y1 (2 ^ min (y3 : Int).toNat IntKind.i64.bits)) 2) == 1)) (if (0 : Int) ≤ y3 ∧ y3 < (List.length y0 : Int) then (s_l1Near_l0 y0 y1 (Go.bits .or IntKind.i64 y2 (List.getD y0 (y3 : Int).toNat 0)) (IntKind.i64.wrap (y3 + 1))) else none) (s_l1Near_l0 y0 y1 y2 (IntKind.i64.wrap (y3 + 1))))) (some y2)) := by
  refine (loopK_eq Tryz.prog (s_l1Near_E) (sub (Tryz.f149.body.getD .skip) [1, 1, 0, 1, 0, 0]) _ _).trans ?_
  kernel_rfl
theorem s_l1Near_ent : Entb Tryz.prog 149 := ⟨Tryz.f149, by kernel_rfl, by kernel_rfl, by kernel_rfl⟩
theorem s_l1Near_ok : CtrOk Tryz.prog 149 ⟨s_l1Near_sig, s_l1Near_f⟩ :=
  ctr_of (fn := Tryz.f149) (by kernel_rfl) (by kernel_rfl) (fun x : Ts s_l1Near_sig.pc => s_l1Near_E) (fun x => ⟨fn_none, clo_none, wr_none⟩) (fun h => by cases h) follows_ (fun _ _ => trivial)
end FN

set_option linter.unusedVariables false
namespace FN
open Go Go.Proofs
/-! loop.example/firingnets/spec.l1Far -/
@[reducible] def s_l1Far_sig : Sig := { ps := [none, none], pc := [.view .i64, .int .i64], rs := [none], rc := [.row 3 .i64] }
noncomputable def s_l1Far_E : Env' := { fn := fun f => if f = 149 then some ⟨s_l1Near_sig, s_l1Near_f⟩ else none, ck := ckT, cuts := [(3, [0, 1, 5, 6]), (6, [0, 1, 5]), (9, [0, 5, 7, 8, 9]), (12, [0, 5, 7, 8, 9, 10]), (16, [0, 5, 7, 8, 9])], mine := fun i => false }
noncomputable def s_l1Far_f (x : Ts s_l1Far_sig.pc) : Option (Ts s_l1Far_sig.rc) := runFn Tryz.prog (s_l1Far_E) Tryz.f129 s_l1Far_sig x
noncomputable def s_l1Far_l0 (y0 : List (Int)) (y1 : Int) (y2 : Int) (y3 : List (Int)) : Option ((List (Int))) := from_ Tryz.prog (s_l1Far_E) Tryz.f129 s_l1Far_sig [1, 1, 0, 1, 0] ⟨mkT 50 [(0, .row false .i64 y0), (1, .int .i64 y1), (5, .own 0), (6, .int .i64 y2)], [some (.arr 3 true .i64 y3)]⟩
noncomputable def s_l1Far_j1 (y0 : List (Int)) (y1 : Int) (y2 : List (Int)) : Option ((List (Int))) := from_ Tryz.prog (s_l1Far_E) Tryz.f129 s_l1Far_sig [1, 1, 1] ⟨mkT 50 [(0, .row false .i64 y0), (1, .int .i64 y1), (5, .own 0)], [some (.arr 3 true .i64 y2)]⟩
noncomputable def s_l1Far_l2 (y0 : List (Int)) (y1 : Int) (y2 : Int) (y3 : Int) (y4 : List (Int)) : Option ((List (Int))) := from_ Tryz.prog (s_l1Far_E) Tryz.f129 s_l1Far_sig [1, 1, 1, 1, 1, 0, 1, 0] ⟨mkT 50 [(0, .row false .i64 y0), (5, .own 0), (7, .int .i64 y1), (8, .int .i64 y2), (9, .int .i64 y3)], [some (.arr 3 true .i64 y4)]⟩
noncomputable def s_l1Far_l3 (y0 : List (Int)) (y1 : Int) (y2 : Int) (y3 : Int) (y4 : Int) (y5 : List (Int)) : Option ((List (Int))) := from_ Tryz.prog (s_l1Far_E) Tryz.f129 s_l1Far_sig [1, 1, 1, 1, 1, 0, 1, 0, 0, 1, 0, 0, 0, 1, 0] ⟨mkT 50 [(0, .row false .i64 y0), (5, .own 0), (7, .int .i64 y1), (8, .int .i64 y2), (9, .int .i64 y3), (10, .int .i64 y4)], [some (.arr 3 true .i64 y5)]⟩
noncomputable def s_l1Far_j4 (y0 : List (Int)) (y1 : Int) (y2 : Int) (y3 : Int) (y4 : List (Int)) : Option ((List (Int))) := from_ Tryz.prog (s_l1Far_E) Tryz.f129 s_l1Far_sig [1, 1, 1, 1, 1, 0, 1, 0, 0, 1, 0, 0, 1] ⟨mkT 50 [(0, .row false .i64 y0), (5, .own 0), (7, .int .i64 y1), (8, .int .i64 y2), (9, .int .i64 y3)], [some (.arr 3 true .i64 y4)]⟩
theorem s_l1Far_f_eq (x0 : (List (Int))) (x1 : (Int)) : s_l1Far_f (x0, x1) = (s_l1Far_l0 x0 x1 0 ([] : List (Int))) := by
  kernel_rfl
theorem s_l1Far_l0_eq (y0 : List (Int)) (y1 : Int) (y2 : Int) (y3 : List (Int)) : s_l1Far_l0 y0 y1 y2 y3 = (cond ((decide (y2 < (List.length y0 : Int)))) (if (List.length y3 + List.length ([(-1)] : List (Int))) * 8 ≤ 140737488355328 then (s_l1Far_l0 y0 y1 (IntKind.i64.wrap (y2 + 1)) (y3 ++ ([(-1)] : List (Int)))) else none) (s_l1Far_j1 y0 y1 y3)) := by
  refine (loopK_eq Tryz.prog (s_l1Far_E) (sub (Tryz.f129.body.getD .skip) [1, 1, 0, 1, 0, 0]) _ _).trans ?_
  kernel_rfl
theorem s_l1Far_j1_eq (y0 : List (Int)) (y1 : Int) (y2 : List (Int)) : s_l1Far_j1 y0 y1 y2 = (s_l1Far_l2 y0 0 y1 0 y2) := by
  kernel_rfl
theorem s_l1Far_l2_eq (y0 : List (Int)) (y1 : Int) (y2 : Int) (y3 : Int) (y4 : List (Int)) : s_l1Far_l2 y0 y1 y2 y3 y4 = (cond ((y2 != 0)) (s_l1Far_l3 y0 y1 y2 y3 0 y4) (some y4)) := by
  refine (loopK_eq Tryz.prog (s_l1Far_E) (sub (Tryz.f129.body.getD .skip) [1, 1, 1, 1, 1, 0, 1, 0, 0]) _ _).trans ?_
  kernel_rfl
theorem s_l1Far_l3_eq (y0 : List (Int)) (y1 : Int) (y2 : Int) (y3 : Int) (y4 : Int) (y5 : List (Int)) : s_l1Far_l3 y0 y1 y2 y3 y4 y5 = (cond ((decide (y4 < (List.length y0 : Int)))) (if y4 < 0 then none else (cond (((Int.tmod (Int.fdiv y2 (2 ^ min (y4 : Int).toNat IntKind.i64.bits)) 2) == 1)) (if (0 : Int) ≤ y4 ∧ y4 < (List.length y5 : Int) then (s_l1Far_l3 y0 y1 y2 y3 (IntKind.i64.wrap (y4 + 1)) (List.set y5 (y4 : Int).toNat y3)) else none) (s_l1Far_l3 y0 y1 y2 y3 (IntKind.i64.wrap (y4 + 1)) y5))) (s_l1Far_j4 y0 y1 y2 y3 y5)) := by
  refine (loopK_eq Tryz.prog (s_l1Far_E) (sub (Tryz.f129.body.getD .skip) [1, 1, 1, 1, 1, 0, 1, 0, 0, 1, 0, 0, 0, 1, 0, 0]) _ _).trans ?_
  kernel_rfl
theorem s_l1Far_j4_eq (y0 : List (Int)) (y1 : Int) (y2 : Int) (y3 : Int) (y4 : List (Int)) : s_l1Far_j4 y0 y1 y2 y3 y4 = (Option.bind (s_l1Near_f (y0, y2)) fun r1 => (s_l1Far_l2 y0 (Go.bits .or IntKind.i64 y1 y2) (Go.bits .andNot IntKind.i64 r1 (Go.bits .or IntKind.i64 y1 y2)) (IntKind.i64.wrap (y3 + 1)) y4)) := by
  kernel_rfl
theorem s_l1Far_ent : Entb Tryz.prog 129 := ⟨Tryz.f129, by kernel_rfl, by kernel_rfl, by kernel_rfl⟩
theorem s_l1Far_ok : CtrOk Tryz.prog 129 ⟨s_l1Far_sig, s_l1Far_f⟩ :=
  ctr_of (fn := Tryz.f129) (by kernel_rfl) (by kernel_rfl) (fun x : Ts s_l1Far_sig.pc => s_l1Far_E) (fun x => ⟨(fn_cons ⟨s_l1Near_ok, s_l1Near_ent⟩ fn_none), clo_none, wr_none⟩) (fun h => by cases h) follows_ (fun _ _ => trivial)
end FN

set_option linter.unusedVariables false
namespace FN
open Go Go.Proofs
/-! loop.example/firingnets/spec.DistancesFrom -/
@[reducible] def s_DistancesFrom_sig : Sig := { ps := [none, none], pc := [.view .i64, .int .i64], rs := [none], rc := [.row 3 .i64] }
noncomputable def s_DistancesFrom_E : Env' := { fn := fun f => if f = 111 then some ⟨s_l1In_sig, s_l1In_f⟩ else if f = 128 then some ⟨s_NetOk_sig, s_NetOk_f⟩ else if f = 129 then some ⟨s_l1Far_sig, s_l1Far_f⟩ else none, ck := ckT, cuts := [], mine := fun i => i == 6 || i == 14 || i == 20 }
noncomputable def s_DistancesFrom_f (x : Ts s_DistancesFrom_sig.pc) : Option (Ts s_DistancesFrom_sig.rc) := runFn Tryz.prog (s_DistancesFrom_E) Tryz.f99 s_DistancesFrom_sig x
theorem s_DistancesFrom_f_eq (x0 : (List (Int))) (x1 : (Int)) : s_DistancesFrom_f (x0, x1) = (Option.bind (s_NetOk_f x0) fun r1 => (cond ((!r1)) (some ([] : List (Int))) (if (List.length x0 : Int) < 0 then none else (Option.bind (s_l1In_f (x1, 0, (IntKind.i64.wrap ((IntKind.i64.wrap (1 * 2 ^ min ((List.length x0 : Int) : Int).toNat IntKind.i64.bits)) - 1)))) fun r2 => (cond ((!r2)) (some ([] : List (Int))) (Option.bind (s_l1Far_f (x0, x1)) fun r3 => (some r3))))))) := by
  kernel_rfl
theorem s_DistancesFrom_ent : Entb Tryz.prog 99 := ⟨Tryz.f99, by kernel_rfl, by kernel_rfl, by kernel_rfl⟩
theorem s_DistancesFrom_ok : CtrOk Tryz.prog 99 ⟨s_DistancesFrom_sig, s_DistancesFrom_f⟩ :=
  ctr_of (fn := Tryz.f99) (by kernel_rfl) (by kernel_rfl) (fun x : Ts s_DistancesFrom_sig.pc => s_DistancesFrom_E) (fun x => ⟨(fn_cons ⟨s_l1In_ok, s_l1In_ent⟩ (fn_cons ⟨s_NetOk_ok, s_NetOk_ent⟩ (fn_cons ⟨s_l1Far_ok, s_l1Far_ent⟩ fn_none))), clo_none, wr_none⟩) (fun h => by cases h) follows_ (fun _ _ => trivial)
end FN

set_option linter.unusedVariables false
namespace FN
open Go Go.Proofs
/-! loop.example/firingnets/spec.PartsOf -/
@[reducible] def s_PartsOf_sig : Sig := { ps := [none], pc := [.view .i64], rs := [none], rc := [.row 3 .i64] }
noncomputable def s_PartsOf_E : Env' := { fn := fun f => if f = 128 then some ⟨s_NetOk_sig, s_NetOk_f⟩ else if f = 129 then some ⟨s_l1Far_sig, s_l1Far_f⟩ else none, ck := ckT, cuts := [(3, [0, 3, 4]), (8, [0, 3, 4, 5, 6, 7])], mine := fun i => false }
noncomputable def s_PartsOf_f (x : Ts s_PartsOf_sig.pc) : Option (Ts s_PartsOf_sig.rc) := runFn Tryz.prog (s_PartsOf_E) Tryz.f94 s_PartsOf_sig x
noncomputable def s_PartsOf_l0 (y0 : List (Int)) (y1 : Int) (y2 : List (Int)) : Option ((List (Int))) := from_ Tryz.prog (s_PartsOf_E) Tryz.f94 s_PartsOf_sig [1, 1, 0, 1, 0] ⟨mkT 40 [(0, .row false .i64 y0), (3, .own 0), (4, .int .i64 y1)], [some (.arr 3 true .i64 y2)]⟩
noncomputable def s_PartsOf_l1 (y0 : List (Int)) (y1 : Int) (y2 : List (Int)) (y3 : Int) (y4 : Int) (y5 : List (Int)) : Option ((List (Int))) := from_ Tryz.prog (s_PartsOf_E) Tryz.f94 s_PartsOf_sig [1, 1, 0, 1, 0, 0, 1, 0, 0, 1, 1, 0, 1, 0] ⟨mkT 40 [(0, .row false .i64 y0), (3, .own 0), (4, .int .i64 y1), (5, .row true .i64 y2), (6, .int .i64 y3), (7, .int .i64 y4)], [some (.arr 3 true .i64 y5)]⟩
theorem s_PartsOf_f_eq (x0 : (List (Int))) : s_PartsOf_f x0 = (s_PartsOf_l0 x0 0 ([] : List (Int))) := by
  kernel_rfl
theorem s_PartsOf_l0_eq (y0 : List (Int)) (y1 : Int) (y2 : List (Int)) : s_PartsOf_l0 y0 y1 y2 = (cond ((decide (y1 < (List.length y0 : Int)))) (Option.bind (s_NetOk_f y0) fun r1 => (cond (r1) (if y1 < 0 then none else (Option.bind (s_l1Far_f (y0, (IntKind.i64.wrap (1 * 2 ^ min (y1 : Int).toNat IntKind.i64.bits)))) fun r2 => (s_PartsOf_l1 y0 y1 r2 y1 y1 y2))) (some y2))) (some y2)) := by
  refine (loopK_eq Tryz.prog (s_PartsOf_E) (sub (Tryz.f94.body.getD .skip) [1, 1, 0, 1, 0, 0]) _ _).trans ?_
  kernel_rfl
theorem s_PartsOf_l1_eq (y0 : List (Int)) (y1 : Int) (y2 : List (Int)) (y3 : Int) (y4 : Int) (y5 : List (Int)) : s_PartsOf_l1 y0 y1 y2 y3 y4 y5 = (cond ((decide (0 ≤ y4))) (if (0 : Int) ≤ y4 ∧ y4 < (List.length y2 : Int) then (cond ((decide (0 ≤ (List.getD y2 (y4 : Int).toNat 0)))) (s_PartsOf_l1 y0 y1 y2 y4 (IntKind.i64.wrap (y4 - 1)) y5) (s_PartsOf_l1 y0 y1 y2 y3 (IntKind.i64.wrap (y4 - 1)) y5)) else none) (if (List.length y5 + List.length ([y3] : List (Int))) * 8 ≤ 140737488355328 then (s_PartsOf_l0 y0 (IntKind.i64.wrap (y1 + 1)) (y5 ++ ([y3] : List (Int)))) else none)) := by
  refine (loopK_eq Tryz.prog (s_PartsOf_E) (sub (Tryz.f94.body.getD .skip) [1, 1, 0, 1, 0, 0, 1, 0, 0, 1, 1, 0, 1, 0, 0]) _ _).trans ?_
  kernel_rfl
theorem s_PartsOf_ent : Entb Tryz.prog 94 := ⟨Tryz.f94, by kernel_rfl, by kernel_rfl, by kernel_rfl⟩
theorem s_PartsOf_ok : CtrOk Tryz.prog 94 ⟨s_PartsOf_sig, s_PartsOf_f⟩ :=
  ctr_of (fn := Tryz.f94) (by kernel_rfl) (by kernel_rfl) (fun x : Ts s_PartsOf_sig.pc => s_PartsOf_E) (fun x => ⟨(fn_cons ⟨s_NetOk_ok, s_NetOk_ent⟩ (fn_cons ⟨s_l1Far_ok, s_l1Far_ent⟩ fn_none)), clo_none, wr_none⟩) (fun h => by cases h) follows_ (fun _ _ => trivial)
end FN

/-! strconv.Itoa, of every number: the shelf's contract, as one of ours. -/
namespace FN
open Go Go.Proofs Go.RowKit
@[reducible] def x_strconv_ItoaG_sig : Sig := { ps := [none], pc := [.int .i64], rs := [none], rc := [.str] }
def itoaG (n : Int) : ByteArray := ⟨(Lib.itoa n).toArray⟩
def x_strconv_ItoaG_f (n : Ts x_strconv_ItoaG_sig.pc) : Option (Ts x_strconv_ItoaG_sig.rc) := if (-9223372036854775808 : Int) ≤ n ∧ (n : Int) ≤ 9223372036854775807 then some (itoaG n) else none
theorem x_strconv_ItoaG_ent : Entb Tryz.prog 73 := x_strconv_Itoa_ent
theorem kpG {pin : Pn} {w : World} {k : Nat} {os : Array Obj} : Kp pin w.heap.size w (Go.Sort.grow (w.drewN k) os) :=
  ⟨rfl, rfl, rfl, by simp [Go.Sort.grow, World.drewN], fun i hi _ => by simp [Go.Sort.grow, World.drewN, Array.getElem?_append, hi]⟩
theorem x_strconv_ItoaG_ok : CtrOk Tryz.prog 73 ⟨x_strconv_ItoaG_sig, x_strconv_ItoaG_f⟩ := by
  intro w okc args bx x r hI hA hr
  obtain ⟨rfl, fl, h1, h2⟩ := (show bx = none ∧ ∃ fl, flatV [none] args.toList = some fl ∧ F2 (V1 (av w okc)) [PV.int .i64 x] fl from hA)
  obtain ⟨p, h3, rfl⟩ := flatV_one h1
  cases h2 with
  | cons hp _ =>
    have hp : p = .int .i64 x := hp
    subst hp
    have hx : (if (-9223372036854775808 : Int) ≤ x ∧ (x : Int) ≤ 9223372036854775807 then some (itoaG x) else none) = some r := hr
    split at hx
    · rename_i hc
      injection hx with hx
      subst hx
      have hargs : args = #[.int .i64 x] := by apply Array.ext'; rw [h3]
      rw [hargs]
      refine (Tryz.strconv_Itoa x hc.1 hc.2 w (gl_tab hI)).mono ?_
      rintro e w' ⟨rfl, k, os, rfl⟩
      exact ⟨_, rfl, ⟨[.string (itoaG x)], fun _ => False, ⟨_, rfl, rfl⟩, fun i j u u' g hu => by simp [rowsV] at hu, fun k h => h, (fun h => Bool.noConfusion (show (false : Bool) = true from h)), [.string (itoaG x)], rfl, rfl⟩, kpG⟩
    · cases hx
end FN

set_option linter.unusedVariables false
namespace FN
open Go Go.Proofs
/-! loop.example/firingnets/impl.rowText -/
@[reducible] def i_rowText_sig : Sig := { ps := [none], pc := [.view .i64], rs := [none], rc := [.str] }
noncomputable def i_rowText_E : Env' := { fn := fun f => if f = 73 then some ⟨x_strconv_ItoaG_sig, x_strconv_ItoaG_f⟩ else if f = 108 then some ⟨x_strings_Join_sig, x_strings_Join_f⟩ else none, ck := ckT, cuts := [(5, [3, 10, 11, 12])], mine := fun i => false }
noncomputable def i_rowText_f (x : Ts i_rowText_sig.pc) : Option (Ts i_rowText_sig.rc) := runFn Tryz.prog (i_rowText_E) Tryz.f75 i_rowText_sig x
noncomputable def i_rowText_l0 (y0 : List (Int)) (y1 : Int) (y2 : Int) (y3 : List (ByteArray)) : Option ((ByteArray)) := from_ Tryz.prog (i_rowText_E) Tryz.f75 i_rowText_sig [1, 1, 1, 0, 1, 0] ⟨mkT 24 [(3, .own 0), (10, .row false .i64 y0), (11, .int .i64 y1), (12, .int .i64 y2)], [some (.arr 9 true .str y3)]⟩
theorem i_rowText_f_eq (x0 : (List (Int))) : i_rowText_f x0 = (cond (((List.length x0 : Int) == 0)) (some str40) (i_rowText_l0 x0 (List.length x0 : Int) 0 ([] : List (ByteArray)))) := by
  kernel_rfl
theorem i_rowText_l0_eq (y0 : List (Int)) (y1 : Int) (y2 : Int) (y3 : List (ByteArray)) : i_rowText_l0 y0 y1 y2 y3 = (cond ((decide (y2 < y1))) (if (0 : Int) ≤ y2 ∧ y2 < (List.length y0 : Int) then (Option.bind (x_strconv_ItoaG_f (List.getD y0 (y2 : Int).toNat 0)) fun r1 => (if (List.length y3 + List.length ([r1] : List (ByteArray))) * 16 ≤ 140737488355328 then (i_rowText_l0 y0 y1 (IntKind.i64.wrap (y2 + 1)) (y3 ++ ([r1] : List (ByteArray)))) else none)) else none) (Option.bind (x_strings_Join_f (y3, str14)) fun r2 => (some r2))) := by
  refine (loopK_eq Tryz.prog (i_rowText_E) (sub (Tryz.f75.body.getD .skip) [1, 1, 1, 0, 1, 0, 0]) _ _).trans ?_
  kernel_rfl
theorem i_rowText_ent : Entb Tryz.prog 75 := ⟨Tryz.f75, by kernel_rfl, by kernel_rfl, by kernel_rfl⟩
theorem i_rowText_ok : CtrOk Tryz.prog 75 ⟨i_rowText_sig, i_rowText_f⟩ :=
  ctr_of (fn := Tryz.f75) (by kernel_rfl) (by kernel_rfl) (fun x : Ts i_rowText_sig.pc => i_rowText_E) (fun x => ⟨(fn_cons ⟨x_strconv_ItoaG_ok, x_strconv_ItoaG_ent⟩ (fn_cons ⟨x_strings_Join_ok, x_strings_Join_ent⟩ fn_none)), clo_none, wr_none⟩) (fun h => by cases h) follows_ (fun _ _ => trivial)
end FN

set_option linter.unusedVariables false
namespace FN
open Go Go.Proofs
/-! loop.example/firingnets/spec.l15Row -/
@[reducible] def s_l15Row_sig : Sig := { ps := [none], pc := [.view .i64], rs := [none], rc := [.str] }
noncomputable def s_l15Row_E : Env' := { fn := fun f => if f = 64 then some ⟨s_l1Number_sig, s_l1Number_f⟩ else none, ck := ckT, cuts := [(3, [0, 3, 4]), (7, [0, 3, 4]), (10, [0, 3])], mine := fun i => false }
noncomputable def s_l15Row_f (x : Ts s_l15Row_sig.pc) : Option (Ts s_l15Row_sig.rc) := runFn Tryz.prog (s_l15Row_E) Tryz.f92 s_l15Row_sig x
noncomputable def s_l15Row_l0 (y0 : List (Int)) (y1 : ByteArray) (y2 : Int) : Option ((ByteArray)) := from_ Tryz.prog (s_l15Row_E) Tryz.f92 s_l15Row_sig [1, 1, 0, 1, 0] ⟨mkT 40 [(0, .row false .i64 y0), (3, .str y1), (4, .int .i64 y2)], []⟩
noncomputable def s_l15Row_j1 (y0 : List (Int)) (y1 : ByteArray) (y2 : Int) : Option ((ByteArray)) := from_ Tryz.prog (s_l15Row_E) Tryz.f92 s_l15Row_sig [1, 1, 0, 1, 0, 0, 1, 0, 0, 1] ⟨mkT 40 [(0, .row false .i64 y0), (3, .str y1), (4, .int .i64 y2)], []⟩
noncomputable def s_l15Row_j2 (y0 : List (Int)) (y1 : ByteArray) : Option ((ByteArray)) := from_ Tryz.prog (s_l15Row_E) Tryz.f92 s_l15Row_sig [1, 1, 1] ⟨mkT 40 [(0, .row false .i64 y0), (3, .str y1)], []⟩
theorem s_l15Row_f_eq (x0 : (List (Int))) : s_l15Row_f x0 = (s_l15Row_l0 x0 ByteArray.empty 0) := by
  kernel_rfl
theorem s_l15Row_l0_eq (y0 : List (Int)) (y1 : ByteArray) (y2 : Int) : s_l15Row_l0 y0 y1 y2 = (cond ((decide (y2 < (List.length y0 : Int)))) (cond ((decide (0 < y2))) (if ByteArray.size y1 + ByteArray.size str14 ≤ 9223372036854775807 then (s_l15Row_j1 y0 (y1 ++ str14) y2) else none) (s_l15Row_j1 y0 y1 y2)) (s_l15Row_j2 y0 y1)) := by
  refine (loopK_eq Tryz.prog (s_l15Row_E) (sub (Tryz.f92.body.getD .skip) [1, 1, 0, 1, 0, 0]) _ _).trans ?_
  kernel_rfl
theorem s_l15Row_j1_eq (y0 : List (Int)) (y1 : ByteArray) (y2 : Int) : s_l15Row_j1 y0 y1 y2 = (if (0 : Int) ≤ y2 ∧ y2 < (List.length y0 : Int) then (cond ((decide ((List.getD y0 (y2 : Int).toNat 0) < 0))) (if ByteArray.size y1 + ByteArray.size str48 ≤ 9223372036854775807 then (if (0 : Int) ≤ y2 ∧ y2 < (List.length y0 : Int) then (Option.bind (s_l1Number_f (IntKind.i64.wrap (0 - (List.getD y0 (y2 : Int).toNat 0)))) fun r1 => (if ByteArray.size (y1 ++ str48) + ByteArray.size r1 ≤ 9223372036854775807 then (s_l15Row_l0 y0 ((y1 ++ str48) ++ r1) (IntKind.i64.wrap (y2 + 1))) else none)) else none) else none) (if (0 : Int) ≤ y2 ∧ y2 < (List.length y0 : Int) then (Option.bind (s_l1Number_f (List.getD y0 (y2 : Int).toNat 0)) fun r2 => (if ByteArray.size y1 + ByteArray.size r2 ≤ 9223372036854775807 then (s_l15Row_l0 y0 (y1 ++ r2) (IntKind.i64.wrap (y2 + 1))) else none)) else none)) else none) := by
  kernel_rfl
theorem s_l15Row_j2_eq (y0 : List (Int)) (y1 : ByteArray) : s_l15Row_j2 y0 y1 = (cond (((List.length y0 : Int) == 0)) (some str40) (some y1)) := by
  kernel_rfl
theorem s_l15Row_ent : Entb Tryz.prog 92 := ⟨Tryz.f92, by kernel_rfl, by kernel_rfl, by kernel_rfl⟩
theorem s_l15Row_ok : CtrOk Tryz.prog 92 ⟨s_l15Row_sig, s_l15Row_f⟩ :=
  ctr_of (fn := Tryz.f92) (by kernel_rfl) (by kernel_rfl) (fun x : Ts s_l15Row_sig.pc => s_l15Row_E) (fun x => ⟨(fn_cons ⟨s_l1Number_ok, s_l1Number_ent⟩ fn_none), clo_none, wr_none⟩) (fun h => by cases h) follows_ (fun _ _ => trivial)
end FN

set_option linter.unusedVariables false
namespace FN
open Go Go.Proofs
/-! loop.example/firingnets/impl.CountsOf -/
@[reducible] def i_CountsOf_sig : Sig := { ps := [none, none], pc := [.int .i64, .view .i64], rs := [none], rc := [.row 3 .i64] }
noncomputable def i_CountsOf_E : Env' := { fn := fun f => if f = 119 then some ⟨i_StateOk_sig, i_StateOk_f⟩ else none, ck := ckT, cuts := [(5, [5, 14, 15, 16])], mine := fun i => false }
noncomputable def i_CountsOf_f (x : Ts i_CountsOf_sig.pc) : Option (Ts i_CountsOf_sig.rc) := runFn Tryz.prog (i_CountsOf_E) Tryz.f76 i_CountsOf_sig x
noncomputable def i_CountsOf_l0 (y0 : List (Int)) (y1 : Int) (y2 : Int) (y3 : List (Int)) : Option ((List (Int))) := from_ Tryz.prog (i_CountsOf_E) Tryz.f76 i_CountsOf_sig [1, 1, 1, 0, 1, 0] ⟨mkT 28 [(5, .own 0), (14, .row false .i64 y0), (15, .int .i64 y1), (16, .int .i64 y2)], [some (.arr 3 true .i64 y3)]⟩
theorem i_CountsOf_f_eq (x0 : (Int)) (x1 : (List (Int))) : i_CountsOf_f (x0, x1) = (Option.bind (i_StateOk_f (x0, x1)) fun r1 => (cond ((!r1)) (some []) (if (0 : Int) ≤ x0 ∧ x0 * 8 ≤ 140737488355328 ∧ x0 ≤ 140737488355328 then (i_CountsOf_l0 x1 (List.length x1 : Int) 0 (List.replicate (x0 : Int).toNat 0 : List (Int))) else none))) := by
  kernel_rfl
theorem i_CountsOf_l0_eq (y0 : List (Int)) (y1 : Int) (y2 : Int) (y3 : List (Int)) : i_CountsOf_l0 y0 y1 y2 y3 = (cond ((decide (y2 < y1))) (if (0 : Int) ≤ y2 ∧ y2 < (List.length y0 : Int) then (if (0 : Int) ≤ (List.getD y0 (y2 : Int).toNat 0) ∧ (List.getD y0 (y2 : Int).toNat 0) < (List.length y3 : Int) then (if (0 : Int) ≤ (List.getD y0 (y2 : Int).toNat 0) ∧ (List.getD y0 (y2 : Int).toNat 0) < (List.length y3 : Int) then (i_CountsOf_l0 y0 y1 (IntKind.i64.wrap (y2 + 1)) (List.set y3 ((List.getD y0 (y2 : Int).toNat 0) : Int).toNat (IntKind.i64.wrap ((List.getD y3 ((List.getD y0 (y2 : Int).toNat 0) : Int).toNat 0) + 1)))) else none) else none) else none) (some y3)) := by
  refine (loopK_eq Tryz.prog (i_CountsOf_E) (sub (Tryz.f76.body.getD .skip) [1, 1, 1, 0, 1, 0, 0]) _ _).trans ?_
  kernel_rfl
theorem i_CountsOf_ent : Entb Tryz.prog 76 := ⟨Tryz.f76, by kernel_rfl, by kernel_rfl, by kernel_rfl⟩
theorem i_CountsOf_ok : CtrOk Tryz.prog 76 ⟨i_CountsOf_sig, i_CountsOf_f⟩ :=
  ctr_of (fn := Tryz.f76) (by kernel_rfl) (by kernel_rfl) (fun x : Ts i_CountsOf_sig.pc => i_CountsOf_E) (fun x => ⟨(fn_cons ⟨i_StateOk_ok, i_StateOk_ent⟩ fn_none), clo_none, wr_none⟩) (fun h => by cases h) follows_ (fun _ _ => trivial)
end FN

set_option linter.unusedVariables false
namespace FN
open Go Go.Proofs
/-! loop.example/firingnets/spec.CountsOf -/
@[reducible] def s_CountsOf_sig : Sig := { ps := [none, none], pc := [.int .i64, .view .i64], rs := [none], rc := [.row 3 .i64] }
noncomputable def s_CountsOf_E : Env' := { fn := fun f => if f = 127 then some ⟨s_StateOk_sig, s_StateOk_f⟩ else none, ck := ckT, cuts := [(5, [1, 5, 6])], mine := fun i => false }
noncomputable def s_CountsOf_f (x : Ts s_CountsOf_sig.pc) : Option (Ts s_CountsOf_sig.rc) := runFn Tryz.prog (s_CountsOf_E) Tryz.f93 s_CountsOf_sig x
noncomputable def s_CountsOf_l0 (y0 : List (Int)) (y1 : Int) (y2 : List (Int)) : Option ((List (Int))) := from_ Tryz.prog (s_CountsOf_E) Tryz.f93 s_CountsOf_sig [1, 1, 1, 0, 1, 0] ⟨mkT 35 [(1, .row false .i64 y0), (5, .own 0), (6, .int .i64 y1)], [some (.arr 3 true .i64 y2)]⟩
theorem s_CountsOf_f_eq (x0 : (Int)) (x1 : (List (Int))) : s_CountsOf_f (x0, x1) = (Option.bind (s_StateOk_f (x0, x1)) fun r1 => (cond ((!r1)) (some ([] : List (Int))) (if (0 : Int) ≤ x0 ∧ x0 * 8 ≤ 140737488355328 ∧ x0 ≤ 140737488355328 then (s_CountsOf_l0 x1 0 (List.replicate (x0 : Int).toNat 0 : List (Int))) else none))) := by
  kernel_rfl
theorem s_CountsOf_l0_eq (y0 : List (Int)) (y1 : Int) (y2 : List (Int)) : s_CountsOf_l0 y0 y1 y2 = (cond ((decide (y1 < (List.length y0 : Int)))) (if (0 : Int) ≤ y1 ∧ y1 < (List.length y0 : Int) then (if (0 : Int) ≤ y1 ∧ y1 < (List.length y0 : Int) then (if (0 : Int) ≤ (List.getD y0 (y1 : Int).toNat 0) ∧ (List.getD y0 (y1 : Int).toNat 0) < (List.length y2 : Int) then (if (0 : Int) ≤ (List.getD y0 (y1 : Int).toNat 0) ∧ (List.getD y0 (y1 : Int).toNat 0) < (List.length y2 : Int) then (s_CountsOf_l0 y0 (IntKind.i64.wrap (y1 + 1)) (List.set y2 ((List.getD y0 (y1 : Int).toNat 0) : Int).toNat (IntKind.i64.wrap ((List.getD y2 ((List.getD y0 (y1 : Int).toNat 0) : Int).toNat 0) + 1)))) else none) else none) else none) else none) (some y2)) := by
  refine (loopK_eq Tryz.prog (s_CountsOf_E) (sub (Tryz.f93.body.getD .skip) [1, 1, 1, 0, 1, 0, 0]) _ _).trans ?_
  kernel_rfl
theorem s_CountsOf_ent : Entb Tryz.prog 93 := ⟨Tryz.f93, by kernel_rfl, by kernel_rfl, by kernel_rfl⟩
theorem s_CountsOf_ok : CtrOk Tryz.prog 93 ⟨s_CountsOf_sig, s_CountsOf_f⟩ :=
  ctr_of (fn := Tryz.f93) (by kernel_rfl) (by kernel_rfl) (fun x : Ts s_CountsOf_sig.pc => s_CountsOf_E) (fun x => ⟨(fn_cons ⟨s_StateOk_ok, s_StateOk_ent⟩ fn_none), clo_none, wr_none⟩) (fun h => by cases h) follows_ (fun _ _ => trivial)
end FN

/-! The search for a number that comes again, with a map of what has been met. -/
namespace FN
open Go Go.Maps
/-- The search: what has been met, in order. -/
def loopG (num : List Int → Option Int) (step : List Int → Option (List Int)) : Nat → List Int → List Int → Option (Int × Int)
  | 0, _, _ => none
  | f + 1, seen, s => (num s).bind fun v => if 0 ≤ v ∧ v ≤ 4611686018427387904 then (match seen.findIdx? (· == v) with
    | some i => some ((i : Int), (seen.length : Int) - (i : Int))
    | none => (step s).bind fun s' => loopG num step f (seen ++ [v]) s') else none
abbrev kL (x : Int) : Lit := .int .i64 x
/-- The map holds where each number was met. -/
def MapIs (D : DataW Unit) (seen : List Int) : Prop :=
  IsMap D ∧ ∀ x : Int, (seen.findIdx? (· == x) = none → has D (kL x) = false) ∧ ∀ i, seen.findIdx? (· == x) = some i → has D (kL x) = true ∧ ∀ z, D.atKey (kL x) z = .lit (.int .i64 (i : Int))
theorem mapIs_nil : MapIs (.map []) [] := ⟨isMap_empty, fun x => ⟨fun _ => rfl, fun i h => by simp at h⟩⟩
theorem isKey_int (x : Int) : WideAt.IsKeyLit (kL x) := by simp [WideAt.IsKeyLit]
theorem mapIs_put {D : DataW Unit} {seen : List Int} (h : MapIs D seen) (x : Int) (hx : seen.findIdx? (· == x) = none) : MapIs (D.put (kL x) (.lit (.int .i64 (seen.length : Int)))) (seen ++ [x]) := by
  refine ⟨h.1.put _ _, fun y => ?_⟩
  by_cases e : y = x
  · subst e
    have hf : (seen ++ [y]).findIdx? (· == y) = some seen.length := by
      rw [List.findIdx?_append, hx]
      simp
    refine And.intro (fun hn => by rw [hf] at hn; cases hn) (fun i hi => ?_)
    rw [hf] at hi
    injection hi with hi
    subst hi
    exact ⟨has_put_same h.1 (isKey_int y) _, fun z => atKey_put_same h.1 (isKey_int y) _ _⟩
  · have hne : kL y ≠ kL x := fun he => e (by injection he)
    have hf : (seen ++ [x]).findIdx? (· == y) = seen.findIdx? (· == y) := by
      rw [List.findIdx?_append]
      cases seen.findIdx? (· == y) with
      | some i => rfl
      | none => simp [Ne.symm e]
    rw [hf, has_put_other hne]
    refine ⟨(h.2 y).1, fun i hi => ⟨((h.2 y).2 i hi).1, fun z => ?_⟩⟩
    rw [atKey_put_other hne]
    exact ((h.2 y).2 i hi).2 z
end FN

set_option linter.unusedVariables false
namespace FN
open Go Go.Proofs
/-! loop.example/firingnets/impl.NumberOf -/
@[reducible] def i_NumberOf_sig : Sig := { ps := [none, none], pc := [.int .i64, .view .i64], rs := [none], rc := [.int .i64] }
noncomputable def i_NumberOf_E : Env' := { fn := fun f => if f = 119 then some ⟨i_StateOk_sig, i_StateOk_f⟩ else none, ck := ckT, cuts := [(5, [0, 1, 5, 6])], mine := fun i => false }
noncomputable def i_NumberOf_f (x : Ts i_NumberOf_sig.pc) : Option (Ts i_NumberOf_sig.rc) := runFn Tryz.prog (i_NumberOf_E) Tryz.f115 i_NumberOf_sig x
noncomputable def i_NumberOf_l0 (y0 : Int) (y1 : List (Int)) (y2 : Int) (y3 : Int) : Option ((Int)) := from_ Tryz.prog (i_NumberOf_E) Tryz.f115 i_NumberOf_sig [1, 1, 1, 0, 1, 0] ⟨mkT 27 [(0, .int .i64 y0), (1, .row false .i64 y1), (5, .int .i64 y2), (6, .int .i64 y3)], []⟩
theorem i_NumberOf_f_eq (x0 : (Int)) (x1 : (List (Int))) : i_NumberOf_f (x0, x1) = (Option.bind (i_StateOk_f (x0, x1)) fun r1 => (cond ((!r1)) (some (-1)) (i_NumberOf_l0 x0 x1 0 (IntKind.i64.wrap ((List.length x1 : Int) - 1))))) := by
  kernel_rfl
theorem i_NumberOf_l0_eq (y0 : Int) (y1 : List (Int)) (y2 : Int) (y3 : Int) : i_NumberOf_l0 y0 y1 y2 y3 = (cond ((decide (0 ≤ y3))) (if (0 : Int) ≤ y3 ∧ y3 < (List.length y1 : Int) then (i_NumberOf_l0 y0 y1 (IntKind.i64.wrap ((IntKind.i64.wrap (y2 * y0)) + (List.getD y1 (y3 : Int).toNat 0))) (IntKind.i64.wrap (y3 - 1))) else none) (some y2)) := by
  refine (loopK_eq Tryz.prog (i_NumberOf_E) (sub (Tryz.f115.body.getD .skip) [1, 1, 1, 0, 1, 0, 0]) _ _).trans ?_
  kernel_rfl
theorem i_NumberOf_ok : CtrOk Tryz.prog 115 ⟨i_NumberOf_sig, i_NumberOf_f⟩ :=
  ctr_of (fn := Tryz.f115) (by kernel_rfl) (by kernel_rfl) (fun x : Ts i_NumberOf_sig.pc => i_NumberOf_E) (fun x => ⟨(fn_cons ⟨i_StateOk_ok, i_StateOk_ent⟩ fn_none), clo_none, wr_none⟩) (fun h => by cases h) follows_ (fun _ _ => trivial)
end FN

/-! LoopOf and loopBy, with a map and a function that is handed on: walked by hand. -/
namespace FN
open Go Go.Proofs Go.RowKit Go.Maps
abbrev KpN (w w' : World) : Prop := Kp ⟨fun k => ∃ b : List Int, (none : Option (Nat × List Int)) = some (k, b), fun _ => True⟩ w.heap.size w w'
abbrev SlT (W : World) (xs : List Int) (v : Value) : Prop := SlR W (fun _ => True) .i64 xs v
theorem KpN.blk {w w' : World} (h : KpN w w') {k : Nat} (hk : k < w.heap.size) : w'.heap[k]? = w.heap[k]? := h.block k hk (by rintro ⟨b, hb⟩; cases hb)
theorem KpN.grows {w w' : World} (h : KpN w w') : Grows w w' := ⟨h.size, fun _ hk => h.blk hk⟩
theorem KpN.of {w w' : World} (h1 : w'.os = w.os) (h2 : w'.tape = w.tape) (h3 : w'.output = w.output) (h4 : Grows w w') : KpN w w' := ⟨h1, h2, h3, h4.1, fun k hk _ => h4.2 k hk⟩
theorem KpN.trans {a b c : World} (h : KpN a b) (k : KpN b c) : KpN a c :=
  KpN.of (k.os.trans h.os) (k.tape.trans h.tape) (k.output.trans h.output) (h.grows.trans k.grows)
theorem KpN.alloc (w : World) (o : Obj) : KpN w (w.alloc o) := KpN.of rfl rfl rfl (Grows.alloc w o)
theorem KpN.refl (w : World) : KpN w w := KpN.of rfl rfl rfl (Grows.refl w)
theorem SlT.keep {W W' : World} {xs : List Int} {v : Value} (h : SlT W xs v) (g : Grows W W') : SlT W' xs v := SlR.tr ⟨g.1, fun k _ hl => ⟨g.2 k hl, trivial⟩⟩ h
theorem SlT.of {W : World} {ok : Nat → Prop} {xs : List Int} {v : Value} (h : SlR W ok .i64 xs v) : SlT W xs v := SlR.tr ⟨Nat.le_refl _, fun _ _ _ => ⟨rfl, trivial⟩⟩ h
theorem SlT.arg {W : World} {xs : List Int} {v : Value} (h : SlT W xs v) : V1 (av W fun _ => True) (.row false .i64 xs) v := SlR.tr ⟨Nat.le_refl _, fun _ _ _ => ⟨rfl, trivial, fun e => by cases e⟩⟩ h
theorem gl_keep {w w' : World} (h : Gl.I w) (k : Grows w w') : Gl.I w' := Gl.keep none h k.1 (fun i hi _ => k.2 i hi) (fun k hk => by cases hk)
theorem own_SlT {W : World} {base : Nat} {okr : Nat → Prop} {e : TypeId} {xs : List Int} {u : Value} {inner : List Value} (ho : W.ownsRow base e 1 u xs.length inner) (ha : ArrR ⟨W, okr, base, 0, fun _ => undef⟩ true .i64 xs inner) : SlT W xs u := by
  rcases ho.2 with ⟨h0, hn⟩ | ⟨g, cap, cur, hv, hbg, hh, hle, hm, hsz, htk⟩
  · have : xs = [] := List.eq_nil_of_length_eq_zero hn
    subst this
    exact ⟨none, 0, h0, Nat.le_refl _, Nat.zero_le _, fun hx => absurd rfl hx⟩
  · refine ⟨_, cap, hv, hle, Nat.le_trans hle hm, fun _ => ⟨_, rfl, trivial, (Array.getElem?_eq_some_iff.1 hh).1, fun j y hj => ?_⟩⟩
    obtain ⟨cs, he, hcs⟩ := ha j y hj
    simp only [ElR] at he
    subst he
    refine ⟨[.int .i64 y], rfl, fun i u hi => ?_⟩
    have h1 := hcs i u hi
    rw [← htk, List.getElem?_take] at h1
    split at h1
    · exact cell_blk hh h1
    · cases h1
theorem ctr_calls {P : Program} {f : FuncId} {sig : Sig} {run : Ts sig.pc → Option (Ts sig.rc)} (hc : CtrOk P f ⟨sig, run⟩) {W : World} {args : Array Value} {x : Ts sig.pc} {r : Ts sig.rc} (hI : Gl.I W) (hA : ArgR sig W (fun _ => True) args.toList none x) (hr : run x = some r) :
    Calls P f args W fun e W' => ∃ v, e = .returned v ∧ RetR sig W W' (fun _ => True) none r v ∧ KpN W W' := hc W (fun _ => True) args none x r hI hA hr
theorem av_int {W : World} {ok : Nat → Prop} {k : IntKind} {n : Int} : V1 (av W ok) (.int k n) (.int k n) := rfl
theorem av_nil {W : World} {ok : Nat → Prop} : V1 (av W ok) .nilS (.slice none 0 0) := rfl
theorem flatV_1 {vs : List Value} {u : Value} (h : flatV [none] vs = some [u]) : vs = [u] := by
  cases vs with
  | nil => simp [flatV] at h
  | cons v vs => cases vs with
    | nil => simp only [flatV, Option.map_some] at h; injection h with h
    | cons v' vs => simp [flatV] at h
theorem numC {W : World} {κ : Int} {st : List Int} {v : Value} {n : Int} (hI : Gl.I W) (hv : SlT W st v) (hr : i_NumberOf_f (κ, st) = some n) :
    Calls Tryz.prog 115 #[.int .i64 κ, v] W fun e W' => e = .returned (.int .i64 n) ∧ KpN W W' := by
  refine (ctr_calls i_NumberOf_ok (args := #[.int .i64 κ, v]) (x := (κ, st)) hI (show (none : Option (Nat × List Int)) = none ∧ ∃ fl, flatV [none, none] [.int .i64 κ, v] = some fl ∧ F2 (V1 (av W fun _ => True)) [.int .i64 κ, .row false .i64 st] fl from ⟨rfl, [.int .i64 κ, v], rfl, F2.cons av_int (F2.cons hv.arg F2.nil)⟩) hr).mono ?_
  rintro e w' ⟨v, rfl, ⟨us, sp, ho, _, hsh⟩, hk⟩
  obtain ⟨_, _, vs, hvs, rfl⟩ := hsh
  obtain ⟨u, rfl, hu⟩ := ho
  have hu' : u = .int .i64 n := hu
  subst hu'
  rw [flatV_1 hvs]
  exact ⟨rfl, hk⟩
theorem askC {W : World} {κ : Int} {net st : List Int} {u v : Value} {n : Bool} (hI : Gl.I W) (hu : SlT W net u) (hv : SlT W st v) (hr : i_asked_f (net, κ, st) = some n) :
    Calls Tryz.prog 101 #[u, .int .i64 κ, v] W fun e W' => e = .returned (.bool n) ∧ KpN W W' := by
  refine (ctr_calls i_asked_ok (args := #[u, .int .i64 κ, v]) (x := (net, κ, st)) hI (show (none : Option (Nat × List Int)) = none ∧ ∃ fl, flatV [none, none, none] [u, .int .i64 κ, v] = some fl ∧ F2 (V1 (av W fun _ => True)) [.row false .i64 net, .int .i64 κ, .row false .i64 st] fl from ⟨rfl, [u, .int .i64 κ, v], rfl, F2.cons hu.arg (F2.cons av_int (F2.cons hv.arg F2.nil))⟩) hr).mono ?_
  rintro e w' ⟨v, rfl, ⟨us, sp, ho, _, hsh⟩, hk⟩
  obtain ⟨_, _, vs, hvs, rfl⟩ := hsh
  obtain ⟨u, rfl, hu⟩ := ho
  have hu' : u = .bool n := hu
  subst hu'
  rw [flatV_1 hvs]
  exact ⟨rfl, hk⟩
theorem needC {W : World} {κ : Int} {net st st' : List Int} {u v : Value} (hI : Gl.I W) (hu : SlT W net u) (hv : SlT W st v) (hr : i_needStep_f (net, κ, (), st) = some st') :
    Calls Tryz.prog 69 #[u, .int .i64 κ, .slice none 0 0, v] W fun e W' => ∃ v', e = .returned v' ∧ SlT W' st' v' ∧ KpN W W' := by
  refine (ctr_calls i_needStep_ok (args := #[u, .int .i64 κ, .slice none 0 0, v]) (x := (net, κ, (), st)) hI (show (none : Option (Nat × List Int)) = none ∧ ∃ fl, flatV [none, none, none, none] [u, .int .i64 κ, .slice none 0 0, v] = some fl ∧ F2 (V1 (av W fun _ => True)) [.row false .i64 net, .int .i64 κ, .nilS, .row false .i64 st] fl from ⟨rfl, [u, .int .i64 κ, .slice none 0 0, v], rfl, F2.cons hu.arg (F2.cons av_int (F2.cons av_nil (F2.cons hv.arg F2.nil)))⟩) hr).mono ?_
  rintro e w' ⟨v, rfl, ⟨us, sp, ho, _, hsh⟩, hk⟩
  obtain ⟨_, _, vs, hvs, rfl⟩ := hsh
  obtain ⟨u, rfl, inner, ho, ha⟩ := ho
  rw [flatV_1 hvs]
  exact ⟨u, rfl, own_SlT ho ha, hk⟩
/-- The function that is handed on. -/
theorem stepC {W : World} {κ : Int} {net st st' : List Int} {u v : Value} {g1 g2 : Nat} (hI : Gl.I W) (hu : SlT W net u) (hv : SlT W st v) (h1 : W.cell? ⟨g1, 0, none⟩ = some u) (h2 : W.cell? ⟨g2, 0, none⟩ = some (.int .i64 κ))
    (hr : i_needStep_f (net, κ, (), st) = some st') :
    Calls Tryz.prog 118 #[v, .pointer (some ⟨g1, 0, none⟩), .pointer (some ⟨g2, 0, none⟩)] W fun e W' => ∃ v', e = .returned v' ∧ SlT W' st' v' ∧ KpN W W' := by
  go_enter Tryz.func118, Tryz.ntmps118
  go_wp2_with (go_at_call 69; refine (needC hI hu hv hr).mono ?_; rintro e w' ⟨v', rfl, hv', hk⟩)
  go_ret
  exact ⟨_, rfl, hv', hk⟩
theorem zeroI (w : World) : (zeroValue 3).run Tryz.prog w = .ok (.int .i64 0) w := by kernel_rfl
theorem wfN_i64 {x : Int} (h0 : 0 ≤ x) (h1 : x ≤ 4611686018427387904) : (Lit.int .i64 x).wf = true := by
  simp [Lit.wf, IntKind.min, IntKind.max, IntKind.bits, IntKind.signed]
  omega
theorem KpN.grown {w w' : World} (h : KpN w w') : w.grownBy w' none := ⟨h.os, h.tape, h.output, h.size, fun i hi _ => h.blk hi⟩
/-- A row that is read is no map. -/
theorem SlT.turn {w w' : World} {xs : List Int} {v : Value} {b : Nat} {es : Array MapEntry} {clock : Nat} (h : SlT w xs v) (hb : w.heap[b]? = some (.map es clock)) (hg : w.grownBy w' (some b)) : SlT w' xs v := by
  have h' : SlR w (fun k => k ≠ b) .i64 xs v := by
    obtain ⟨A, cp, rfl, hc, hm, hr⟩ := h
    refine ⟨A, cp, rfl, hc, hm, fun hn => ?_⟩
    obtain ⟨ad, rfl, _, hl, hx⟩ := hr hn
    refine ⟨ad, rfl, fun e => ?_, hl, fun j y hj => ?_⟩
    · cases xs with
      | nil => exact hn rfl
      | cons y ys =>
        obtain ⟨cs, e1, e2⟩ := hx 0 y rfl
        have e3 := e2 0 (.int .i64 y) (by simp only [ElR] at e1; subst e1; rfl)
        unfold World.cell? at e3
        rw [show (ad.add (0 * CK.sz .i64 + 0)).block = b from (Addr.add_block ad _).trans e, hb] at e3
        simp at e3
    · obtain ⟨cs, e1, e2⟩ := hx j y hj
      exact ⟨cs, e1, e2⟩
  exact SlR.tr ⟨hg.size, fun k hk hl => ⟨hg.block k hl (fun e => hk (by injection e)), trivial⟩⟩ h'
theorem KpN.turn {W0 w1 w2 : World} (h : KpN W0 w1) (hg : w1.grownBy w2 (some W0.heap.size)) : KpN W0 w2 :=
  KpN.of (hg.os.trans h.os) (hg.tape.trans h.tape) (hg.output.trans h.output) ⟨Nat.le_trans h.size hg.size, fun k hk => (hg.block k (Nat.lt_of_lt_of_le hk h.size) (fun e => by injection e with e; omega)).trans (h.blk hk)⟩
set_option maxRecDepth 100000 in
theorem loopC {W0 : World} {κ : Int} {net st0 : List Int} {u v0 : Value} {g1 g2 F : Nat} {r : Int × Int} (hF : F ≤ 1000000) (hI0 : Gl.I W0) (hu0 : SlT W0 net u) (hv0 : SlT W0 st0 v0) (h10 : W0.cell? ⟨g1, 0, none⟩ = some u) (h20 : W0.cell? ⟨g2, 0, none⟩ = some (.int .i64 κ))
    (hr0 : loopG (fun s => i_NumberOf_f (κ, s)) (fun s => i_needStep_f (net, κ, (), s)) F [] st0 = some r) :
    Calls Tryz.prog 117 #[.int .i64 κ, v0, .func (.func 118) #[] #[.pointer (some ⟨g1, 0, none⟩), .pointer (some ⟨g2, 0, none⟩)]] W0 fun e W' => e = .returned (.tuple #[.int .i64 r.1, .int .i64 r.2]) ∧ KpN W0 W' := by
  have hmm := @run_makeMap Tryz.prog
  go_enter Tryz.func117, Tryz.ntmps117
  go_wp2
  go_loopw [1, 9] (fun v i wr => ∃ (seen st : List Int) (f : Nat) (D : DataW Unit), i = .int .i64 (seen.length : Int) ∧ f + seen.length = F ∧ loopG (fun s => i_NumberOf_f (κ, s)) (fun s => i_needStep_f (net, κ, (), s)) f seen st = some r ∧
      wr.ownsMap Tryz.prog 3 (plainElem Tryz.prog 3) W0.heap.size seen.length D ∧ MapIs D seen ∧ SlT wr st v ∧ KpN W0 wr)
    (fun _ i _ => F - (intOf i).toNat)
  case atStart => exact ⟨[], st0, F, .map [], rfl, rfl, hr0, World.ownsMap_made _ _ _ _, mapIs_nil, hv0.keep (Grows.alloc _ _), KpN.alloc _ _⟩
  case round =>
    obtain ⟨seen, st, f, D, rfl, hf, hr, hown, hD, hv, hk⟩ := hrel
    cases f with
    | zero => simp [loopG] at hr
    | succ f =>
      unfold loopG at hr
      obtain ⟨x, hx, hr⟩ := Option.bind_eq_some_iff.1 hr
      split at hr
      · rename_i hb
        obtain ⟨hx0, hx1⟩ := hb
        have hkey : keyOf Tryz.prog 3 (.int .i64 x) = some (.int .i64 x) := keyOf_int_mk Tryz.underlying3 (wfN_i64 hx0 hx1)
        have hnum := numC (gl_keep hI0 hk.grows) hv hx
        split at hr
        · rename_i i hfi
          obtain ⟨hhas, hat⟩ := (hD.2 x).2 i hfi
          injection hr with hr
          subst hr
          have hil : i < seen.length := (List.findIdx?_eq_some_iff_getElem.1 hfi).1
          have hs1 : seen.length ≤ 1000000 := by omega
          go_wp2_with (first
            | (go_at_call 115; refine hnum.mono ?_; rintro e w1 ⟨rfl, hk1⟩; have hown1 := hown.kept hk1.grown (by simp))
            | (at_lookup; refine wpList_lookup_own_ok_int _ rfl _ _ 149 rfl 3 3 .i64 (int_keyed Tryz.underlying3) Tryz.underlying149 Tryz.underlying3 (zeroI _) W0.heap.size seen.length D rfl (by assumption) _ _ rfl hkey ?_; intro c hat2 hwc)
            | go_in)
          rw [hat] at hat2
          injection hat2 with hat2
          injection hat2 with _ hat2
          subst hat2
          go_ret2
          refine ⟨?_, hk.trans hk1⟩
          first | rfl | (simp [wrap64]; omega)
        · rename_i hfi
          obtain ⟨st', hs, hr⟩ := Option.bind_eq_some_iff.1 hr
          have hhas := (hD.2 x).1 hfi
          have hlen : (Lit.int .i64 (seen.length : Int)).wf = true := wfN_i64 (by omega) (by omega)
          have hb : W0.heap.size < wr.heap.size := hown.lt
          go_wp2_with (first
            | (go_at_call 115; refine hnum.mono ?_; rintro e w1 ⟨rfl, hk1⟩; have hown1 := hown.kept hk1.grown (by simp))
            | (at_lookup; refine wpList_lookup_own_ok_int _ rfl _ _ 149 rfl 3 3 .i64 (int_keyed Tryz.underlying3) Tryz.underlying149 Tryz.underlying3 (zeroI _) W0.heap.size seen.length D rfl (by assumption) _ _ rfl hkey ?_; intro c hat2 hwc)
            | (at_mapUpdate; refine wpList_mapUpdate_own _ rfl _ _ _ 149 rfl 3 3 (int_keyed Tryz.underlying3) Tryz.underlying149 (plainElem Tryz.prog 3) W0.heap.size seen.length D rfl (by assumption) (by unfold maxLen; omega) _ _ _ rfl rfl hkey (.lit (.int .i64 (seen.length : Int))) [] (plainElem_int Tryz.underlying3 hlen) ?_; intro w2 hown2 hgrow2; have hk2 := (hk.trans hk1).turn hgrow2; have hv2 := (hv.keep hk1.grows).turn (hown1.choose_spec.choose_spec.1) hgrow2)
            | (go_at_call 118; refine (stepC (gl_keep hI0 hk2.grows) (hu0.keep hk2.grows) hv2 (hk2.grows.cell h10) (hk2.grows.cell h20) hs).mono ?_; rintro e w3 ⟨v', rfl, hv', hk3⟩)
            | go_in)
          have hlen2 : seen.length + 1 ≤ 1000000 := by omega
          go_roundw
          case rel => exact ⟨seen ++ [x], st', f, _, by simp, by simp; omega, hr, by simpa using hown2.kept hk3.grown (by simp), mapIs_put hD x hfi, hv', hk2.trans hk3⟩
          case measure => simp [intOf]; omega
      · cases hr
@[reducible] def i_LoopOf_sig : Sig := { ps := [none, none, none], pc := [.view .i64, .int .i64, .view .i64], rs := [none, none], rc := [.int .i64, .int .i64] }
noncomputable def i_LoopOf_f (x : Ts i_LoopOf_sig.pc) : Option (Ts i_LoopOf_sig.rc) :=
  (i_asked_f (x.1, x.2.1, x.2.2)).bind fun b => cond b (loopG (fun s => i_NumberOf_f (x.2.1, s)) (fun s => i_needStep_f (x.1, x.2.1, (), s)) 20000 [] x.2.2) (some (-1, -1))
theorem i_LoopOf_f_eq (a : List Int) (k : Int) (b : List Int) : i_LoopOf_f (a, k, b) = (i_asked_f (a, k, b)).bind fun c => cond c (loopG (fun s => i_NumberOf_f (k, s)) (fun s => i_needStep_f (a, k, (), s)) 20000 [] b) (some (-1, -1)) := rfl
theorem i_LoopOf_ent : Entb Tryz.prog 74 := ⟨Tryz.f74, by kernel_rfl, by kernel_rfl, by kernel_rfl⟩
set_option maxRecDepth 100000 in
theorem loopOfC {W : World} {κ : Int} {net st : List Int} {u v : Value} {r : Int × Int} (hI : Gl.I W) (hu : SlT W net u) (hv : SlT W st v) (hr : i_LoopOf_f (net, κ, st) = some r) :
    Calls Tryz.prog 74 #[u, .int .i64 κ, v] W fun e W' => e = .returned (.tuple #[.int .i64 r.1, .int .i64 r.2]) ∧ KpN W W' := by
  have hmf : ∀ (fn : Fn) (first cap : Array Value) (w : World), (Instr.makeFunc fn first cap).run Tryz.prog w = .ok (.func fn first cap) w := fun _ _ _ _ => rfl
  rw [i_LoopOf_f_eq] at hr
  obtain ⟨b, hb, hr⟩ := Option.bind_eq_some_iff.1 hr
  obtain ⟨A, cp, hue, _⟩ := id hu
  have kk : KpN W ((W.alloc (.cells #[u] 23)).alloc (.cells #[.int .i64 κ] 3)) := (KpN.alloc W _).trans (KpN.alloc _ _)
  have h1 : ((W.alloc (.cells #[u] 23)).alloc (.cells #[.int .i64 κ] 3)).cell? ⟨W.heap.size, 0, none⟩ = some u := by
    rw [World.cell?_alloc_past _ _ _ (by simp), World.cell?_alloc_at _ _ _ _ rfl]; rfl
  have h2 : ((W.alloc (.cells #[u] 23)).alloc (.cells #[.int .i64 κ] 3)).cell? ⟨W.heap.size + 1, 0, none⟩ = some (.int .i64 κ) := by
    rw [World.cell?_alloc_at _ _ _ _ (by simp)]; rfl
  have ha := askC (gl_keep hI kk.grows) (hu.keep kk.grows) (hv.keep kk.grows) hb
  subst hue
  cases b with
  | false =>
    injection hr with hr
    subst hr
    go_enter Tryz.func74, Tryz.ntmps74
    go_wp2_with (first
      | (go_at_call 101; refine ha.mono ?_; rintro e w1 ⟨rfl, hk1⟩; have c1 := hk1.grows.cell h1; have c2 := hk1.grows.cell h2)
      | go_in)
    go_ret2
    exact ⟨rfl, kk.trans hk1⟩
  | true =>
    have hr' : loopG (fun s => i_NumberOf_f (κ, s)) (fun s => i_needStep_f (net, κ, (), s)) 20000 [] st = some r := hr
    go_enter Tryz.func74, Tryz.ntmps74
    go_wp2_with (first
      | (go_at_call 101; refine ha.mono ?_; rintro e w1 ⟨rfl, hk1⟩; have c1 := hk1.grows.cell h1; have c2 := hk1.grows.cell h2)
      | (go_at_call 117; refine (loopC (by decide) (gl_keep hI (kk.trans hk1).grows) (hu.keep (kk.trans hk1).grows) (hv.keep (kk.trans hk1).grows) c1 c2 hr').mono ?_; rintro e w2 ⟨rfl, hk2⟩)
      | go_in)
    go_ret2
    exact ⟨rfl, (kk.trans hk1).trans hk2⟩
theorem flatV_2 {vs fl : List Value} (h : flatV [none, none, none] vs = some fl) : vs = fl := by
  cases vs with
  | nil => simp [flatV] at h
  | cons a vs => cases vs with
    | nil => simp [flatV] at h
    | cons b vs => cases vs with
      | nil => simp [flatV] at h
      | cons c vs => cases vs with
        | nil => simpa [flatV] using h
        | cons d vs => simp [flatV] at h
theorem i_LoopOf_ok : CtrOk Tryz.prog 74 ⟨i_LoopOf_sig, i_LoopOf_f⟩ := by
  intro w okc args bx x r hI hA hr
  obtain ⟨net, κ, st⟩ := x
  dsimp only at hr
  obtain ⟨rfl, fl, h1, h2⟩ := (show bx = none ∧ ∃ fl, flatV [none, none, none] args.toList = some fl ∧ F2 (V1 (av w okc)) [PV.row false .i64 net, PV.int .i64 κ, PV.row false .i64 st] fl from hA)
  have h1 := flatV_2 h1
  cases h2 with
  | cons hu h2 => cases h2 with
    | cons hk h2 => cases h2 with
      | cons hv h2 =>
        cases h2
        rename_i u k v _
        have hk' : k = .int .i64 κ := hk
        subst hk'
        have hargs : args = #[u, .int .i64 κ, v] := by apply Array.ext'; rw [h1]
        rw [hargs]
        refine (loopOfC (r := r) hI (SlT.of (show SlR w _ .i64 net u from hu)) (SlT.of (show SlR w _ .i64 st v from hv)) hr).mono ?_
        rintro e w' ⟨rfl, hk⟩
        exact ⟨_, rfl, ⟨[.int .i64 r.1, .int .i64 r.2], fun _ => False, ⟨_, _, rfl, rfl, _, rfl, rfl⟩, fun i j u u' g hu => by simp [rowsV] at hu, fun k h => h, (fun h => Bool.noConfusion (show (false : Bool) = true from h)), [.int .i64 r.1, .int .i64 r.2], rfl, rfl⟩, hk⟩
end FN

/-! The search for rest, with a set of what has been met. -/
namespace FN
open Go Go.Maps
/-- The search: what has been met, in order. -/
def endsG (num : List Int → Option Int) (step : List Int → Option (List Int)) : Nat → List Int → List Int → Option Int
  | 0, _, _ => none
  | f + 1, seen, s => (num s).bind fun v => if 0 ≤ v ∧ v ≤ 4611686018427387904 then (if v = 0 then some (seen.length : Int) else if v ∈ seen then some (-1) else (step s).bind fun s' => endsG num step f (seen ++ [v]) s') else none
/-- The map holds what was met. -/
def SetIs (D : DataW Unit) (seen : List Int) : Prop :=
  IsMap D ∧ ∀ x : Int, (x ∉ seen → D.atKey (kL x) (.lit (.bool false)) = .lit (.bool false)) ∧ (x ∈ seen → D.atKey (kL x) (.lit (.bool false)) = .lit (.bool true))
theorem setIs_nil : SetIs (.map []) [] := ⟨isMap_empty, fun x => ⟨fun _ => rfl, fun h => by cases h⟩⟩
theorem setIs_put {D : DataW Unit} {seen : List Int} (h : SetIs D seen) (x : Int) : SetIs (D.put (kL x) (.lit (.bool true))) (seen ++ [x]) := by
  refine ⟨h.1.put _ _, fun y => ?_⟩
  by_cases e : y = x
  · subst e
    exact ⟨fun hn => absurd (by simp) hn, fun _ => atKey_put_same h.1 (isKey_int y) _ _⟩
  · have hne : kL y ≠ kL x := fun he => e (by injection he)
    rw [atKey_put_other hne]
    exact ⟨fun hn => (h.2 y).1 fun hy => hn (by simp [hy]), fun hy => (h.2 y).2 (by simpa [e] using hy)⟩
theorem plainElem_bool_inv {P : Program} {e : TypeId} (he : P.underlying e = some .bool) {v : Value} {z : DataW Unit × List MemPlace} (h : plainElem P e v = some z) : ∃ a, v = .bool a ∧ z = (.lit (.bool a), []) := by
  unfold plainElem at h
  rw [he] at h
  cases v <;> simp at h
  obtain rfl := h
  exact ⟨_, rfl, rfl⟩
theorem wpList_lookup_own_bool {P : Program} (w : World) {ops : Array Oper} {rest : List Oper} {o : Oper} {a : Act} {Q : Exit → Act → World → Prop}
    (hg : o.guard = none) (m x : Operand) (t : TypeId) (hop : o.op = Op.lookup t m x false)
    (k e : TypeId) (K : Keyed P k) (ht : P.underlying t = some (.map k e)) (he : P.underlying e = some .bool) (hz : (zeroValue e).run P w = .ok (.bool false) w) (b n : Nat) (D : DataW Unit)
    (hm : a.eval m = .map (some b)) (hown : w.ownsMap P k (plainElem P e) b n D) (key : Value) (kl : Lit) (hx : a.eval x = key) (hkey : keyOf P k key = some kl)
    (hK : ∀ c : Bool, D.atKey kl (.lit (.bool false)) = .lit (.bool c) → wpList P ops Q rest (a.put o.dst (.bool c)) w) :
    wpList P ops Q (o :: rest) a w := by
  refine wpList_plain hg fun K' hK' => ?_
  obtain ⟨v, ps, hrun, hv⟩ := hown.lookup K ht hz (plainElem_bool he false) hkey
  obtain ⟨c, rfl, hc⟩ := plainElem_bool_inv he hv
  simp only [Prod.mk.injEq] at hc
  unfold Oper.wp
  simp [execOp, hop, hm, hx, hrun, Result.andThen]
  exact hK' _ _ (hK c hc.1)
end FN

/-! EndsAt, with a map: walked by hand. -/
namespace FN
open Go Go.Proofs Go.RowKit Go.Maps
theorem zeroB (w : World) : (zeroValue 4).run Tryz.prog w = .ok (.bool false) w := by kernel_rfl
@[reducible] def i_EndsAt_sig : Sig := { ps := [none, none, none], pc := [.view .i64, .int .i64, .view .i64], rs := [none], rc := [.int .i64] }
noncomputable def i_EndsAt_f (x : Ts i_EndsAt_sig.pc) : Option (Ts i_EndsAt_sig.rc) :=
  (i_asked_f (x.1, x.2.1, x.2.2)).bind fun b => cond b (endsG (fun s => i_NumberOf_f (x.2.1, s)) (fun s => i_needStep_f (x.1, x.2.1, (), s)) 20000 [] x.2.2) (some (-1))
theorem i_EndsAt_f_eq (a : List Int) (k : Int) (b : List Int) : i_EndsAt_f (a, k, b) = (i_asked_f (a, k, b)).bind fun c => cond c (endsG (fun s => i_NumberOf_f (k, s)) (fun s => i_needStep_f (a, k, (), s)) 20000 [] b) (some (-1)) := rfl
theorem i_EndsAt_ent : Entb Tryz.prog 72 := ⟨Tryz.f72, by kernel_rfl, by kernel_rfl, by kernel_rfl⟩
set_option maxRecDepth 100000 in
theorem endsAtC {W : World} {κ : Int} {net st0 : List Int} {u v0 : Value} {F : Nat} {r : Int} (hF : F ≤ 1000000) (hI : Gl.I W) (hu : SlT W net u) (hv : SlT W st0 v0) (hb : i_asked_f (net, κ, st0) = some true)
    (hr0 : endsG (fun s => i_NumberOf_f (κ, s)) (fun s => i_needStep_f (net, κ, (), s)) F [] st0 = some r) :
    Calls Tryz.prog 72 #[u, .int .i64 κ, v0] W fun e W' => e = .returned (.int .i64 r) ∧ KpN W W' := by
  have hmm := @run_makeMap Tryz.prog
  have ha := askC hI hu hv hb
  go_enter Tryz.func72, Tryz.ntmps72
  go_wp2_with (first
    | (go_at_call 101; refine ha.mono ?_; rintro e W0 ⟨rfl, hk0⟩; have hu0 := hu.keep hk0.grows; have hv0 := hv.keep hk0.grows; have hI0 := gl_keep hI hk0.grows)
    | go_in)
  go_loopw [2, 8] (fun v i wr => ∃ (seen st : List Int) (f : Nat) (D : DataW Unit), i = .int .i64 (seen.length : Int) ∧ f + seen.length = F ∧ endsG (fun s => i_NumberOf_f (κ, s)) (fun s => i_needStep_f (net, κ, (), s)) f seen st = some r ∧
      wr.ownsMap Tryz.prog 3 (plainElem Tryz.prog 4) W0.heap.size seen.length D ∧ SetIs D seen ∧ SlT wr st v ∧ KpN W0 wr)
    (fun _ i _ => F - (intOf i).toNat)
  case atStart => exact ⟨[], st0, F, .map [], rfl, rfl, hr0, World.ownsMap_made _ _ _ _, setIs_nil, hv0.keep (Grows.alloc _ _), KpN.alloc _ _⟩
  case round =>
    obtain ⟨seen, st, f, D, rfl, hf, hr, hown, hD, hv, hk⟩ := hrel
    cases f with
    | zero => simp [endsG] at hr
    | succ f =>
      unfold endsG at hr
      obtain ⟨x, hx, hr⟩ := Option.bind_eq_some_iff.1 hr
      split at hr
      · rename_i hb
        obtain ⟨hx0, hx1⟩ := hb
        have hkey : keyOf Tryz.prog 3 (.int .i64 x) = some (.int .i64 x) := keyOf_int_mk Tryz.underlying3 (wfN_i64 hx0 hx1)
        have hnum := numC (gl_keep hI0 hk.grows) hv hx
        split at hr
        · rename_i h0
          injection hr with hr
          subst hr
          subst h0
          go_wp2_with (first
            | (go_at_call 115; refine hnum.mono ?_; rintro e w1 ⟨rfl, hk1⟩)
            | go_in)
          go_ret
          exact ⟨rfl, hk0.trans (hk.trans hk1)⟩
        · rename_i h0
          have h0b : (x == 0) = false := beq_false_of_ne h0
          split at hr
          · rename_i hmem
            have hat := (hD.2 x).2 hmem
            injection hr with hr
            subst hr
            go_wp2_with (first
              | (go_at_call 115; refine hnum.mono ?_; rintro e w1 ⟨rfl, hk1⟩; have hown1 := hown.kept hk1.grown (by simp))
              | (at_lookup; refine wpList_lookup_own_bool _ rfl _ _ 124 rfl 3 4 (int_keyed Tryz.underlying3) Tryz.underlying124 Tryz.underlying4 (zeroB _) W0.heap.size seen.length D rfl (by assumption) _ _ rfl hkey ?_; intro c hat2; obtain rfl : true = c := by { rw [hat] at hat2; injection hat2 with hat2; injection hat2 })
              | go_in)
            go_ret
            exact ⟨rfl, hk0.trans (hk.trans hk1)⟩
          · rename_i hmem
            have hat := (hD.2 x).1 hmem
            obtain ⟨st', hs, hr⟩ := Option.bind_eq_some_iff.1 hr
            have hs1 : seen.length ≤ 1000000 := by omega
            have hb : W0.heap.size < wr.heap.size := hown.lt
            go_wp2_with (first
              | (go_at_call 115; refine hnum.mono ?_; rintro e w1 ⟨rfl, hk1⟩; have hown1 := hown.kept hk1.grown (by simp))
              | (at_lookup; refine wpList_lookup_own_bool _ rfl _ _ 124 rfl 3 4 (int_keyed Tryz.underlying3) Tryz.underlying124 Tryz.underlying4 (zeroB _) W0.heap.size seen.length D rfl (by assumption) _ _ rfl hkey ?_; intro c hat2; obtain rfl : false = c := by { rw [hat] at hat2; injection hat2 with hat2; injection hat2 })
              | (at_mapUpdate; refine wpList_mapUpdate_own _ rfl _ _ _ 124 rfl 3 4 (int_keyed Tryz.underlying3) Tryz.underlying124 (plainElem Tryz.prog 4) W0.heap.size seen.length D rfl (by assumption) (by unfold maxLen; omega) _ _ _ rfl rfl hkey (.lit (.bool true)) [] (plainElem_bool Tryz.underlying4 true) ?_; intro w2 hown2 hgrow2; have hk2 := (hk.trans hk1).turn hgrow2; have hv2 := (hv.keep hk1.grows).turn (hown1.choose_spec.choose_spec.1) hgrow2)
              | (go_at_call 69; refine (needC (gl_keep hI0 hk2.grows) (hu0.keep hk2.grows) hv2 hs).mono ?_; rintro e w3 ⟨v', rfl, hv', hk3⟩)
              | go_in)
            have hlen2 : seen.length + 1 ≤ 1000000 := by omega
            go_roundw
            case rel => exact ⟨seen ++ [x], st', f, _, by simp, by simp; omega, hr, by simpa using hown2.kept hk3.grown (by simp), setIs_put hD x, hv', hk2.trans hk3⟩
            case measure => simp [intOf]; omega
      · cases hr
set_option maxRecDepth 100000 in
theorem endsOfC {W : World} {κ : Int} {net st : List Int} {u v : Value} {r : Int} (hI : Gl.I W) (hu : SlT W net u) (hv : SlT W st v) (hr : i_EndsAt_f (net, κ, st) = some r) :
    Calls Tryz.prog 72 #[u, .int .i64 κ, v] W fun e W' => e = .returned (.int .i64 r) ∧ KpN W W' := by
  rw [i_EndsAt_f_eq] at hr
  obtain ⟨b, hb, hr⟩ := Option.bind_eq_some_iff.1 hr
  cases b with
  | false =>
    injection hr with hr
    subst hr
    have ha := askC hI hu hv hb
    go_enter Tryz.func72, Tryz.ntmps72
    go_wp2_with (first
      | (go_at_call 101; refine ha.mono ?_; rintro e w1 ⟨rfl, hk1⟩)
      | go_in)
    go_ret
    exact ⟨rfl, hk1⟩
  | true => exact endsAtC (by decide) hI hu hv hb hr
theorem i_EndsAt_ok : CtrOk Tryz.prog 72 ⟨i_EndsAt_sig, i_EndsAt_f⟩ := by
  intro w okc args bx x r hI hA hr
  obtain ⟨net, κ, st⟩ := x
  dsimp only at hr
  obtain ⟨rfl, fl, h1, h2⟩ := (show bx = none ∧ ∃ fl, flatV [none, none, none] args.toList = some fl ∧ F2 (V1 (av w okc)) [PV.row false .i64 net, PV.int .i64 κ, PV.row false .i64 st] fl from hA)
  have h1 := flatV_2 h1
  cases h2 with
  | cons hu h2 => cases h2 with
    | cons hk h2 => cases h2 with
      | cons hv h2 =>
        cases h2
        rename_i u k v _
        have hk' : k = .int .i64 κ := hk
        subst hk'
        have hargs : args = #[u, .int .i64 κ, v] := by apply Array.ext'; rw [h1]
        rw [hargs]
        refine (endsOfC (r := r) hI (SlT.of (show SlR w _ .i64 net u from hu)) (SlT.of (show SlR w _ .i64 st v from hv)) hr).mono ?_
        rintro e w' ⟨rfl, hk⟩
        exact ⟨_, rfl, ⟨[.int .i64 r], fun _ => False, ⟨_, rfl, rfl⟩, fun i j u u' g hu => by simp [rowsV] at hu, fun k h => h, (fun h => Bool.noConfusion (show (false : Bool) = true from h)), [.int .i64 r], rfl, rfl⟩, hk⟩
end FN

set_option linter.unusedVariables false
namespace FN
open Go Go.Proofs
/-! loop.example/firingnets/spec.l3Same -/
@[reducible] def s_l3Same_sig : Sig := { ps := [none, none], pc := [.view .i64, .view .i64], rs := [none], rc := [.bool] }
noncomputable def s_l3Same_E : Env' := { fn := fun f => none, ck := ckT, cuts := [(2, [0, 1, 5])], mine := fun i => false }
noncomputable def s_l3Same_f (x : Ts s_l3Same_sig.pc) : Option (Ts s_l3Same_sig.rc) := runFn Tryz.prog (s_l3Same_E) Tryz.f126 s_l3Same_sig x
noncomputable def s_l3Same_l0 (y0 : List (Int)) (y1 : List (Int)) (y2 : Int) : Option ((Bool)) := from_ Tryz.prog (s_l3Same_E) Tryz.f126 s_l3Same_sig [1, 0, 1, 0] ⟨mkT 21 [(0, .row false .i64 y0), (1, .row false .i64 y1), (5, .int .i64 y2)], []⟩
theorem s_l3Same_f_eq (x0 : (List (Int))) (x1 : (List (Int))) : s_l3Same_f (x0, x1) = (s_l3Same_l0 x0 x1 0) := by
  kernel_rfl
theorem s_l3Same_l0_eq (y0 : List (Int)) (y1 : List (Int)) (y2 : Int) : s_l3Same_l0 y0 y1 y2 = (cond ((decide (y2 < (List.length y0 : Int)))) (if (0 : Int) ≤ y2 ∧ y2 < (List.length y0 : Int) then (if (0 : Int) ≤ y2 ∧ y2 < (List.length y1 : Int) then (cond (((List.getD y0 (y2 : Int).toNat 0) != (List.getD y1 (y2 : Int).toNat 0))) (some false) (s_l3Same_l0 y0 y1 (IntKind.i64.wrap (y2 + 1)))) else none) else none) (some true)) := by
  refine (loopK_eq Tryz.prog (s_l3Same_E) (sub (Tryz.f126.body.getD .skip) [1, 0, 1, 0, 0]) _ _).trans ?_
  kernel_rfl
theorem s_l3Same_ent : Entb Tryz.prog 126 := ⟨Tryz.f126, by kernel_rfl, by kernel_rfl, by kernel_rfl⟩
theorem s_l3Same_ok : CtrOk Tryz.prog 126 ⟨s_l3Same_sig, s_l3Same_f⟩ :=
  ctr_of (fn := Tryz.f126) (by kernel_rfl) (by kernel_rfl) (fun x : Ts s_l3Same_sig.pc => s_l3Same_E) (fun x => ⟨fn_none, clo_none, wr_none⟩) (fun h => by cases h) follows_ (fun _ _ => trivial)
end FN

set_option linter.unusedVariables false
namespace FN
open Go Go.Proofs
/-! loop.example/firingnets/spec.LoopOf -/
@[reducible] def s_LoopOf_sig : Sig := { ps := [none, none, none], pc := [.view .i64, .int .i64, .view .i64], rs := [none, none], rc := [.int .i64, .int .i64] }
noncomputable def s_LoopOf_E : Env' := { fn := fun f => if f = 100 then some ⟨s_l3Ok_sig, s_l3Ok_f⟩ else if f = 125 then some ⟨s_l3Step_sig, s_l3Step_f⟩ else if f = 126 then some ⟨s_l3Same_sig, s_l3Same_f⟩ else none, ck := ckT, cuts := [(5, [0, 1, 2, 8, 9]), (8, [0, 1, 2, 9]), (10, [0, 1, 8, 9, 10]), (14, [0, 1, 8, 10]), (16, [0, 1, 8, 9, 10, 11])], mine := fun i => false }
noncomputable def s_LoopOf_f (x : Ts s_LoopOf_sig.pc) : Option (Ts s_LoopOf_sig.rc) := runFn Tryz.prog (s_LoopOf_E) Tryz.f91 s_LoopOf_sig x
noncomputable def s_LoopOf_l0 (y0 : List (Int)) (y1 : Int) (y2 : List (Int)) (y3 : List (Int)) (y4 : List (Int)) : Option ((Int) × (Int)) := from_ Tryz.prog (s_LoopOf_E) Tryz.f91 s_LoopOf_sig [1, 1, 1, 1, 0, 0] ⟨mkT 73 [(0, .row false .i64 y0), (1, .int .i64 y1), (2, .row false .i64 y2), (8, .row true .i64 y3), (9, .row true .i64 y4)], []⟩
noncomputable def s_LoopOf_j1 (y0 : List (Int)) (y1 : Int) (y2 : List (Int)) (y3 : List (Int)) : Option ((Int) × (Int)) := from_ Tryz.prog (s_LoopOf_E) Tryz.f91 s_LoopOf_sig [1, 1, 1, 1, 1] ⟨mkT 73 [(0, .row false .i64 y0), (1, .int .i64 y1), (2, .row false .i64 y2), (9, .row true .i64 y3)], []⟩
noncomputable def s_LoopOf_l2 (y0 : List (Int)) (y1 : Int) (y2 : List (Int)) (y3 : Int) (y4 : List (Int)) : Option ((Int) × (Int)) := from_ Tryz.prog (s_LoopOf_E) Tryz.f91 s_LoopOf_sig [1, 1, 1, 1, 1, 1, 1, 0, 0] ⟨mkT 73 [(0, .row false .i64 y0), (1, .int .i64 y1), (8, .own 0), (9, .row true .i64 y2), (10, .int .i64 y3)], [some (.arr 3 true .i64 y4)]⟩
noncomputable def s_LoopOf_l3 (y0 : List (Int)) (y1 : Int) (y2 : List (Int)) (y3 : List (Int)) (y4 : Int) : Option ((Int) × (Int)) := from_ Tryz.prog (s_LoopOf_E) Tryz.f91 s_LoopOf_sig [1, 1, 1, 1, 1, 1, 1, 0, 0] ⟨mkT 73 [(0, .row false .i64 y0), (1, .int .i64 y1), (8, .row true .i64 y2), (9, .row true .i64 y3), (10, .int .i64 y4)], []⟩
noncomputable def s_LoopOf_j4 (y0 : List (Int)) (y1 : Int) (y2 : Int) (y3 : List (Int)) : Option ((Int) × (Int)) := from_ Tryz.prog (s_LoopOf_E) Tryz.f91 s_LoopOf_sig [1, 1, 1, 1, 1, 1, 1, 1] ⟨mkT 73 [(0, .row false .i64 y0), (1, .int .i64 y1), (8, .own 0), (10, .int .i64 y2)], [some (.arr 3 true .i64 y3)]⟩
noncomputable def s_LoopOf_j5 (y0 : List (Int)) (y1 : Int) (y2 : List (Int)) (y3 : Int) : Option ((Int) × (Int)) := from_ Tryz.prog (s_LoopOf_E) Tryz.f91 s_LoopOf_sig [1, 1, 1, 1, 1, 1, 1, 1] ⟨mkT 73 [(0, .row false .i64 y0), (1, .int .i64 y1), (8, .row true .i64 y2), (10, .int .i64 y3)], []⟩
noncomputable def s_LoopOf_l6 (y0 : List (Int)) (y1 : Int) (y2 : List (Int)) (y3 : Int) (y4 : Int) (y5 : List (Int)) : Option ((Int) × (Int)) := from_ Tryz.prog (s_LoopOf_E) Tryz.f91 s_LoopOf_sig [1, 1, 1, 1, 1, 1, 1, 1, 1, 1, 0, 0] ⟨mkT 73 [(0, .row false .i64 y0), (1, .int .i64 y1), (8, .own 0), (9, .row true .i64 y2), (10, .int .i64 y3), (11, .int .i64 y4)], [some (.arr 3 true .i64 y5)]⟩
noncomputable def s_LoopOf_l7 (y0 : List (Int)) (y1 : Int) (y2 : List (Int)) (y3 : List (Int)) (y4 : Int) (y5 : Int) : Option ((Int) × (Int)) := from_ Tryz.prog (s_LoopOf_E) Tryz.f91 s_LoopOf_sig [1, 1, 1, 1, 1, 1, 1, 1, 1, 1, 0, 0] ⟨mkT 73 [(0, .row false .i64 y0), (1, .int .i64 y1), (8, .row true .i64 y2), (9, .row true .i64 y3), (10, .int .i64 y4), (11, .int .i64 y5)], []⟩
theorem s_LoopOf_f_eq (x0 : (List (Int))) (x1 : (Int)) (x2 : (List (Int))) : s_LoopOf_f (x0, x1, x2) = (Option.bind (s_l3Ok_f (x0, x1, x2)) fun r1 => (cond ((!r1)) (some ((-1), (-1))) (Option.bind (s_l3Step_f (x0, x1, x2)) fun r2 => (Option.bind (s_l3Step_f (x0, x1, r2)) fun r3 => (s_LoopOf_l0 x0 x1 x2 r2 r3))))) := by
  kernel_rfl
theorem s_LoopOf_l0_eq (y0 : List (Int)) (y1 : Int) (y2 : List (Int)) (y3 : List (Int)) (y4 : List (Int)) : s_LoopOf_l0 y0 y1 y2 y3 y4 = (Option.bind (s_l3Same_f (y3, y4)) fun r1 => (cond ((!r1)) (Option.bind (s_l3Step_f (y0, y1, y3)) fun r2 => (Option.bind (s_l3Step_f (y0, y1, y4)) fun r3 => (Option.bind (s_l3Step_f (y0, y1, r3)) fun r4 => (s_LoopOf_l0 y0 y1 y2 r2 r4)))) (s_LoopOf_j1 y0 y1 y2 y4))) := by
  refine (loopK_eq Tryz.prog (s_LoopOf_E) (sub (Tryz.f91.body.getD .skip) [1, 1, 1, 1, 0, 0, 0]) _ _).trans ?_
  kernel_rfl
theorem s_LoopOf_j1_eq (y0 : List (Int)) (y1 : Int) (y2 : List (Int)) (y3 : List (Int)) : s_LoopOf_j1 y0 y1 y2 y3 = (if (List.length ([] : List (Int)) + List.length y2) * 8 ≤ 140737488355328 then (s_LoopOf_l2 y0 y1 y3 0 (([] : List (Int)) ++ y2)) else none) := by
  kernel_rfl
theorem s_LoopOf_l2_eq (y0 : List (Int)) (y1 : Int) (y2 : List (Int)) (y3 : Int) (y4 : List (Int)) : s_LoopOf_l2 y0 y1 y2 y3 y4 = (Option.bind (s_l3Same_f (y4, y2)) fun r1 => (cond ((!r1)) (Option.bind (s_l3Step_f (y0, y1, y4)) fun r2 => (Option.bind (s_l3Step_f (y0, y1, y2)) fun r3 => (s_LoopOf_l3 y0 y1 r2 r3 (IntKind.i64.wrap (y3 + 1))))) (s_LoopOf_j4 y0 y1 y3 y4))) := by
  refine (loopK_eq Tryz.prog (s_LoopOf_E) (sub (Tryz.f91.body.getD .skip) [1, 1, 1, 1, 1, 1, 1, 0, 0, 0]) _ _).trans ?_
  kernel_rfl
theorem s_LoopOf_l3_eq (y0 : List (Int)) (y1 : Int) (y2 : List (Int)) (y3 : List (Int)) (y4 : Int) : s_LoopOf_l3 y0 y1 y2 y3 y4 = (Option.bind (s_l3Same_f (y2, y3)) fun r1 => (cond ((!r1)) (Option.bind (s_l3Step_f (y0, y1, y2)) fun r2 => (Option.bind (s_l3Step_f (y0, y1, y3)) fun r3 => (s_LoopOf_l3 y0 y1 r2 r3 (IntKind.i64.wrap (y4 + 1))))) (s_LoopOf_j5 y0 y1 y2 y4))) := by
  refine (loopK_eq Tryz.prog (s_LoopOf_E) (sub (Tryz.f91.body.getD .skip) [1, 1, 1, 1, 1, 1, 1, 0, 0, 0]) _ _).trans ?_
  kernel_rfl
theorem s_LoopOf_j4_eq (y0 : List (Int)) (y1 : Int) (y2 : Int) (y3 : List (Int)) : s_LoopOf_j4 y0 y1 y2 y3 = (Option.bind (s_l3Step_f (y0, y1, y3)) fun r1 => (s_LoopOf_l6 y0 y1 r1 y2 1 y3)) := by
  kernel_rfl
theorem s_LoopOf_j5_eq (y0 : List (Int)) (y1 : Int) (y2 : List (Int)) (y3 : Int) : s_LoopOf_j5 y0 y1 y2 y3 = (Option.bind (s_l3Step_f (y0, y1, y2)) fun r1 => (s_LoopOf_l7 y0 y1 y2 r1 y3 1)) := by
  kernel_rfl
theorem s_LoopOf_l6_eq (y0 : List (Int)) (y1 : Int) (y2 : List (Int)) (y3 : Int) (y4 : Int) (y5 : List (Int)) : s_LoopOf_l6 y0 y1 y2 y3 y4 y5 = (Option.bind (s_l3Same_f (y5, y2)) fun r1 => (cond ((!r1)) (Option.bind (s_l3Step_f (y0, y1, y2)) fun r2 => (s_LoopOf_l6 y0 y1 r2 y3 (IntKind.i64.wrap (y4 + 1)) y5)) (some (y3, y4)))) := by
  refine (loopK_eq Tryz.prog (s_LoopOf_E) (sub (Tryz.f91.body.getD .skip) [1, 1, 1, 1, 1, 1, 1, 1, 1, 1, 0, 0, 0]) _ _).trans ?_
  kernel_rfl
theorem s_LoopOf_l7_eq (y0 : List (Int)) (y1 : Int) (y2 : List (Int)) (y3 : List (Int)) (y4 : Int) (y5 : Int) : s_LoopOf_l7 y0 y1 y2 y3 y4 y5 = (Option.bind (s_l3Same_f (y2, y3)) fun r1 => (cond ((!r1)) (Option.bind (s_l3Step_f (y0, y1, y3)) fun r2 => (s_LoopOf_l7 y0 y1 y2 r2 y4 (IntKind.i64.wrap (y5 + 1)))) (some (y4, y5)))) := by
  refine (loopK_eq Tryz.prog (s_LoopOf_E) (sub (Tryz.f91.body.getD .skip) [1, 1, 1, 1, 1, 1, 1, 1, 1, 1, 0, 0, 0]) _ _).trans ?_
  kernel_rfl
theorem s_LoopOf_ent : Entb Tryz.prog 91 := ⟨Tryz.f91, by kernel_rfl, by kernel_rfl, by kernel_rfl⟩
theorem s_LoopOf_ok : CtrOk Tryz.prog 91 ⟨s_LoopOf_sig, s_LoopOf_f⟩ :=
  ctr_of (fn := Tryz.f91) (by kernel_rfl) (by kernel_rfl) (fun x : Ts s_LoopOf_sig.pc => s_LoopOf_E) (fun x => ⟨(fn_cons ⟨s_l3Ok_ok, s_l3Ok_ent⟩ (fn_cons ⟨s_l3Step_ok, s_l3Step_ent⟩ (fn_cons ⟨s_l3Same_ok, s_l3Same_ent⟩ fn_none))), clo_none, wr_none⟩) (fun h => by cases h) follows_ (fun _ _ => trivial)
end FN

set_option linter.unusedVariables false
namespace FN
open Go Go.Proofs
/-! loop.example/firingnets/spec.EndsAt -/
@[reducible] def s_EndsAt_sig : Sig := { ps := [none, none, none], pc := [.view .i64, .int .i64, .view .i64], rs := [none], rc := [.int .i64] }
noncomputable def s_EndsAt_E : Env' := { fn := fun f => if f = 91 then some ⟨s_LoopOf_sig, s_LoopOf_f⟩ else if f = 125 then some ⟨s_l3Step_sig, s_l3Step_f⟩ else none, ck := ckT, cuts := [(6, [0, 1, 7, 9, 10]), (9, [7, 9]), (10, [7, 9, 11])], mine := fun i => false }
noncomputable def s_EndsAt_f (x : Ts s_EndsAt_sig.pc) : Option (Ts s_EndsAt_sig.rc) := runFn Tryz.prog (s_EndsAt_E) Tryz.f90 s_EndsAt_sig x
noncomputable def s_EndsAt_l0 (y0 : List (Int)) (y1 : Int) (y2 : Int) (y3 : Int) (y4 : List (Int)) : Option ((Int)) := from_ Tryz.prog (s_EndsAt_E) Tryz.f90 s_EndsAt_sig [1, 1, 1, 1, 0, 1, 0] ⟨mkT 49 [(0, .row false .i64 y0), (1, .int .i64 y1), (7, .int .i64 y2), (9, .own 0), (10, .int .i64 y3)], [some (.arr 3 true .i64 y4)]⟩
noncomputable def s_EndsAt_l1 (y0 : List (Int)) (y1 : Int) (y2 : Int) (y3 : List (Int)) (y4 : Int) : Option ((Int)) := from_ Tryz.prog (s_EndsAt_E) Tryz.f90 s_EndsAt_sig [1, 1, 1, 1, 0, 1, 0] ⟨mkT 49 [(0, .row false .i64 y0), (1, .int .i64 y1), (7, .int .i64 y2), (9, .row true .i64 y3), (10, .int .i64 y4)], []⟩
noncomputable def s_EndsAt_j2 (y0 : Int) (y1 : List (Int)) : Option ((Int)) := from_ Tryz.prog (s_EndsAt_E) Tryz.f90 s_EndsAt_sig [1, 1, 1, 1, 1] ⟨mkT 49 [(7, .int .i64 y0), (9, .own 0)], [some (.arr 3 true .i64 y1)]⟩
noncomputable def s_EndsAt_j3 (y0 : Int) (y1 : List (Int)) : Option ((Int)) := from_ Tryz.prog (s_EndsAt_E) Tryz.f90 s_EndsAt_sig [1, 1, 1, 1, 1] ⟨mkT 49 [(7, .int .i64 y0), (9, .row true .i64 y1)], []⟩
noncomputable def s_EndsAt_l4 (y0 : Int) (y1 : Int) (y2 : List (Int)) : Option ((Int)) := from_ Tryz.prog (s_EndsAt_E) Tryz.f90 s_EndsAt_sig [1, 1, 1, 1, 1, 0, 1, 0] ⟨mkT 49 [(7, .int .i64 y0), (9, .own 0), (11, .int .i64 y1)], [some (.arr 3 true .i64 y2)]⟩
noncomputable def s_EndsAt_l5 (y0 : Int) (y1 : List (Int)) (y2 : Int) : Option ((Int)) := from_ Tryz.prog (s_EndsAt_E) Tryz.f90 s_EndsAt_sig [1, 1, 1, 1, 1, 0, 1, 0] ⟨mkT 49 [(7, .int .i64 y0), (9, .row true .i64 y1), (11, .int .i64 y2)], []⟩
theorem s_EndsAt_f_eq (x0 : (List (Int))) (x1 : (Int)) (x2 : (List (Int))) : s_EndsAt_f (x0, x1, x2) = (Option.bind (s_LoopOf_f (x0, x1, x2)) fun r1 => (cond ((decide (r1.1 < 0))) (some (-1)) (cond ((decide (1 < r1.2))) (some (-1)) (if (List.length ([] : List (Int)) + List.length x2) * 8 ≤ 140737488355328 then (s_EndsAt_l0 x0 x1 r1.1 0 (([] : List (Int)) ++ x2)) else none)))) := by
  kernel_rfl
theorem s_EndsAt_l0_eq (y0 : List (Int)) (y1 : Int) (y2 : Int) (y3 : Int) (y4 : List (Int)) : s_EndsAt_l0 y0 y1 y2 y3 y4 = (cond ((decide (y3 < y2))) (Option.bind (s_l3Step_f (y0, y1, y4)) fun r1 => (s_EndsAt_l1 y0 y1 y2 r1 (IntKind.i64.wrap (y3 + 1)))) (s_EndsAt_j2 y2 y4)) := by
  refine (loopK_eq Tryz.prog (s_EndsAt_E) (sub (Tryz.f90.body.getD .skip) [1, 1, 1, 1, 0, 1, 0, 0]) _ _).trans ?_
  kernel_rfl
theorem s_EndsAt_l1_eq (y0 : List (Int)) (y1 : Int) (y2 : Int) (y3 : List (Int)) (y4 : Int) : s_EndsAt_l1 y0 y1 y2 y3 y4 = (cond ((decide (y4 < y2))) (Option.bind (s_l3Step_f (y0, y1, y3)) fun r1 => (s_EndsAt_l1 y0 y1 y2 r1 (IntKind.i64.wrap (y4 + 1)))) (s_EndsAt_j3 y2 y3)) := by
  refine (loopK_eq Tryz.prog (s_EndsAt_E) (sub (Tryz.f90.body.getD .skip) [1, 1, 1, 1, 0, 1, 0, 0]) _ _).trans ?_
  kernel_rfl
theorem s_EndsAt_j2_eq (y0 : Int) (y1 : List (Int)) : s_EndsAt_j2 y0 y1 = (s_EndsAt_l4 y0 0 y1) := by
  kernel_rfl
theorem s_EndsAt_j3_eq (y0 : Int) (y1 : List (Int)) : s_EndsAt_j3 y0 y1 = (s_EndsAt_l5 y0 y1 0) := by
  kernel_rfl
theorem s_EndsAt_l4_eq (y0 : Int) (y1 : Int) (y2 : List (Int)) : s_EndsAt_l4 y0 y1 y2 = (cond ((decide (y1 < (List.length y2 : Int)))) (if (0 : Int) ≤ y1 ∧ y1 < (List.length y2 : Int) then (cond (((List.getD y2 (y1 : Int).toNat 0) != 0)) (some (-1)) (s_EndsAt_l4 y0 (IntKind.i64.wrap (y1 + 1)) y2)) else none) (some y0)) := by
  refine (loopK_eq Tryz.prog (s_EndsAt_E) (sub (Tryz.f90.body.getD .skip) [1, 1, 1, 1, 1, 0, 1, 0, 0]) _ _).trans ?_
  kernel_rfl
theorem s_EndsAt_l5_eq (y0 : Int) (y1 : List (Int)) (y2 : Int) : s_EndsAt_l5 y0 y1 y2 = (cond ((decide (y2 < (List.length y1 : Int)))) (if (0 : Int) ≤ y2 ∧ y2 < (List.length y1 : Int) then (cond (((List.getD y1 (y2 : Int).toNat 0) != 0)) (some (-1)) (s_EndsAt_l5 y0 y1 (IntKind.i64.wrap (y2 + 1)))) else none) (some y0)) := by
  refine (loopK_eq Tryz.prog (s_EndsAt_E) (sub (Tryz.f90.body.getD .skip) [1, 1, 1, 1, 1, 0, 1, 0, 0]) _ _).trans ?_
  kernel_rfl
theorem s_EndsAt_ent : Entb Tryz.prog 90 := ⟨Tryz.f90, by kernel_rfl, by kernel_rfl, by kernel_rfl⟩
theorem s_EndsAt_ok : CtrOk Tryz.prog 90 ⟨s_EndsAt_sig, s_EndsAt_f⟩ :=
  ctr_of (fn := Tryz.f90) (by kernel_rfl) (by kernel_rfl) (fun x : Ts s_EndsAt_sig.pc => s_EndsAt_E) (fun x => ⟨(fn_cons ⟨s_LoopOf_ok, s_LoopOf_ent⟩ (fn_cons ⟨s_l3Step_ok, s_l3Step_ent⟩ fn_none)), clo_none, wr_none⟩) (fun h => by cases h) follows_ (fun _ _ => trivial)
end FN

set_option linter.unusedVariables false
namespace FN
open Go Go.Proofs
/-! loop.example/firingnets/impl.ScriptOk -/
@[reducible] def i_ScriptOk_sig : Sig := { ps := [none, none], pc := [.int .i64, .any], rs := [none], rc := [.bool] }
noncomputable def i_ScriptOk_E : Env' := { fn := fun f => none, ck := ckT, cuts := [(2, [0, 1, 7, 8, 9]), (9, [0, 1])], mine := fun i => false }
noncomputable def i_ScriptOk_f (x : Ts i_ScriptOk_sig.pc) : Option (Ts i_ScriptOk_sig.rc) := runFn Tryz.prog (i_ScriptOk_E) Tryz.f147 i_ScriptOk_sig x
noncomputable def i_ScriptOk_l0 (y0 : Int) (y1 : Int) (y2 : Int) : Option ((Bool)) := from_ Tryz.prog (i_ScriptOk_E) Tryz.f147 i_ScriptOk_sig [1, 0, 1, 0] ⟨mkT 80 [(0, .int .i64 y0), (1, .nilS), (7, .nilS), (8, .int .i64 y1), (9, .int .i64 y2)], []⟩
noncomputable def i_ScriptOk_j1 (y0 : Int) : Option ((Bool)) := from_ Tryz.prog (i_ScriptOk_E) Tryz.f147 i_ScriptOk_sig [1, 1] ⟨mkT 80 [(0, .int .i64 y0), (1, .nilS)], []⟩
theorem i_ScriptOk_f_eq (x0 : (Int)) (x1 : (Unit)) : i_ScriptOk_f (x0, x1) = (i_ScriptOk_l0 x0 0 0) := by
  kernel_rfl
theorem i_ScriptOk_l0_eq (y0 : Int) (y1 : Int) (y2 : Int) : i_ScriptOk_l0 y0 y1 y2 = (cond ((decide (y2 < y1))) none (i_ScriptOk_j1 y0)) := by
  refine (loopK_eq Tryz.prog (i_ScriptOk_E) (sub (Tryz.f147.body.getD .skip) [1, 0, 1, 0, 0]) _ _).trans ?_
  kernel_rfl
theorem i_ScriptOk_j1_eq (y0 : Int) : i_ScriptOk_j1 y0 = (cond ((decide (1 ≤ y0))) (cond ((decide (y0 ≤ 6))) (some true) (some false)) (some false)) := by
  kernel_rfl
theorem i_ScriptOk_ent : Entb Tryz.prog 147 := ⟨Tryz.f147, by kernel_rfl, by kernel_rfl, by kernel_rfl⟩
theorem i_ScriptOk_ok : CtrOk Tryz.prog 147 ⟨i_ScriptOk_sig, i_ScriptOk_f⟩ :=
  ctr_of (fn := Tryz.f147) (by kernel_rfl) (by kernel_rfl) (fun x : Ts i_ScriptOk_sig.pc => i_ScriptOk_E) (fun x => ⟨fn_none, clo_none, wr_none⟩) (fun h => by cases h) follows_ (fun _ _ => trivial)
end FN

set_option linter.unusedVariables false
namespace FN
open Go Go.Proofs
/-! slices.Clone[[]int,int] -/
@[reducible] def x_slices_Clone_int_int_sig : Sig := { ps := [none], pc := [.view .i64], rs := [none], rc := [.row 3 .i64] }
noncomputable def x_slices_Clone_int_int_E : Env' := { fn := fun f => none, ck := ckT, cuts := [], mine := fun i => false }
noncomputable def x_slices_Clone_int_int_f (x : Ts x_slices_Clone_int_int_sig.pc) : Option (Ts x_slices_Clone_int_int_sig.rc) := runFn Tryz.prog (x_slices_Clone_int_int_E) Tryz.f114 x_slices_Clone_int_int_sig x
theorem x_slices_Clone_int_int_f_eq (x0 : (List (Int))) : x_slices_Clone_int_int_f x0 = (if true = true ∧ List.length x0 ≠ 0 then (if (List.length ([] : List (Int)) + List.length x0) * 8 ≤ 140737488355328 then (some (([] : List (Int)) ++ x0)) else none) else none) := by
  kernel_rfl
theorem x_slices_Clone_int_int_ent : Entb Tryz.prog 114 := ⟨Tryz.f114, by kernel_rfl, by kernel_rfl, by kernel_rfl⟩
theorem x_slices_Clone_int_int_ok : CtrOk Tryz.prog 114 ⟨x_slices_Clone_int_int_sig, x_slices_Clone_int_int_f⟩ :=
  ctr_of (fn := Tryz.f114) (by kernel_rfl) (by kernel_rfl) (fun x : Ts x_slices_Clone_int_int_sig.pc => x_slices_Clone_int_int_E) (fun x => ⟨fn_none, clo_none, wr_none⟩) (fun h => by cases h) follows_ (fun _ _ => trivial)
end FN

set_option linter.unusedVariables false
namespace FN
open Go Go.Proofs
/-! loop.example/firingnets/impl.scripted -/
@[reducible] def i_scripted_sig : Sig := { ps := [none, none, none, none, none], pc := [.view .i64, .int .i64, .view .i64, .any, .int .i64], rs := [none, none], rc := [.row 3 .i64, .row 3 .i64] }
noncomputable def i_scripted_E : Env' := { fn := fun f => if f = 69 then some ⟨i_needStep_sig, i_needStep_f⟩ else if f = 114 then some ⟨x_slices_Clone_int_int_sig, x_slices_Clone_int_int_f⟩ else none, ck := ckT, cuts := [(3, [0, 1, 3, 12, 13, 25, 26]), (6, [0, 1, 3, 12, 13, 14, 25, 26, 29, 30, 31]), (12, [0, 1, 3, 12, 13, 25, 26]), (14, [0, 1, 3, 12, 13, 17, 25, 26, 63, 64, 65])], mine := fun i => i == 21 || i == 62 }
noncomputable def i_scripted_f (x : Ts i_scripted_sig.pc) : Option (Ts i_scripted_sig.rc) := runFn Tryz.prog (i_scripted_E) Tryz.f148 i_scripted_sig x
noncomputable def i_scripted_l0 (y0 : List (Int)) (y1 : Int) (y2 : Int) (y3 : Int) (y4 : List (Int)) (y5 : List (Int)) : Option ((List (Int)) × (List (Int))) := from_ Tryz.prog (i_scripted_E) Tryz.f148 i_scripted_sig [1, 1, 0, 1, 0] ⟨mkT 90 [(0, .row false .i64 y0), (1, .int .i64 y1), (3, .nilS), (12, .own 0), (13, .own 1), (25, .int .i64 y2), (26, .int .i64 y3)], [some (.arr 3 true .i64 y4), some (.arr 3 true .i64 y5)]⟩
noncomputable def i_scripted_l1 (y0 : List (Int)) (y1 : Int) (y2 : Int) (y3 : Int) (y4 : Int) (y5 : Int) (y6 : Int) (y7 : List (Int)) (y8 : List (Int)) : Option ((List (Int)) × (List (Int))) := from_ Tryz.prog (i_scripted_E) Tryz.f148 i_scripted_sig [1, 1, 0, 1, 0, 0, 1, 1, 0, 0, 1, 0, 1, 0] ⟨mkT 90 [(0, .row false .i64 y0), (1, .int .i64 y1), (3, .nilS), (12, .own 0), (13, .own 1), (14, .int .i64 y2), (25, .int .i64 y3), (26, .int .i64 y4), (29, .nilS), (30, .int .i64 y5), (31, .int .i64 y6)], [some (.arr 3 true .i64 y7), some (.arr 3 true .i64 y8)]⟩
noncomputable def i_scripted_j2 (y0 : List (Int)) (y1 : Int) (y2 : Int) (y3 : Int) (y4 : List (Int)) (y5 : List (Int)) : Option ((List (Int)) × (List (Int))) := from_ Tryz.prog (i_scripted_E) Tryz.f148 i_scripted_sig [1, 1, 0, 1, 0, 0, 1, 1, 0, 0, 1, 1] ⟨mkT 90 [(0, .row false .i64 y0), (1, .int .i64 y1), (3, .nilS), (12, .own 0), (13, .own 1), (25, .int .i64 y2), (26, .int .i64 y3)], [some (.arr 3 true .i64 y4), some (.arr 3 true .i64 y5)]⟩
noncomputable def i_scripted_l3 (y0 : List (Int)) (y1 : Int) (y2 : Int) (y3 : Int) (y4 : Int) (y5 : Int) (y6 : List (Int)) (y7 : List (Int)) (y8 : List (Int)) : Option ((List (Int)) × (List (Int))) := from_ Tryz.prog (i_scripted_E) Tryz.f148 i_scripted_sig [1, 1, 0, 1, 0, 0, 1, 1, 0, 0, 1, 1, 1, 0, 1, 0] ⟨mkT 90 [(0, .row false .i64 y0), (1, .int .i64 y1), (3, .nilS), (12, .own 0), (13, .own 1), (17, .own 2), (25, .int .i64 y2), (26, .int .i64 y3), (63, .own 2), (64, .int .i64 y4), (65, .int .i64 y5)], [some (.arr 3 true .i64 y6), some (.arr 3 true .i64 y7), some (.arr 3 true .i64 y8)]⟩
theorem i_scripted_f_eq (x0 : (List (Int))) (x1 : (Int)) (x2 : (List (Int))) (x3 : (Unit)) (x4 : (Int)) : i_scripted_f (x0, x1, x2, x3, x4) = (Option.bind (x_slices_Clone_int_int_f x2) fun r1 => (if (0 : Int) ≤ (List.length x0 : Int) ∧ (List.length x0 : Int) * 8 ≤ 140737488355328 ∧ (List.length x0 : Int) ≤ 140737488355328 then (i_scripted_l0 x0 x1 x4 0 r1 (List.replicate ((List.length x0 : Int) : Int).toNat 0 : List (Int))) else none)) := by
  refine Eq.trans (b := (same [(Option.bind (x_slices_Clone_int_int_f x2) fun r1 => (if (0 : Int) ≤ (List.length x0 : Int) ∧ (List.length x0 : Int) * 8 ≤ 140737488355328 ∧ (List.length x0 : Int) ≤ 140737488355328 then (i_scripted_l0 x0 x1 x4 0 r1 (List.replicate ((List.length x0 : Int) : Int).toNat 0 : List (Int))) else none)), (same [(Option.bind (x_slices_Clone_int_int_f x2) fun r1 => (if (0 : Int) ≤ (List.length x0 : Int) ∧ (List.length x0 : Int) * 8 ≤ 140737488355328 ∧ (List.length x0 : Int) ≤ 140737488355328 then (i_scripted_l0 x0 x1 x4 0 r1 (List.replicate ((List.length x0 : Int) : Int).toNat 0 : List (Int))) else none)), (if (0 : Int) ≤ (List.length x0 : Int) ∧ (List.length x0 : Int) * 8 ≤ 140737488355328 ∧ (List.length x0 : Int) ≤ 140737488355328 then (Option.bind (x_slices_Clone_int_int_f x2) fun r1 => (i_scripted_l0 x0 x1 x4 0 r1 (List.replicate ((List.length x0 : Int) : Int).toNat 0 : List (Int)))) else none)])])) (by kernel_rfl) ?_
  simp only [same2, same3, same4, same5, same6, obind_ite]
theorem i_scripted_l0_eq (y0 : List (Int)) (y1 : Int) (y2 : Int) (y3 : Int) (y4 : List (Int)) (y5 : List (Int)) : i_scripted_l0 y0 y1 y2 y3 y4 y5 = (cond ((decide (y3 < y2))) (i_scripted_l1 y0 y1 y3 y2 y3 0 0 y4 y5) (some (y4, y5))) := by
  refine (loopK_eq Tryz.prog (i_scripted_E) (sub (Tryz.f148.body.getD .skip) [1, 1, 0, 1, 0, 0]) _ _).trans ?_
  kernel_rfl
theorem i_scripted_l1_eq (y0 : List (Int)) (y1 : Int) (y2 : Int) (y3 : Int) (y4 : Int) (y5 : Int) (y6 : Int) (y7 : List (Int)) (y8 : List (Int)) : i_scripted_l1 y0 y1 y2 y3 y4 y5 y6 y7 y8 = (cond ((decide (y6 < y5))) none (i_scripted_j2 y0 y1 y3 y4 y7 y8)) := by
  refine (loopK_eq Tryz.prog (i_scripted_E) (sub (Tryz.f148.body.getD .skip) [1, 1, 0, 1, 0, 0, 1, 1, 0, 0, 1, 0, 1, 0, 0]) _ _).trans ?_
  kernel_rfl
theorem i_scripted_j2_eq (y0 : List (Int)) (y1 : Int) (y2 : Int) (y3 : Int) (y4 : List (Int)) (y5 : List (Int)) : i_scripted_j2 y0 y1 y2 y3 y4 y5 = (Option.bind (i_needStep_f (y0, y1, (), y4)) fun r1 => (i_scripted_l3 y0 y1 y2 y3 (List.length r1 : Int) 0 y4 y5 r1)) := by
  kernel_rfl
theorem i_scripted_l3_eq (y0 : List (Int)) (y1 : Int) (y2 : Int) (y3 : Int) (y4 : Int) (y5 : Int) (y6 : List (Int)) (y7 : List (Int)) (y8 : List (Int)) : i_scripted_l3 y0 y1 y2 y3 y4 y5 y6 y7 y8 = (cond ((decide (y5 < y4))) (if (0 : Int) ≤ y5 ∧ y5 < (List.length y8 : Int) then (cond (((List.getD y8 (y5 : Int).toNat 0) == 1)) (if (0 : Int) ≤ y5 ∧ y5 < (List.length y6 : Int) then (cond (((List.getD y6 (y5 : Int).toNat 0) != 1)) (if (0 : Int) ≤ y5 ∧ y5 < (List.length y7 : Int) then (if (0 : Int) ≤ y5 ∧ y5 < (List.length y7 : Int) then (i_scripted_l3 y0 y1 y2 y3 y4 (IntKind.i64.wrap (y5 + 1)) y6 (List.set y7 (y5 : Int).toNat (IntKind.i64.wrap ((List.getD y7 (y5 : Int).toNat 0) + 1))) y8) else none) else none) (i_scripted_l3 y0 y1 y2 y3 y4 (IntKind.i64.wrap (y5 + 1)) y6 y7 y8)) else none) (i_scripted_l3 y0 y1 y2 y3 y4 (IntKind.i64.wrap (y5 + 1)) y6 y7 y8)) else none) (i_scripted_l0 y0 y1 y2 (IntKind.i64.wrap (y3 + 1)) y8 y7)) := by
  refine (loopK_eq Tryz.prog (i_scripted_E) (sub (Tryz.f148.body.getD .skip) [1, 1, 0, 1, 0, 0, 1, 1, 0, 0, 1, 1, 1, 0, 1, 0, 0]) _ _).trans ?_
  kernel_rfl
theorem i_scripted_ent : Entb Tryz.prog 148 := ⟨Tryz.f148, by kernel_rfl, by kernel_rfl, by kernel_rfl⟩
theorem i_scripted_ok : CtrOk Tryz.prog 148 ⟨i_scripted_sig, i_scripted_f⟩ :=
  ctr_of (fn := Tryz.f148) (by kernel_rfl) (by kernel_rfl) (fun x : Ts i_scripted_sig.pc => i_scripted_E) (fun x => ⟨(fn_cons ⟨i_needStep_ok, i_needStep_ent⟩ (fn_cons ⟨x_slices_Clone_int_int_ok, x_slices_Clone_int_int_ent⟩ fn_none)), clo_none, wr_none⟩) (fun h => by cases h) follows_ (fun _ _ => trivial)
end FN

set_option linter.unusedVariables false
namespace FN
open Go Go.Proofs
/-! loop.example/firingnets/impl.ScriptFired -/
@[reducible] def i_ScriptFired_sig : Sig := { ps := [none, none, none, none, none], pc := [.view .i64, .int .i64, .view .i64, .any, .int .i64], rs := [none], rc := [.row 3 .i64] }
noncomputable def i_ScriptFired_E : Env' := { fn := fun f => if f = 101 then some ⟨i_asked_sig, i_asked_f⟩ else if f = 147 then some ⟨i_ScriptOk_sig, i_ScriptOk_f⟩ else if f = 148 then some ⟨i_scripted_sig, i_scripted_f⟩ else none, ck := ckT, cuts := [], mine := fun i => i == 16 || i == 22 || i == 39 }
noncomputable def i_ScriptFired_f (x : Ts i_ScriptFired_sig.pc) : Option (Ts i_ScriptFired_sig.rc) := runFn Tryz.prog (i_ScriptFired_E) Tryz.f122 i_ScriptFired_sig x
theorem i_ScriptFired_f_eq (x0 : (List (Int))) (x1 : (Int)) (x2 : (List (Int))) (x3 : (Unit)) (x4 : (Int)) : i_ScriptFired_f (x0, x1, x2, x3, x4) = (Option.bind (i_asked_f (x0, x1, x2)) fun r1 => (cond ((!r1)) (some []) (Option.bind (i_ScriptOk_f ((List.length x0 : Int), ())) fun r2 => (cond ((!r2)) (some []) (cond ((decide (x4 < 0))) (some []) (cond ((decide (60 < x4))) (some []) (Option.bind (i_scripted_f (x0, x1, x2, (), x4)) fun r3 => (some r3.2)))))))) := by
  kernel_rfl
theorem i_ScriptFired_ent : Entb Tryz.prog 122 := ⟨Tryz.f122, by kernel_rfl, by kernel_rfl, by kernel_rfl⟩
theorem i_ScriptFired_ok : CtrOk Tryz.prog 122 ⟨i_ScriptFired_sig, i_ScriptFired_f⟩ :=
  ctr_of (fn := Tryz.f122) (by kernel_rfl) (by kernel_rfl) (fun x : Ts i_ScriptFired_sig.pc => i_ScriptFired_E) (fun x => ⟨(fn_cons ⟨i_asked_ok, i_asked_ent⟩ (fn_cons ⟨i_ScriptOk_ok, i_ScriptOk_ent⟩ (fn_cons ⟨i_scripted_ok, i_scripted_ent⟩ fn_none))), clo_none, wr_none⟩) (fun h => by cases h) follows_ (fun _ _ => trivial)
end FN

set_option linter.unusedVariables false
namespace FN
open Go Go.Proofs
/-! loop.example/firingnets/impl.FiredRow -/
@[reducible] def i_FiredRow_sig : Sig := { ps := [none, none, none, none], pc := [.view .i64, .int .i64, .view .i64, .int .i64], rs := [none], rc := [.row 3 .i64] }
noncomputable def i_FiredRow_E : Env' := { fn := fun f => if f = 122 then some ⟨i_ScriptFired_sig, i_ScriptFired_f⟩ else none, ck := ckT, cuts := [], mine := fun i => i == 13 }
noncomputable def i_FiredRow_f (x : Ts i_FiredRow_sig.pc) : Option (Ts i_FiredRow_sig.rc) := runFn Tryz.prog (i_FiredRow_E) Tryz.f82 i_FiredRow_sig x
theorem i_FiredRow_f_eq (x0 : (List (Int))) (x1 : (Int)) (x2 : (List (Int))) (x3 : (Int)) : i_FiredRow_f (x0, x1, x2, x3) = (Option.bind (i_ScriptFired_f (x0, x1, x2, (), x3)) fun r1 => (some r1)) := by
  kernel_rfl
theorem i_FiredRow_ent : Entb Tryz.prog 82 := ⟨Tryz.f82, by kernel_rfl, by kernel_rfl, by kernel_rfl⟩
theorem i_FiredRow_ok : CtrOk Tryz.prog 82 ⟨i_FiredRow_sig, i_FiredRow_f⟩ :=
  ctr_of (fn := Tryz.f82) (by kernel_rfl) (by kernel_rfl) (fun x : Ts i_FiredRow_sig.pc => i_FiredRow_E) (fun x => ⟨(fn_cons ⟨i_ScriptFired_ok, i_ScriptFired_ent⟩ fn_none), clo_none, wr_none⟩) (fun h => by cases h) follows_ (fun _ _ => trivial)
end FN

set_option linter.unusedVariables false
namespace FN
open Go Go.Proofs
/-! loop.example/firingnets/spec.FiredRow -/
@[reducible] def s_FiredRow_sig : Sig := { ps := [none, none, none, none], pc := [.view .i64, .int .i64, .view .i64, .int .i64], rs := [none], rc := [.row 3 .i64] }
noncomputable def s_FiredRow_E : Env' := { fn := fun f => if f = 100 then some ⟨s_l3Ok_sig, s_l3Ok_f⟩ else if f = 111 then some ⟨s_l1In_sig, s_l1In_f⟩ else if f = 125 then some ⟨s_l3Step_sig, s_l3Step_f⟩ else none, ck := ckT, cuts := [(6, [0, 1, 3, 9, 10, 11]), (10, [0, 1, 3, 9, 10, 11, 12])], mine := fun i => false }
noncomputable def s_FiredRow_f (x : Ts s_FiredRow_sig.pc) : Option (Ts s_FiredRow_sig.rc) := runFn Tryz.prog (s_FiredRow_E) Tryz.f97 s_FiredRow_sig x
noncomputable def s_FiredRow_l0 (y0 : List (Int)) (y1 : Int) (y2 : Int) (y3 : Int) (y4 : List (Int)) (y5 : List (Int)) : Option ((List (Int))) := from_ Tryz.prog (s_FiredRow_E) Tryz.f97 s_FiredRow_sig [1, 1, 1, 1, 0, 1, 0] ⟨mkT 59 [(0, .row false .i64 y0), (1, .int .i64 y1), (3, .int .i64 y2), (9, .own 0), (10, .own 1), (11, .int .i64 y3)], [some (.arr 3 true .i64 y4), some (.arr 3 true .i64 y5)]⟩
noncomputable def s_FiredRow_l1 (y0 : List (Int)) (y1 : Int) (y2 : Int) (y3 : List (Int)) (y4 : Int) (y5 : Int) (y6 : List (Int)) : Option ((List (Int))) := from_ Tryz.prog (s_FiredRow_E) Tryz.f97 s_FiredRow_sig [1, 1, 1, 1, 0, 1, 0, 0, 1, 0, 0, 1, 1, 0] ⟨mkT 59 [(0, .row false .i64 y0), (1, .int .i64 y1), (3, .int .i64 y2), (9, .own 0), (10, .row true .i64 y3), (11, .int .i64 y4), (12, .int .i64 y5)], [some (.arr 3 true .i64 y6)]⟩
noncomputable def s_FiredRow_l2 (y0 : List (Int)) (y1 : Int) (y2 : Int) (y3 : List (Int)) (y4 : Int) (y5 : List (Int)) : Option ((List (Int))) := from_ Tryz.prog (s_FiredRow_E) Tryz.f97 s_FiredRow_sig [1, 1, 1, 1, 0, 1, 0] ⟨mkT 59 [(0, .row false .i64 y0), (1, .int .i64 y1), (3, .int .i64 y2), (9, .own 0), (10, .row true .i64 y3), (11, .int .i64 y4)], [some (.arr 3 true .i64 y5)]⟩
theorem s_FiredRow_f_eq (x0 : (List (Int))) (x1 : (Int)) (x2 : (List (Int))) (x3 : (Int)) : s_FiredRow_f (x0, x1, x2, x3) = (Option.bind (s_l3Ok_f (x0, x1, x2)) fun r1 => (cond ((!r1)) (some ([] : List (Int))) (Option.bind (s_l1In_f (x3, 0, 60)) fun r2 => (cond ((!r2)) (some ([] : List (Int))) (if (0 : Int) ≤ (List.length x0 : Int) ∧ (List.length x0 : Int) * 8 ≤ 140737488355328 ∧ (List.length x0 : Int) ≤ 140737488355328 then (if (List.length ([] : List (Int)) + List.length x2) * 8 ≤ 140737488355328 then (s_FiredRow_l0 x0 x1 x3 0 (List.replicate ((List.length x0 : Int) : Int).toNat 0 : List (Int)) (([] : List (Int)) ++ x2)) else none) else none))))) := by
  kernel_rfl
theorem s_FiredRow_l0_eq (y0 : List (Int)) (y1 : Int) (y2 : Int) (y3 : Int) (y4 : List (Int)) (y5 : List (Int)) : s_FiredRow_l0 y0 y1 y2 y3 y4 y5 = (cond ((decide (y3 < y2))) (Option.bind (s_l3Step_f (y0, y1, y5)) fun r1 => (s_FiredRow_l1 y0 y1 y2 r1 y3 0 y4)) (some y4)) := by
  refine (loopK_eq Tryz.prog (s_FiredRow_E) (sub (Tryz.f97.body.getD .skip) [1, 1, 1, 1, 0, 1, 0, 0]) _ _).trans ?_
  kernel_rfl
theorem s_FiredRow_l1_eq (y0 : List (Int)) (y1 : Int) (y2 : Int) (y3 : List (Int)) (y4 : Int) (y5 : Int) (y6 : List (Int)) : s_FiredRow_l1 y0 y1 y2 y3 y4 y5 y6 = (cond ((decide (y5 < (List.length y3 : Int)))) (if (0 : Int) ≤ y5 ∧ y5 < (List.length y3 : Int) then (cond (((List.getD y3 (y5 : Int).toNat 0) == 1)) (if (0 : Int) ≤ y5 ∧ y5 < (List.length y6 : Int) then (if (0 : Int) ≤ y5 ∧ y5 < (List.length y6 : Int) then (s_FiredRow_l1 y0 y1 y2 y3 y4 (IntKind.i64.wrap (y5 + 1)) (List.set y6 (y5 : Int).toNat (IntKind.i64.wrap ((List.getD y6 (y5 : Int).toNat 0) + 1)))) else none) else none) (s_FiredRow_l1 y0 y1 y2 y3 y4 (IntKind.i64.wrap (y5 + 1)) y6)) else none) (s_FiredRow_l2 y0 y1 y2 y3 (IntKind.i64.wrap (y4 + 1)) y6)) := by
  refine (loopK_eq Tryz.prog (s_FiredRow_E) (sub (Tryz.f97.body.getD .skip) [1, 1, 1, 1, 0, 1, 0, 0, 1, 0, 0, 1, 1, 0, 0]) _ _).trans ?_
  kernel_rfl
theorem s_FiredRow_l2_eq (y0 : List (Int)) (y1 : Int) (y2 : Int) (y3 : List (Int)) (y4 : Int) (y5 : List (Int)) : s_FiredRow_l2 y0 y1 y2 y3 y4 y5 = (cond ((decide (y4 < y2))) (Option.bind (s_l3Step_f (y0, y1, y3)) fun r1 => (s_FiredRow_l1 y0 y1 y2 r1 y4 0 y5)) (some y5)) := by
  refine (loopK_eq Tryz.prog (s_FiredRow_E) (sub (Tryz.f97.body.getD .skip) [1, 1, 1, 1, 0, 1, 0, 0]) _ _).trans ?_
  kernel_rfl
theorem s_FiredRow_ent : Entb Tryz.prog 97 := ⟨Tryz.f97, by kernel_rfl, by kernel_rfl, by kernel_rfl⟩
theorem s_FiredRow_ok : CtrOk Tryz.prog 97 ⟨s_FiredRow_sig, s_FiredRow_f⟩ :=
  ctr_of (fn := Tryz.f97) (by kernel_rfl) (by kernel_rfl) (fun x : Ts s_FiredRow_sig.pc => s_FiredRow_E) (fun x => ⟨(fn_cons ⟨s_l3Ok_ok, s_l3Ok_ent⟩ (fn_cons ⟨s_l1In_ok, s_l1In_ent⟩ (fn_cons ⟨s_l3Step_ok, s_l3Step_ent⟩ fn_none))), clo_none, wr_none⟩) (fun h => by cases h) follows_ (fun _ _ => trivial)
end FN

set_option linter.unusedVariables false
namespace FN
open Go Go.Proofs
/-! loop.example/firingnets/impl.turnStep -/
@[reducible] def i_turnStep_sig : Sig := { ps := [none, none], pc := [.view .i64, .view .i64], rs := [none], rc := [.row 3 .i64] }
noncomputable def i_turnStep_E : Env' := { fn := fun f => if f = 114 then some ⟨x_slices_Clone_int_int_sig, x_slices_Clone_int_int_f⟩ else none, ck := ckT, cuts := [(3, [0, 1, 5, 12, 13, 14]), (6, [0, 1, 5, 6, 7, 12, 13, 14, 19, 20, 21])], mine := fun i => i == 11 }
noncomputable def i_turnStep_f (x : Ts i_turnStep_sig.pc) : Option (Ts i_turnStep_sig.rc) := runFn Tryz.prog (i_turnStep_E) Tryz.f123 i_turnStep_sig x
noncomputable def i_turnStep_l0 (y0 : List (Int)) (y1 : List (Int)) (y2 : List (Int)) (y3 : Int) (y4 : Int) (y5 : List (Int)) : Option ((List (Int))) := from_ Tryz.prog (i_turnStep_E) Tryz.f123 i_turnStep_sig [1, 1, 0, 1, 0] ⟨mkT 48 [(0, .row false .i64 y0), (1, .row false .i64 y1), (5, .own 0), (12, .row false .i64 y2), (13, .int .i64 y3), (14, .int .i64 y4)], [some (.arr 3 true .i64 y5)]⟩
noncomputable def i_turnStep_l1 (y0 : List (Int)) (y1 : List (Int)) (y2 : Int) (y3 : Int) (y4 : List (Int)) (y5 : Int) (y6 : Int) (y7 : List (Int)) (y8 : Int) (y9 : Int) (y10 : List (Int)) : Option ((List (Int))) := from_ Tryz.prog (i_turnStep_E) Tryz.f123 i_turnStep_sig [1, 1, 0, 1, 0, 0, 1, 1, 0, 0, 1, 1, 0] ⟨mkT 48 [(0, .row false .i64 y0), (1, .row false .i64 y1), (5, .own 0), (6, .int .i64 y2), (7, .int .i64 y3), (12, .row false .i64 y4), (13, .int .i64 y5), (14, .int .i64 y6), (19, .row false .i64 y7), (20, .int .i64 y8), (21, .int .i64 y9)], [some (.arr 3 true .i64 y10)]⟩
theorem i_turnStep_f_eq (x0 : (List (Int))) (x1 : (List (Int))) : i_turnStep_f (x0, x1) = (Option.bind (x_slices_Clone_int_int_f x1) fun r1 => (i_turnStep_l0 x0 x1 x1 (List.length x1 : Int) 0 r1)) := by
  kernel_rfl
theorem i_turnStep_l0_eq (y0 : List (Int)) (y1 : List (Int)) (y2 : List (Int)) (y3 : Int) (y4 : Int) (y5 : List (Int)) : i_turnStep_l0 y0 y1 y2 y3 y4 y5 = (cond ((decide (y4 < y3))) (if (0 : Int) ≤ y4 ∧ y4 < (List.length y2 : Int) then (i_turnStep_l1 y0 y1 y4 (List.getD y2 (y4 : Int).toNat 0) y2 y3 y4 y1 (List.length y1 : Int) 0 y5) else none) (some y5)) := by
  refine (loopK_eq Tryz.prog (i_turnStep_E) (sub (Tryz.f123.body.getD .skip) [1, 1, 0, 1, 0, 0]) _ _).trans ?_
  kernel_rfl
theorem i_turnStep_l1_eq (y0 : List (Int)) (y1 : List (Int)) (y2 : Int) (y3 : Int) (y4 : List (Int)) (y5 : Int) (y6 : Int) (y7 : List (Int)) (y8 : Int) (y9 : Int) (y10 : List (Int)) : i_turnStep_l1 y0 y1 y2 y3 y4 y5 y6 y7 y8 y9 y10 = (cond ((decide (y9 < y8))) (if (0 : Int) ≤ y9 ∧ y9 < (List.length y7 : Int) then (if (0 : Int) ≤ y2 ∧ y2 < (List.length y0 : Int) then (if y9 < 0 then none else (cond (((Go.bits .and IntKind.i64 (Int.fdiv (List.getD y0 (y2 : Int).toNat 0) (2 ^ min (y9 : Int).toNat IntKind.i64.bits)) 1) == 1)) (cond (((List.getD y7 (y9 : Int).toNat 0) == (Int.tmod (IntKind.i64.wrap (y3 + 1)) 3))) (if (0 : Int) ≤ y2 ∧ y2 < (List.length y10 : Int) then (i_turnStep_l1 y0 y1 y2 y3 y4 y5 y6 y7 y8 (IntKind.i64.wrap (y9 + 1)) (List.set y10 (y2 : Int).toNat (List.getD y7 (y9 : Int).toNat 0))) else none) (i_turnStep_l1 y0 y1 y2 y3 y4 y5 y6 y7 y8 (IntKind.i64.wrap (y9 + 1)) y10)) (i_turnStep_l1 y0 y1 y2 y3 y4 y5 y6 y7 y8 (IntKind.i64.wrap (y9 + 1)) y10))) else none) else none) (i_turnStep_l0 y0 y1 y4 y5 (IntKind.i64.wrap (y6 + 1)) y10)) := by
  refine (loopK_eq Tryz.prog (i_turnStep_E) (sub (Tryz.f123.body.getD .skip) [1, 1, 0, 1, 0, 0, 1, 1, 0, 0, 1, 1, 0, 0]) _ _).trans ?_
  kernel_rfl
theorem i_turnStep_ent : Entb Tryz.prog 123 := ⟨Tryz.f123, by kernel_rfl, by kernel_rfl, by kernel_rfl⟩
theorem i_turnStep_ok : CtrOk Tryz.prog 123 ⟨i_turnStep_sig, i_turnStep_f⟩ :=
  ctr_of (fn := Tryz.f123) (by kernel_rfl) (by kernel_rfl) (fun x : Ts i_turnStep_sig.pc => i_turnStep_E) (fun x => ⟨(fn_cons ⟨x_slices_Clone_int_int_ok, x_slices_Clone_int_int_ent⟩ fn_none), clo_none, wr_none⟩) (fun h => by cases h) follows_ (fun _ _ => trivial)
end FN

set_option linter.unusedVariables false
namespace FN
open Go Go.Proofs
/-! loop.example/firingnets/impl.TurnedRow -/
@[reducible] def i_TurnedRow_sig : Sig := { ps := [none, none, none], pc := [.view .i64, .view .i64, .int .i64], rs := [none], rc := [.row 3 .i64] }
noncomputable def i_TurnedRow_E : Env' := { fn := fun f => if f = 101 then some ⟨i_asked_sig, i_asked_f⟩ else if f = 123 then some ⟨i_turnStep_sig, i_turnStep_f⟩ else none, ck := ckT, cuts := [(5, [0, 1, 7, 25, 26]), (8, [0, 1, 7, 8, 25, 26, 32, 33])], mine := fun i => false }
noncomputable def i_TurnedRow_f (x : Ts i_TurnedRow_sig.pc) : Option (Ts i_TurnedRow_sig.rc) := runFn Tryz.prog (i_TurnedRow_E) Tryz.f83 i_TurnedRow_sig x
noncomputable def i_TurnedRow_l0 (y0 : List (Int)) (y1 : List (Int)) (y2 : Int) (y3 : Int) (y4 : List (Int)) : Option ((List (Int))) := from_ Tryz.prog (i_TurnedRow_E) Tryz.f83 i_TurnedRow_sig [1, 1, 1, 0, 1, 0] ⟨mkT 55 [(0, .row false .i64 y0), (1, .row false .i64 y1), (7, .own 0), (25, .int .i64 y2), (26, .int .i64 y3)], [some (.arr 3 true .i64 y4)]⟩
noncomputable def i_TurnedRow_l1 (y0 : List (Int)) (y1 : List (Int)) (y2 : List (Int)) (y3 : Int) (y4 : Int) (y5 : Int) (y6 : Int) (y7 : List (Int)) : Option ((List (Int))) := from_ Tryz.prog (i_TurnedRow_E) Tryz.f83 i_TurnedRow_sig [1, 1, 1, 0, 1, 0, 0, 1, 1, 0, 0, 1, 0, 1, 0] ⟨mkT 55 [(0, .row false .i64 y0), (1, .row false .i64 y1), (7, .own 0), (8, .row true .i64 y2), (25, .int .i64 y3), (26, .int .i64 y4), (32, .int .i64 y5), (33, .int .i64 y6)], [some (.arr 3 true .i64 y7)]⟩
noncomputable def i_TurnedRow_l2 (y0 : List (Int)) (y1 : List (Int)) (y2 : Int) (y3 : Int) (y4 : List (Int)) : Option ((List (Int))) := from_ Tryz.prog (i_TurnedRow_E) Tryz.f83 i_TurnedRow_sig [1, 1, 1, 0, 1, 0] ⟨mkT 55 [(0, .row false .i64 y0), (1, .row true .i64 y1), (7, .own 0), (25, .int .i64 y2), (26, .int .i64 y3)], [some (.arr 3 true .i64 y4)]⟩
noncomputable def i_TurnedRow_l3 (y0 : List (Int)) (y1 : List (Int)) (y2 : List (Int)) (y3 : Int) (y4 : Int) (y5 : Int) (y6 : Int) (y7 : List (Int)) : Option ((List (Int))) := from_ Tryz.prog (i_TurnedRow_E) Tryz.f83 i_TurnedRow_sig [1, 1, 1, 0, 1, 0, 0, 1, 1, 0, 0, 1, 0, 1, 0] ⟨mkT 55 [(0, .row false .i64 y0), (1, .row true .i64 y1), (7, .own 0), (8, .row true .i64 y2), (25, .int .i64 y3), (26, .int .i64 y4), (32, .int .i64 y5), (33, .int .i64 y6)], [some (.arr 3 true .i64 y7)]⟩
theorem i_TurnedRow_f_eq (x0 : (List (Int))) (x1 : (List (Int))) (x2 : (Int)) : i_TurnedRow_f (x0, x1, x2) = (Option.bind (i_asked_f (x0, 3, x1)) fun r1 => (cond ((!r1)) (some []) (cond ((decide (x2 < 0))) (some []) (cond ((decide (60 < x2))) (some []) (if (0 : Int) ≤ (List.length x0 : Int) ∧ (List.length x0 : Int) * 8 ≤ 140737488355328 ∧ (List.length x0 : Int) ≤ 140737488355328 then (i_TurnedRow_l0 x0 x1 x2 0 (List.replicate ((List.length x0 : Int) : Int).toNat 0 : List (Int))) else none))))) := by
  kernel_rfl
theorem i_TurnedRow_l0_eq (y0 : List (Int)) (y1 : List (Int)) (y2 : Int) (y3 : Int) (y4 : List (Int)) : i_TurnedRow_l0 y0 y1 y2 y3 y4 = (cond ((decide (y3 < y2))) (Option.bind (i_turnStep_f (y0, y1)) fun r1 => (i_TurnedRow_l1 y0 y1 r1 y2 y3 (List.length y4 : Int) 0 y4)) (some y4)) := by
  refine (loopK_eq Tryz.prog (i_TurnedRow_E) (sub (Tryz.f83.body.getD .skip) [1, 1, 1, 0, 1, 0, 0]) _ _).trans ?_
  kernel_rfl
theorem i_TurnedRow_l1_eq (y0 : List (Int)) (y1 : List (Int)) (y2 : List (Int)) (y3 : Int) (y4 : Int) (y5 : Int) (y6 : Int) (y7 : List (Int)) : i_TurnedRow_l1 y0 y1 y2 y3 y4 y5 y6 y7 = (cond ((decide (y6 < y5))) (if (0 : Int) ≤ y6 ∧ y6 < (List.length y2 : Int) then (if (0 : Int) ≤ y6 ∧ y6 < (List.length y1 : Int) then (cond (((List.getD y2 (y6 : Int).toNat 0) != (List.getD y1 (y6 : Int).toNat 0))) (if (0 : Int) ≤ y6 ∧ y6 < (List.length y7 : Int) then (if (0 : Int) ≤ y6 ∧ y6 < (List.length y7 : Int) then (i_TurnedRow_l1 y0 y1 y2 y3 y4 y5 (IntKind.i64.wrap (y6 + 1)) (List.set y7 (y6 : Int).toNat (IntKind.i64.wrap ((List.getD y7 (y6 : Int).toNat 0) + 1)))) else none) else none) (i_TurnedRow_l1 y0 y1 y2 y3 y4 y5 (IntKind.i64.wrap (y6 + 1)) y7)) else none) else none) (i_TurnedRow_l2 y0 y2 y3 (IntKind.i64.wrap (y4 + 1)) y7)) := by
  refine (loopK_eq Tryz.prog (i_TurnedRow_E) (sub (Tryz.f83.body.getD .skip) [1, 1, 1, 0, 1, 0, 0, 1, 1, 0, 0, 1, 0, 1, 0, 0]) _ _).trans ?_
  kernel_rfl
theorem i_TurnedRow_l2_eq (y0 : List (Int)) (y1 : List (Int)) (y2 : Int) (y3 : Int) (y4 : List (Int)) : i_TurnedRow_l2 y0 y1 y2 y3 y4 = (cond ((decide (y3 < y2))) (Option.bind (i_turnStep_f (y0, y1)) fun r1 => (i_TurnedRow_l3 y0 y1 r1 y2 y3 (List.length y4 : Int) 0 y4)) (some y4)) := by
  refine (loopK_eq Tryz.prog (i_TurnedRow_E) (sub (Tryz.f83.body.getD .skip) [1, 1, 1, 0, 1, 0, 0]) _ _).trans ?_
  kernel_rfl
theorem i_TurnedRow_l3_eq (y0 : List (Int)) (y1 : List (Int)) (y2 : List (Int)) (y3 : Int) (y4 : Int) (y5 : Int) (y6 : Int) (y7 : List (Int)) : i_TurnedRow_l3 y0 y1 y2 y3 y4 y5 y6 y7 = (cond ((decide (y6 < y5))) (if (0 : Int) ≤ y6 ∧ y6 < (List.length y2 : Int) then (if (0 : Int) ≤ y6 ∧ y6 < (List.length y1 : Int) then (cond (((List.getD y2 (y6 : Int).toNat 0) != (List.getD y1 (y6 : Int).toNat 0))) (if (0 : Int) ≤ y6 ∧ y6 < (List.length y7 : Int) then (if (0 : Int) ≤ y6 ∧ y6 < (List.length y7 : Int) then (i_TurnedRow_l3 y0 y1 y2 y3 y4 y5 (IntKind.i64.wrap (y6 + 1)) (List.set y7 (y6 : Int).toNat (IntKind.i64.wrap ((List.getD y7 (y6 : Int).toNat 0) + 1)))) else none) else none) (i_TurnedRow_l3 y0 y1 y2 y3 y4 y5 (IntKind.i64.wrap (y6 + 1)) y7)) else none) else none) (i_TurnedRow_l2 y0 y2 y3 (IntKind.i64.wrap (y4 + 1)) y7)) := by
  refine (loopK_eq Tryz.prog (i_TurnedRow_E) (sub (Tryz.f83.body.getD .skip) [1, 1, 1, 0, 1, 0, 0, 1, 1, 0, 0, 1, 0, 1, 0, 0]) _ _).trans ?_
  kernel_rfl
theorem i_TurnedRow_ent : Entb Tryz.prog 83 := ⟨Tryz.f83, by kernel_rfl, by kernel_rfl, by kernel_rfl⟩
theorem i_TurnedRow_ok : CtrOk Tryz.prog 83 ⟨i_TurnedRow_sig, i_TurnedRow_f⟩ :=
  ctr_of (fn := Tryz.f83) (by kernel_rfl) (by kernel_rfl) (fun x : Ts i_TurnedRow_sig.pc => i_TurnedRow_E) (fun x => ⟨(fn_cons ⟨i_asked_ok, i_asked_ent⟩ (fn_cons ⟨i_turnStep_ok, i_turnStep_ent⟩ fn_none)), clo_none, wr_none⟩) (fun h => by cases h) follows_ (fun _ _ => trivial)
end FN

set_option linter.unusedVariables false
namespace FN
open Go Go.Proofs
/-! loop.example/firingnets/spec.l5Step -/
@[reducible] def s_l5Step_sig : Sig := { ps := [none, none], pc := [.view .i64, .view .i64], rs := [none], rc := [.row 3 .i64] }
noncomputable def s_l5Step_E : Env' := { fn := fun f => none, ck := ckT, cuts := [(3, [0, 1, 5, 6]), (8, [0, 1, 5, 6, 7, 8, 9])], mine := fun i => false }
noncomputable def s_l5Step_f (x : Ts s_l5Step_sig.pc) : Option (Ts s_l5Step_sig.rc) := runFn Tryz.prog (s_l5Step_E) Tryz.f131 s_l5Step_sig x
noncomputable def s_l5Step_l0 (y0 : List (Int)) (y1 : List (Int)) (y2 : Int) (y3 : List (Int)) : Option ((List (Int))) := from_ Tryz.prog (s_l5Step_E) Tryz.f131 s_l5Step_sig [1, 1, 0, 1, 0] ⟨mkT 55 [(0, .row false .i64 y0), (1, .row false .i64 y1), (5, .own 0), (6, .int .i64 y2)], [some (.arr 3 true .i64 y3)]⟩
noncomputable def s_l5Step_l1 (y0 : List (Int)) (y1 : List (Int)) (y2 : Int) (y3 : Int) (y4 : Int) (y5 : Int) (y6 : List (Int)) : Option ((List (Int))) := from_ Tryz.prog (s_l5Step_E) Tryz.f131 s_l5Step_sig [1, 1, 0, 1, 0, 0, 1, 0, 0, 1, 1, 0, 1, 0] ⟨mkT 55 [(0, .row false .i64 y0), (1, .row false .i64 y1), (5, .own 0), (6, .int .i64 y2), (7, .int .i64 y3), (8, .int .i64 y4), (9, .int .i64 y5)], [some (.arr 3 true .i64 y6)]⟩
theorem s_l5Step_f_eq (x0 : (List (Int))) (x1 : (List (Int))) : s_l5Step_f (x0, x1) = (s_l5Step_l0 x0 x1 0 ([] : List (Int))) := by
  kernel_rfl
theorem s_l5Step_l0_eq (y0 : List (Int)) (y1 : List (Int)) (y2 : Int) (y3 : List (Int)) : s_l5Step_l0 y0 y1 y2 y3 = (cond ((decide (y2 < (List.length y1 : Int)))) (if (0 : Int) ≤ y2 ∧ y2 < (List.length y1 : Int) then (if (0 : Int) ≤ y2 ∧ y2 < (List.length y1 : Int) then (s_l5Step_l1 y0 y1 y2 (Int.tmod (IntKind.i64.wrap ((List.getD y1 (y2 : Int).toNat 0) + 1)) 3) (List.getD y1 (y2 : Int).toNat 0) 0 y3) else none) else none) (some y3)) := by
  refine (loopK_eq Tryz.prog (s_l5Step_E) (sub (Tryz.f131.body.getD .skip) [1, 1, 0, 1, 0, 0]) _ _).trans ?_
  kernel_rfl
theorem s_l5Step_l1_eq (y0 : List (Int)) (y1 : List (Int)) (y2 : Int) (y3 : Int) (y4 : Int) (y5 : Int) (y6 : List (Int)) : s_l5Step_l1 y0 y1 y2 y3 y4 y5 y6 = (cond ((decide (y5 < (List.length y1 : Int)))) (if (0 : Int) ≤ y2 ∧ y2 < (List.length y0 : Int) then (if y5 < 0 then none else (cond (((Int.tmod (Int.fdiv (List.getD y0 (y2 : Int).toNat 0) (2 ^ min (y5 : Int).toNat IntKind.i64.bits)) 2) == 1)) (if (0 : Int) ≤ y5 ∧ y5 < (List.length y1 : Int) then (cond (((List.getD y1 (y5 : Int).toNat 0) == y3)) (s_l5Step_l1 y0 y1 y2 y3 y3 (IntKind.i64.wrap (y5 + 1)) y6) (s_l5Step_l1 y0 y1 y2 y3 y4 (IntKind.i64.wrap (y5 + 1)) y6)) else none) (s_l5Step_l1 y0 y1 y2 y3 y4 (IntKind.i64.wrap (y5 + 1)) y6))) else none) (if (List.length y6 + List.length ([y4] : List (Int))) * 8 ≤ 140737488355328 then (s_l5Step_l0 y0 y1 (IntKind.i64.wrap (y2 + 1)) (y6 ++ ([y4] : List (Int)))) else none)) := by
  refine (loopK_eq Tryz.prog (s_l5Step_E) (sub (Tryz.f131.body.getD .skip) [1, 1, 0, 1, 0, 0, 1, 0, 0, 1, 1, 0, 1, 0, 0]) _ _).trans ?_
  kernel_rfl
theorem s_l5Step_ent : Entb Tryz.prog 131 := ⟨Tryz.f131, by kernel_rfl, by kernel_rfl, by kernel_rfl⟩
theorem s_l5Step_ok : CtrOk Tryz.prog 131 ⟨s_l5Step_sig, s_l5Step_f⟩ :=
  ctr_of (fn := Tryz.f131) (by kernel_rfl) (by kernel_rfl) (fun x : Ts s_l5Step_sig.pc => s_l5Step_E) (fun x => ⟨fn_none, clo_none, wr_none⟩) (fun h => by cases h) follows_ (fun _ _ => trivial)
end FN

set_option linter.unusedVariables false
namespace FN
open Go Go.Proofs
/-! loop.example/firingnets/spec.TurnedRow -/
@[reducible] def s_TurnedRow_sig : Sig := { ps := [none, none, none], pc := [.view .i64, .view .i64, .int .i64], rs := [none], rc := [.row 3 .i64] }
noncomputable def s_TurnedRow_E : Env' := { fn := fun f => if f = 100 then some ⟨s_l3Ok_sig, s_l3Ok_f⟩ else if f = 111 then some ⟨s_l1In_sig, s_l1In_f⟩ else if f = 131 then some ⟨s_l5Step_sig, s_l5Step_f⟩ else none, ck := ckT, cuts := [(6, [0, 2, 7, 8, 9]), (10, [0, 2, 7, 8, 9, 10, 11])], mine := fun i => false }
noncomputable def s_TurnedRow_f (x : Ts s_TurnedRow_sig.pc) : Option (Ts s_TurnedRow_sig.rc) := runFn Tryz.prog (s_TurnedRow_E) Tryz.f98 s_TurnedRow_sig x
noncomputable def s_TurnedRow_l0 (y0 : List (Int)) (y1 : Int) (y2 : Int) (y3 : List (Int)) (y4 : List (Int)) : Option ((List (Int))) := from_ Tryz.prog (s_TurnedRow_E) Tryz.f98 s_TurnedRow_sig [1, 1, 1, 1, 0, 1, 0] ⟨mkT 61 [(0, .row false .i64 y0), (2, .int .i64 y1), (7, .own 0), (8, .own 1), (9, .int .i64 y2)], [some (.arr 3 true .i64 y3), some (.arr 3 true .i64 y4)]⟩
noncomputable def s_TurnedRow_l1 (y0 : List (Int)) (y1 : Int) (y2 : Int) (y3 : List (Int)) (y4 : Int) (y5 : List (Int)) (y6 : List (Int)) : Option ((List (Int))) := from_ Tryz.prog (s_TurnedRow_E) Tryz.f98 s_TurnedRow_sig [1, 1, 1, 1, 0, 1, 0, 0, 1, 0, 0, 1, 0, 1, 0] ⟨mkT 61 [(0, .row false .i64 y0), (2, .int .i64 y1), (7, .own 0), (8, .own 1), (9, .int .i64 y2), (10, .row true .i64 y3), (11, .int .i64 y4)], [some (.arr 3 true .i64 y5), some (.arr 3 true .i64 y6)]⟩
noncomputable def s_TurnedRow_l2 (y0 : List (Int)) (y1 : Int) (y2 : List (Int)) (y3 : Int) (y4 : List (Int)) : Option ((List (Int))) := from_ Tryz.prog (s_TurnedRow_E) Tryz.f98 s_TurnedRow_sig [1, 1, 1, 1, 0, 1, 0] ⟨mkT 61 [(0, .row false .i64 y0), (2, .int .i64 y1), (7, .own 0), (8, .row true .i64 y2), (9, .int .i64 y3)], [some (.arr 3 true .i64 y4)]⟩
noncomputable def s_TurnedRow_l3 (y0 : List (Int)) (y1 : Int) (y2 : List (Int)) (y3 : Int) (y4 : List (Int)) (y5 : Int) (y6 : List (Int)) : Option ((List (Int))) := from_ Tryz.prog (s_TurnedRow_E) Tryz.f98 s_TurnedRow_sig [1, 1, 1, 1, 0, 1, 0, 0, 1, 0, 0, 1, 0, 1, 0] ⟨mkT 61 [(0, .row false .i64 y0), (2, .int .i64 y1), (7, .own 0), (8, .row true .i64 y2), (9, .int .i64 y3), (10, .row true .i64 y4), (11, .int .i64 y5)], [some (.arr 3 true .i64 y6)]⟩
theorem s_TurnedRow_f_eq (x0 : (List (Int))) (x1 : (List (Int))) (x2 : (Int)) : s_TurnedRow_f (x0, x1, x2) = (Option.bind (s_l3Ok_f (x0, 3, x1)) fun r1 => (cond ((!r1)) (some ([] : List (Int))) (Option.bind (s_l1In_f (x2, 0, 60)) fun r2 => (cond ((!r2)) (some ([] : List (Int))) (if (0 : Int) ≤ (List.length x0 : Int) ∧ (List.length x0 : Int) * 8 ≤ 140737488355328 ∧ (List.length x0 : Int) ≤ 140737488355328 then (if (List.length ([] : List (Int)) + List.length x1) * 8 ≤ 140737488355328 then (s_TurnedRow_l0 x0 x2 0 (List.replicate ((List.length x0 : Int) : Int).toNat 0 : List (Int)) (([] : List (Int)) ++ x1)) else none) else none))))) := by
  kernel_rfl
theorem s_TurnedRow_l0_eq (y0 : List (Int)) (y1 : Int) (y2 : Int) (y3 : List (Int)) (y4 : List (Int)) : s_TurnedRow_l0 y0 y1 y2 y3 y4 = (cond ((decide (y2 < y1))) (Option.bind (s_l5Step_f (y0, y4)) fun r1 => (s_TurnedRow_l1 y0 y1 y2 r1 0 y3 y4)) (some y3)) := by
  refine (loopK_eq Tryz.prog (s_TurnedRow_E) (sub (Tryz.f98.body.getD .skip) [1, 1, 1, 1, 0, 1, 0, 0]) _ _).trans ?_
  kernel_rfl
theorem s_TurnedRow_l1_eq (y0 : List (Int)) (y1 : Int) (y2 : Int) (y3 : List (Int)) (y4 : Int) (y5 : List (Int)) (y6 : List (Int)) : s_TurnedRow_l1 y0 y1 y2 y3 y4 y5 y6 = (cond ((decide (y4 < (List.length y6 : Int)))) (if (0 : Int) ≤ y4 ∧ y4 < (List.length y3 : Int) then (if (0 : Int) ≤ y4 ∧ y4 < (List.length y6 : Int) then (cond (((List.getD y3 (y4 : Int).toNat 0) != (List.getD y6 (y4 : Int).toNat 0))) (if (0 : Int) ≤ y4 ∧ y4 < (List.length y5 : Int) then (if (0 : Int) ≤ y4 ∧ y4 < (List.length y5 : Int) then (s_TurnedRow_l1 y0 y1 y2 y3 (IntKind.i64.wrap (y4 + 1)) (List.set y5 (y4 : Int).toNat (IntKind.i64.wrap ((List.getD y5 (y4 : Int).toNat 0) + 1))) y6) else none) else none) (s_TurnedRow_l1 y0 y1 y2 y3 (IntKind.i64.wrap (y4 + 1)) y5 y6)) else none) else none) (s_TurnedRow_l2 y0 y1 y3 (IntKind.i64.wrap (y2 + 1)) y5)) := by
  refine (loopK_eq Tryz.prog (s_TurnedRow_E) (sub (Tryz.f98.body.getD .skip) [1, 1, 1, 1, 0, 1, 0, 0, 1, 0, 0, 1, 0, 1, 0, 0]) _ _).trans ?_
  kernel_rfl
theorem s_TurnedRow_l2_eq (y0 : List (Int)) (y1 : Int) (y2 : List (Int)) (y3 : Int) (y4 : List (Int)) : s_TurnedRow_l2 y0 y1 y2 y3 y4 = (cond ((decide (y3 < y1))) (Option.bind (s_l5Step_f (y0, y2)) fun r1 => (s_TurnedRow_l3 y0 y1 y2 y3 r1 0 y4)) (some y4)) := by
  refine (loopK_eq Tryz.prog (s_TurnedRow_E) (sub (Tryz.f98.body.getD .skip) [1, 1, 1, 1, 0, 1, 0, 0]) _ _).trans ?_
  kernel_rfl
theorem s_TurnedRow_l3_eq (y0 : List (Int)) (y1 : Int) (y2 : List (Int)) (y3 : Int) (y4 : List (Int)) (y5 : Int) (y6 : List (Int)) : s_TurnedRow_l3 y0 y1 y2 y3 y4 y5 y6 = (cond ((decide (y5 < (List.length y2 : Int)))) (if (0 : Int) ≤ y5 ∧ y5 < (List.length y4 : Int) then (if (0 : Int) ≤ y5 ∧ y5 < (List.length y2 : Int) then (cond (((List.getD y4 (y5 : Int).toNat 0) != (List.getD y2 (y5 : Int).toNat 0))) (if (0 : Int) ≤ y5 ∧ y5 < (List.length y6 : Int) then (if (0 : Int) ≤ y5 ∧ y5 < (List.length y6 : Int) then (s_TurnedRow_l3 y0 y1 y2 y3 y4 (IntKind.i64.wrap (y5 + 1)) (List.set y6 (y5 : Int).toNat (IntKind.i64.wrap ((List.getD y6 (y5 : Int).toNat 0) + 1)))) else none) else none) (s_TurnedRow_l3 y0 y1 y2 y3 y4 (IntKind.i64.wrap (y5 + 1)) y6)) else none) else none) (s_TurnedRow_l2 y0 y1 y4 (IntKind.i64.wrap (y3 + 1)) y6)) := by
  refine (loopK_eq Tryz.prog (s_TurnedRow_E) (sub (Tryz.f98.body.getD .skip) [1, 1, 1, 1, 0, 1, 0, 0, 1, 0, 0, 1, 0, 1, 0, 0]) _ _).trans ?_
  kernel_rfl
theorem s_TurnedRow_ent : Entb Tryz.prog 98 := ⟨Tryz.f98, by kernel_rfl, by kernel_rfl, by kernel_rfl⟩
theorem s_TurnedRow_ok : CtrOk Tryz.prog 98 ⟨s_TurnedRow_sig, s_TurnedRow_f⟩ :=
  ctr_of (fn := Tryz.f98) (by kernel_rfl) (by kernel_rfl) (fun x : Ts s_TurnedRow_sig.pc => s_TurnedRow_E) (fun x => ⟨(fn_cons ⟨s_l3Ok_ok, s_l3Ok_ent⟩ (fn_cons ⟨s_l1In_ok, s_l1In_ent⟩ (fn_cons ⟨s_l5Step_ok, s_l5Step_ent⟩ fn_none))), clo_none, wr_none⟩) (fun h => by cases h) follows_ (fun _ _ => trivial)
end FN

set_option linter.unusedVariables false
namespace FN
open Go Go.Proofs
/-! loop.example/firingnets/impl.rise -/
@[reducible] def i_rise_sig : Sig := { ps := [none, none, none], pc := [.view .i64, .int .i64, .int .i64], rs := [none], rc := [.int .i64] }
noncomputable def i_rise_E : Env' := { fn := fun f => none, ck := ckT, cuts := [], mine := fun i => false }
noncomputable def i_rise_f (x : Ts i_rise_sig.pc) : Option (Ts i_rise_sig.rc) := runFn Tryz.prog (i_rise_E) Tryz.f120 i_rise_sig x
theorem i_rise_f_eq (x0 : (List (Int))) (x1 : (Int)) (x2 : (Int)) : i_rise_f (x0, x1, x2) = (if (0 : Int) ≤ x2 ∧ x2 < (List.length x0 : Int) then (if (0 : Int) ≤ x1 ∧ x1 < (List.length x0 : Int) then (cond (((Int.tmod (IntKind.i64.wrap ((IntKind.i64.wrap ((List.getD x0 (x2 : Int).toNat 0) - (List.getD x0 (x1 : Int).toNat 0))) + 3)) 3) == 1)) (some 1) (cond (((Int.tmod (IntKind.i64.wrap ((IntKind.i64.wrap ((List.getD x0 (x2 : Int).toNat 0) - (List.getD x0 (x1 : Int).toNat 0))) + 3)) 3) == 2)) (some (-1)) (some 0))) else none) else none) := by
  kernel_rfl
theorem i_rise_ent : Entb Tryz.prog 120 := ⟨Tryz.f120, by kernel_rfl, by kernel_rfl, by kernel_rfl⟩
theorem i_rise_ok : CtrOk Tryz.prog 120 ⟨i_rise_sig, i_rise_f⟩ :=
  ctr_of (fn := Tryz.f120) (by kernel_rfl) (by kernel_rfl) (fun x : Ts i_rise_sig.pc => i_rise_E) (fun x => ⟨fn_none, clo_none, wr_none⟩) (fun h => by cases h) follows_ (fun _ _ => trivial)
end FN

set_option linter.unusedVariables false
namespace FN
open Go Go.Proofs
/-! loop.example/firingnets/impl.HeightRow -/
@[reducible] def i_HeightRow_sig : Sig := { ps := [none, none], pc := [.view .i64, .view .i64], rs := [none, none], rc := [.row 3 .i64, .bool] }
noncomputable def i_HeightRow_E : Env' := { fn := fun f => if f = 101 then some ⟨i_asked_sig, i_asked_f⟩ else if f = 120 then some ⟨i_rise_sig, i_rise_f⟩ else none, ck := ckT, cuts := [(6, [0, 1, 6, 7, 25, 26]), (12, [0, 1, 6, 7, 9, 10, 25, 26]), (16, [0, 1, 6, 7, 9, 10, 11, 25, 26, 49, 50])], mine := fun i => false }
noncomputable def i_HeightRow_f (x : Ts i_HeightRow_sig.pc) : Option (Ts i_HeightRow_sig.rc) := runFn Tryz.prog (i_HeightRow_E) Tryz.f79 i_HeightRow_sig x
noncomputable def i_HeightRow_l0 (y0 : List (Int)) (y1 : List (Int)) (y2 : Int) (y3 : Int) (y4 : List (Int)) (y5 : List (Bool)) : Option ((List (Int)) × (Bool)) := from_ Tryz.prog (i_HeightRow_E) Tryz.f79 i_HeightRow_sig [1, 1, 1, 1, 0, 1, 0] ⟨mkT 101 [(0, .row false .i64 y0), (1, .row false .i64 y1), (6, .own 0), (7, .own 1), (25, .int .i64 y2), (26, .int .i64 y3)], [some (.arr 3 true .i64 y4), some (.arr 4 true .bool y5)]⟩
noncomputable def i_HeightRow_l1 (y0 : List (Int)) (y1 : List (Int)) (y2 : Int) (y3 : Int) (y4 : Int) (y5 : List (Int)) (y6 : List (Bool)) (y7 : List (Int)) : Option ((List (Int)) × (Bool)) := from_ Tryz.prog (i_HeightRow_E) Tryz.f79 i_HeightRow_sig [1, 1, 1, 1, 0, 1, 0, 0, 1, 1, 0, 0, 1, 1, 1, 1, 1, 0] ⟨mkT 101 [(0, .row false .i64 y0), (1, .row false .i64 y1), (6, .own 0), (7, .own 1), (9, .own 2), (10, .int .i64 y2), (25, .int .i64 y3), (26, .int .i64 y4)], [some (.arr 3 true .i64 y5), some (.arr 4 true .bool y6), some (.arr 3 true .i64 y7)]⟩
noncomputable def i_HeightRow_l2 (y0 : List (Int)) (y1 : List (Int)) (y2 : Int) (y3 : Int) (y4 : Int) (y5 : Int) (y6 : Int) (y7 : Int) (y8 : List (Int)) (y9 : List (Bool)) (y10 : List (Int)) : Option ((List (Int)) × (Bool)) := from_ Tryz.prog (i_HeightRow_E) Tryz.f79 i_HeightRow_sig [1, 1, 1, 1, 0, 1, 0, 0, 1, 1, 0, 0, 1, 1, 1, 1, 1, 0, 0, 1, 0, 0, 1, 1, 0] ⟨mkT 101 [(0, .row false .i64 y0), (1, .row false .i64 y1), (6, .own 0), (7, .own 1), (9, .own 2), (10, .int .i64 y2), (11, .int .i64 y3), (25, .int .i64 y4), (26, .int .i64 y5), (49, .int .i64 y6), (50, .int .i64 y7)], [some (.arr 3 true .i64 y8), some (.arr 4 true .bool y9), some (.arr 3 true .i64 y10)]⟩
theorem i_HeightRow_f_eq (x0 : (List (Int))) (x1 : (List (Int))) : i_HeightRow_f (x0, x1) = (Option.bind (i_asked_f (x0, 3, x1)) fun r1 => (cond ((!r1)) (some ([], false)) (if (0 : Int) ≤ (List.length x0 : Int) ∧ (List.length x0 : Int) * 8 ≤ 140737488355328 ∧ (List.length x0 : Int) ≤ 140737488355328 then (if (0 : Int) ≤ (List.length x0 : Int) ∧ (List.length x0 : Int) * 1 ≤ 140737488355328 ∧ (List.length x0 : Int) ≤ 140737488355328 then (i_HeightRow_l0 x0 x1 (List.length x0 : Int) 0 (List.replicate ((List.length x0 : Int) : Int).toNat 0 : List (Int)) (List.replicate ((List.length x0 : Int) : Int).toNat false : List (Bool))) else none) else none))) := by
  kernel_rfl
theorem i_HeightRow_l0_eq (y0 : List (Int)) (y1 : List (Int)) (y2 : Int) (y3 : Int) (y4 : List (Int)) (y5 : List (Bool)) : i_HeightRow_l0 y0 y1 y2 y3 y4 y5 = (cond ((decide (y3 < y2))) (if (0 : Int) ≤ y3 ∧ y3 < (List.length y5 : Int) then (cond ((List.getD y5 (y3 : Int).toNat false)) (i_HeightRow_l0 y0 y1 y2 (IntKind.i64.wrap (y3 + 1)) y4 y5) (if (0 : Int) ≤ y3 ∧ y3 < (List.length y5 : Int) then (i_HeightRow_l1 y0 y1 0 y2 y3 y4 (List.set y5 (y3 : Int).toNat true) ([y3] : List (Int))) else none)) else none) (some (y4, true))) := by
  refine (loopK_eq Tryz.prog (i_HeightRow_E) (sub (Tryz.f79.body.getD .skip) [1, 1, 1, 1, 0, 1, 0, 0]) _ _).trans ?_
  kernel_rfl
theorem i_HeightRow_l1_eq (y0 : List (Int)) (y1 : List (Int)) (y2 : Int) (y3 : Int) (y4 : Int) (y5 : List (Int)) (y6 : List (Bool)) (y7 : List (Int)) : i_HeightRow_l1 y0 y1 y2 y3 y4 y5 y6 y7 = (cond ((decide (y2 < (List.length y7 : Int)))) (if (0 : Int) ≤ y2 ∧ y2 < (List.length y7 : Int) then (i_HeightRow_l2 y0 y1 y2 (List.getD y7 (y2 : Int).toNat 0) y3 y4 (List.length y0 : Int) 0 y5 y6 y7) else none) (i_HeightRow_l0 y0 y1 y3 (IntKind.i64.wrap (y4 + 1)) y5 y6)) := by
  refine (loopK_eq Tryz.prog (i_HeightRow_E) (sub (Tryz.f79.body.getD .skip) [1, 1, 1, 1, 0, 1, 0, 0, 1, 1, 0, 0, 1, 1, 1, 1, 1, 0, 0]) _ _).trans ?_
  kernel_rfl
theorem i_HeightRow_l2_eq (y0 : List (Int)) (y1 : List (Int)) (y2 : Int) (y3 : Int) (y4 : Int) (y5 : Int) (y6 : Int) (y7 : Int) (y8 : List (Int)) (y9 : List (Bool)) (y10 : List (Int)) : i_HeightRow_l2 y0 y1 y2 y3 y4 y5 y6 y7 y8 y9 y10 = (cond ((decide (y7 < y6))) (if (0 : Int) ≤ y3 ∧ y3 < (List.length y0 : Int) then (if y7 < 0 then none else (cond (((Go.bits .and IntKind.i64 (Int.fdiv (List.getD y0 (y3 : Int).toNat 0) (2 ^ min (y7 : Int).toNat IntKind.i64.bits)) 1) == 0)) (i_HeightRow_l2 y0 y1 y2 y3 y4 y5 y6 (IntKind.i64.wrap (y7 + 1)) y8 y9 y10) (if (0 : Int) ≤ y3 ∧ y3 < (List.length y8 : Int) then (Option.bind (i_rise_f (y1, y3, y7)) fun r1 => (if (0 : Int) ≤ y7 ∧ y7 < (List.length y9 : Int) then (cond ((List.getD y9 (y7 : Int).toNat false)) (if (0 : Int) ≤ y7 ∧ y7 < (List.length y8 : Int) then (cond (((List.getD y8 (y7 : Int).toNat 0) != (IntKind.i64.wrap ((List.getD y8 (y3 : Int).toNat 0) + r1)))) (some ([], false)) (if (0 : Int) ≤ y7 ∧ y7 < (List.length y9 : Int) then (cond ((!(List.getD y9 (y7 : Int).toNat false))) (if (0 : Int) ≤ y7 ∧ y7 < (List.length y9 : Int) then (if (0 : Int) ≤ y7 ∧ y7 < (List.length y8 : Int) then (if (List.length y10 + List.length ([y7] : List (Int))) * 8 ≤ 140737488355328 then (i_HeightRow_l2 y0 y1 y2 y3 y4 y5 y6 (IntKind.i64.wrap (y7 + 1)) (List.set y8 (y7 : Int).toNat (IntKind.i64.wrap ((List.getD y8 (y3 : Int).toNat 0) + r1))) (List.set y9 (y7 : Int).toNat true) (y10 ++ ([y7] : List (Int)))) else none) else none) else none) (i_HeightRow_l2 y0 y1 y2 y3 y4 y5 y6 (IntKind.i64.wrap (y7 + 1)) y8 y9 y10)) else none)) else none) (if (0 : Int) ≤ y7 ∧ y7 < (List.length y9 : Int) then (cond ((!(List.getD y9 (y7 : Int).toNat false))) (if (0 : Int) ≤ y7 ∧ y7 < (List.length y9 : Int) then (if (0 : Int) ≤ y7 ∧ y7 < (List.length y8 : Int) then (if (List.length y10 + List.length ([y7] : List (Int))) * 8 ≤ 140737488355328 then (i_HeightRow_l2 y0 y1 y2 y3 y4 y5 y6 (IntKind.i64.wrap (y7 + 1)) (List.set y8 (y7 : Int).toNat (IntKind.i64.wrap ((List.getD y8 (y3 : Int).toNat 0) + r1))) (List.set y9 (y7 : Int).toNat true) (y10 ++ ([y7] : List (Int)))) else none) else none) else none) (i_HeightRow_l2 y0 y1 y2 y3 y4 y5 y6 (IntKind.i64.wrap (y7 + 1)) y8 y9 y10)) else none)) else none)) else none))) else none) (i_HeightRow_l1 y0 y1 (IntKind.i64.wrap (y2 + 1)) y4 y5 y8 y9 y10)) := by
  refine (loopK_eq Tryz.prog (i_HeightRow_E) (sub (Tryz.f79.body.getD .skip) [1, 1, 1, 1, 0, 1, 0, 0, 1, 1, 0, 0, 1, 1, 1, 1, 1, 0, 0, 1, 0, 0, 1, 1, 0, 0]) _ _).trans ?_
  kernel_rfl
theorem i_HeightRow_ent : Entb Tryz.prog 79 := ⟨Tryz.f79, by kernel_rfl, by kernel_rfl, by kernel_rfl⟩
theorem i_HeightRow_ok : CtrOk Tryz.prog 79 ⟨i_HeightRow_sig, i_HeightRow_f⟩ :=
  ctr_of (fn := Tryz.f79) (by kernel_rfl) (by kernel_rfl) (fun x : Ts i_HeightRow_sig.pc => i_HeightRow_E) (fun x => ⟨(fn_cons ⟨i_asked_ok, i_asked_ent⟩ (fn_cons ⟨i_rise_ok, i_rise_ent⟩ fn_none)), clo_none, wr_none⟩) (fun h => by cases h) follows_ (fun _ _ => trivial)
end FN

set_option linter.unusedVariables false
namespace FN
open Go Go.Proofs
/-! loop.example/firingnets/spec.l6Rise -/
@[reducible] def s_l6Rise_sig : Sig := { ps := [none, none], pc := [.int .i64, .int .i64], rs := [none], rc := [.int .i64] }
noncomputable def s_l6Rise_E : Env' := { fn := fun f => none, ck := ckT, cuts := [], mine := fun i => false }
noncomputable def s_l6Rise_f (x : Ts s_l6Rise_sig.pc) : Option (Ts s_l6Rise_sig.rc) := runFn Tryz.prog (s_l6Rise_E) Tryz.f150 s_l6Rise_sig x
theorem s_l6Rise_f_eq (x0 : (Int)) (x1 : (Int)) : s_l6Rise_f (x0, x1) = (some (IntKind.i64.wrap ((Int.tmod (IntKind.i64.wrap ((IntKind.i64.wrap ((IntKind.i64.wrap (x1 - x0)) + 3)) + 1)) 3) - 1))) := by
  kernel_rfl
theorem s_l6Rise_ent : Entb Tryz.prog 150 := ⟨Tryz.f150, by kernel_rfl, by kernel_rfl, by kernel_rfl⟩
theorem s_l6Rise_ok : CtrOk Tryz.prog 150 ⟨s_l6Rise_sig, s_l6Rise_f⟩ :=
  ctr_of (fn := Tryz.f150) (by kernel_rfl) (by kernel_rfl) (fun x : Ts s_l6Rise_sig.pc => s_l6Rise_E) (fun x => ⟨fn_none, clo_none, wr_none⟩) (fun h => by cases h) follows_ (fun _ _ => trivial)
end FN

set_option linter.unusedVariables false
namespace FN
open Go Go.Proofs
/-! loop.example/firingnets/spec.l7Heights -/
@[reducible] def s_l7Heights_sig : Sig := { ps := [none, none], pc := [.view .i64, .view .i64], rs := [none, none], rc := [.row 3 .i64, .bool] }
noncomputable def s_l7Heights_E : Env' := { fn := fun f => if f = 150 then some ⟨s_l6Rise_sig, s_l6Rise_f⟩ else none, ck := ckT, cuts := [(4, [0, 1, 6, 7, 8]), (9, [0, 1, 6, 7, 8, 9]), (12, [0, 1, 6, 7, 8, 9, 10]), (15, [0, 1, 6, 7, 8, 9, 10, 11]), (21, [0, 1, 6]), (22, [0, 1, 6, 12]), (25, [0, 1, 6, 12, 13])], mine := fun i => false }
noncomputable def s_l7Heights_f (x : Ts s_l7Heights_sig.pc) : Option (Ts s_l7Heights_sig.rc) := runFn Tryz.prog (s_l7Heights_E) Tryz.f130 s_l7Heights_sig x
noncomputable def s_l7Heights_l0 (y0 : List (Int)) (y1 : List (Int)) (y2 : Int) (y3 : Int) (y4 : List (Int)) : Option ((List (Int)) × (Bool)) := from_ Tryz.prog (s_l7Heights_E) Tryz.f130 s_l7Heights_sig [1, 1, 1, 0, 1, 0] ⟨mkT 131 [(0, .row false .i64 y0), (1, .row false .i64 y1), (6, .own 0), (7, .int .i64 y2), (8, .int .i64 y3)], [some (.arr 3 true .i64 y4)]⟩
noncomputable def s_l7Heights_l1 (y0 : List (Int)) (y1 : List (Int)) (y2 : Int) (y3 : Int) (y4 : Bool) (y5 : List (Int)) : Option ((List (Int)) × (Bool)) := from_ Tryz.prog (s_l7Heights_E) Tryz.f130 s_l7Heights_sig [1, 1, 1, 0, 1, 0, 0, 1, 0, 0, 1, 1, 1, 0] ⟨mkT 131 [(0, .row false .i64 y0), (1, .row false .i64 y1), (6, .own 0), (7, .int .i64 y2), (8, .int .i64 y3), (9, .bool y4)], [some (.arr 3 true .i64 y5)]⟩
noncomputable def s_l7Heights_j2 (y0 : List (Int)) (y1 : List (Int)) (y2 : List (Int)) : Option ((List (Int)) × (Bool)) := from_ Tryz.prog (s_l7Heights_E) Tryz.f130 s_l7Heights_sig [1, 1, 1, 1] ⟨mkT 131 [(0, .row false .i64 y0), (1, .row false .i64 y1), (6, .own 0)], [some (.arr 3 true .i64 y2)]⟩
noncomputable def s_l7Heights_l3 (y0 : List (Int)) (y1 : List (Int)) (y2 : Int) (y3 : Int) (y4 : Bool) (y5 : Int) (y6 : List (Int)) : Option ((List (Int)) × (Bool)) := from_ Tryz.prog (s_l7Heights_E) Tryz.f130 s_l7Heights_sig [1, 1, 1, 0, 1, 0, 0, 1, 0, 0, 1, 1, 1, 0, 0, 1, 0, 1, 1, 0] ⟨mkT 131 [(0, .row false .i64 y0), (1, .row false .i64 y1), (6, .own 0), (7, .int .i64 y2), (8, .int .i64 y3), (9, .bool y4), (10, .int .i64 y5)], [some (.arr 3 true .i64 y6)]⟩
noncomputable def s_l7Heights_l4 (y0 : List (Int)) (y1 : List (Int)) (y2 : Int) (y3 : List (Int)) : Option ((List (Int)) × (Bool)) := from_ Tryz.prog (s_l7Heights_E) Tryz.f130 s_l7Heights_sig [1, 1, 1, 1, 0, 1, 0] ⟨mkT 131 [(0, .row false .i64 y0), (1, .row false .i64 y1), (6, .own 0), (12, .int .i64 y2)], [some (.arr 3 true .i64 y3)]⟩
noncomputable def s_l7Heights_l5 (y0 : List (Int)) (y1 : List (Int)) (y2 : Int) (y3 : Int) (y4 : Bool) (y5 : Int) (y6 : Int) (y7 : List (Int)) : Option ((List (Int)) × (Bool)) := from_ Tryz.prog (s_l7Heights_E) Tryz.f130 s_l7Heights_sig [1, 1, 1, 0, 1, 0, 0, 1, 0, 0, 1, 1, 1, 0, 0, 1, 0, 1, 1, 0, 0, 1, 0, 0, 1, 0] ⟨mkT 131 [(0, .row false .i64 y0), (1, .row false .i64 y1), (6, .own 0), (7, .int .i64 y2), (8, .int .i64 y3), (9, .bool y4), (10, .int .i64 y5), (11, .int .i64 y6)], [some (.arr 3 true .i64 y7)]⟩
noncomputable def s_l7Heights_l6 (y0 : List (Int)) (y1 : List (Int)) (y2 : Int) (y3 : Int) (y4 : List (Int)) : Option ((List (Int)) × (Bool)) := from_ Tryz.prog (s_l7Heights_E) Tryz.f130 s_l7Heights_sig [1, 1, 1, 1, 0, 1, 0, 0, 1, 0, 0, 1, 0] ⟨mkT 131 [(0, .row false .i64 y0), (1, .row false .i64 y1), (6, .own 0), (12, .int .i64 y2), (13, .int .i64 y3)], [some (.arr 3 true .i64 y4)]⟩
theorem s_l7Heights_f_eq (x0 : (List (Int))) (x1 : (List (Int))) : s_l7Heights_f (x0, x1) = (if (0 : Int) ≤ (List.length x0 : Int) ∧ (List.length x0 : Int) * 8 ≤ 140737488355328 ∧ (List.length x0 : Int) ≤ 140737488355328 then (s_l7Heights_l0 x0 x1 0 0 (List.replicate ((List.length x0 : Int) : Int).toNat 0 : List (Int))) else none) := by
  kernel_rfl
theorem s_l7Heights_l0_eq (y0 : List (Int)) (y1 : List (Int)) (y2 : Int) (y3 : Int) (y4 : List (Int)) : s_l7Heights_l0 y0 y1 y2 y3 y4 = (cond ((decide (y3 < (List.length y0 : Int)))) (if y3 < 0 then none else (cond (((Int.tmod (Int.fdiv y2 (2 ^ min (y3 : Int).toNat IntKind.i64.bits)) 2) == 1)) (s_l7Heights_l0 y0 y1 y2 (IntKind.i64.wrap (y3 + 1)) y4) (if y3 < 0 then none else (s_l7Heights_l1 y0 y1 (Go.bits .or IntKind.i64 y2 (IntKind.i64.wrap (1 * 2 ^ min (y3 : Int).toNat IntKind.i64.bits))) y3 true y4)))) (s_l7Heights_j2 y0 y1 y4)) := by
  refine (loopK_eq Tryz.prog (s_l7Heights_E) (sub (Tryz.f130.body.getD .skip) [1, 1, 1, 0, 1, 0, 0]) _ _).trans ?_
  kernel_rfl
theorem s_l7Heights_l1_eq (y0 : List (Int)) (y1 : List (Int)) (y2 : Int) (y3 : Int) (y4 : Bool) (y5 : List (Int)) : s_l7Heights_l1 y0 y1 y2 y3 y4 y5 = (cond (y4) (s_l7Heights_l3 y0 y1 y2 y3 false 0 y5) (s_l7Heights_l0 y0 y1 y2 (IntKind.i64.wrap (y3 + 1)) y5)) := by
  refine (loopK_eq Tryz.prog (s_l7Heights_E) (sub (Tryz.f130.body.getD .skip) [1, 1, 1, 0, 1, 0, 0, 1, 0, 0, 1, 1, 1, 0, 0]) _ _).trans ?_
  kernel_rfl
theorem s_l7Heights_j2_eq (y0 : List (Int)) (y1 : List (Int)) (y2 : List (Int)) : s_l7Heights_j2 y0 y1 y2 = (s_l7Heights_l4 y0 y1 0 y2) := by
  kernel_rfl
theorem s_l7Heights_l3_eq (y0 : List (Int)) (y1 : List (Int)) (y2 : Int) (y3 : Int) (y4 : Bool) (y5 : Int) (y6 : List (Int)) : s_l7Heights_l3 y0 y1 y2 y3 y4 y5 y6 = (cond ((decide (y5 < (List.length y0 : Int)))) (s_l7Heights_l5 y0 y1 y2 y3 y4 y5 0 y6) (s_l7Heights_l1 y0 y1 y2 y3 y4 y6)) := by
  refine (loopK_eq Tryz.prog (s_l7Heights_E) (sub (Tryz.f130.body.getD .skip) [1, 1, 1, 0, 1, 0, 0, 1, 0, 0, 1, 1, 1, 0, 0, 1, 0, 1, 1, 0, 0]) _ _).trans ?_
  kernel_rfl
theorem s_l7Heights_l4_eq (y0 : List (Int)) (y1 : List (Int)) (y2 : Int) (y3 : List (Int)) : s_l7Heights_l4 y0 y1 y2 y3 = (cond ((decide (y2 < (List.length y0 : Int)))) (s_l7Heights_l6 y0 y1 y2 0 y3) (some (y3, true))) := by
  refine (loopK_eq Tryz.prog (s_l7Heights_E) (sub (Tryz.f130.body.getD .skip) [1, 1, 1, 1, 0, 1, 0, 0]) _ _).trans ?_
  kernel_rfl
theorem s_l7Heights_l5_eq (y0 : List (Int)) (y1 : List (Int)) (y2 : Int) (y3 : Int) (y4 : Bool) (y5 : Int) (y6 : Int) (y7 : List (Int)) : s_l7Heights_l5 y0 y1 y2 y3 y4 y5 y6 y7 = (cond ((decide (y6 < (List.length y0 : Int)))) (if y5 < 0 then none else (cond (((Int.tmod (Int.fdiv y2 (2 ^ min (y5 : Int).toNat IntKind.i64.bits)) 2) == 1)) (if (0 : Int) ≤ y5 ∧ y5 < (List.length y0 : Int) then (if y6 < 0 then none else (cond (((Int.tmod (Int.fdiv (List.getD y0 (y5 : Int).toNat 0) (2 ^ min (y6 : Int).toNat IntKind.i64.bits)) 2) == 1)) (if y6 < 0 then none else (cond (((Int.tmod (Int.fdiv y2 (2 ^ min (y6 : Int).toNat IntKind.i64.bits)) 2) == 0)) (if (0 : Int) ≤ y5 ∧ y5 < (List.length y7 : Int) then (if (0 : Int) ≤ y5 ∧ y5 < (List.length y1 : Int) then (if (0 : Int) ≤ y6 ∧ y6 < (List.length y1 : Int) then (Option.bind (s_l6Rise_f ((List.getD y1 (y5 : Int).toNat 0), (List.getD y1 (y6 : Int).toNat 0))) fun r1 => (if (0 : Int) ≤ y6 ∧ y6 < (List.length y7 : Int) then (if y6 < 0 then none else (s_l7Heights_l5 y0 y1 (Go.bits .or IntKind.i64 y2 (IntKind.i64.wrap (1 * 2 ^ min (y6 : Int).toNat IntKind.i64.bits))) y3 true y5 (IntKind.i64.wrap (y6 + 1)) (List.set y7 (y6 : Int).toNat (IntKind.i64.wrap ((List.getD y7 (y5 : Int).toNat 0) + r1))))) else none)) else none) else none) else none) (s_l7Heights_l5 y0 y1 y2 y3 y4 y5 (IntKind.i64.wrap (y6 + 1)) y7))) (s_l7Heights_l5 y0 y1 y2 y3 y4 y5 (IntKind.i64.wrap (y6 + 1)) y7))) else none) (s_l7Heights_l3 y0 y1 y2 y3 y4 (IntKind.i64.wrap (y5 + 1)) y7))) (s_l7Heights_l3 y0 y1 y2 y3 y4 (IntKind.i64.wrap (y5 + 1)) y7)) := by
  refine (loopK_eq Tryz.prog (s_l7Heights_E) (sub (Tryz.f130.body.getD .skip) [1, 1, 1, 0, 1, 0, 0, 1, 0, 0, 1, 1, 1, 0, 0, 1, 0, 1, 1, 0, 0, 1, 0, 0, 1, 0, 0]) _ _).trans ?_
  kernel_rfl
theorem s_l7Heights_l6_eq (y0 : List (Int)) (y1 : List (Int)) (y2 : Int) (y3 : Int) (y4 : List (Int)) : s_l7Heights_l6 y0 y1 y2 y3 y4 = (cond ((decide (y3 < (List.length y0 : Int)))) (if (0 : Int) ≤ y2 ∧ y2 < (List.length y0 : Int) then (if y3 < 0 then none else (cond (((Int.tmod (Int.fdiv (List.getD y0 (y2 : Int).toNat 0) (2 ^ min (y3 : Int).toNat IntKind.i64.bits)) 2) == 1)) (if (0 : Int) ≤ y3 ∧ y3 < (List.length y4 : Int) then (if (0 : Int) ≤ y2 ∧ y2 < (List.length y4 : Int) then (if (0 : Int) ≤ y2 ∧ y2 < (List.length y1 : Int) then (if (0 : Int) ≤ y3 ∧ y3 < (List.length y1 : Int) then (Option.bind (s_l6Rise_f ((List.getD y1 (y2 : Int).toNat 0), (List.getD y1 (y3 : Int).toNat 0))) fun r1 => (cond (((IntKind.i64.wrap ((List.getD y4 (y3 : Int).toNat 0) - (List.getD y4 (y2 : Int).toNat 0))) != r1)) (some (([] : List (Int)), false)) (s_l7Heights_l6 y0 y1 y2 (IntKind.i64.wrap (y3 + 1)) y4))) else none) else none) else none) else none) (s_l7Heights_l6 y0 y1 y2 (IntKind.i64.wrap (y3 + 1)) y4))) else none) (s_l7Heights_l4 y0 y1 (IntKind.i64.wrap (y2 + 1)) y4)) := by
  refine (loopK_eq Tryz.prog (s_l7Heights_E) (sub (Tryz.f130.body.getD .skip) [1, 1, 1, 1, 0, 1, 0, 0, 1, 0, 0, 1, 0, 0]) _ _).trans ?_
  kernel_rfl
theorem s_l7Heights_ent : Entb Tryz.prog 130 := ⟨Tryz.f130, by kernel_rfl, by kernel_rfl, by kernel_rfl⟩
theorem s_l7Heights_ok : CtrOk Tryz.prog 130 ⟨s_l7Heights_sig, s_l7Heights_f⟩ :=
  ctr_of (fn := Tryz.f130) (by kernel_rfl) (by kernel_rfl) (fun x : Ts s_l7Heights_sig.pc => s_l7Heights_E) (fun x => ⟨(fn_cons ⟨s_l6Rise_ok, s_l6Rise_ent⟩ fn_none), clo_none, wr_none⟩) (fun h => by cases h) follows_ (fun _ _ => trivial)
end FN

set_option linter.unusedVariables false
namespace FN
open Go Go.Proofs
/-! loop.example/firingnets/spec.HeightRow -/
@[reducible] def s_HeightRow_sig : Sig := { ps := [none, none], pc := [.view .i64, .view .i64], rs := [none, none], rc := [.row 3 .i64, .bool] }
noncomputable def s_HeightRow_E : Env' := { fn := fun f => if f = 100 then some ⟨s_l3Ok_sig, s_l3Ok_f⟩ else if f = 130 then some ⟨s_l7Heights_sig, s_l7Heights_f⟩ else none, ck := ckT, cuts := [], mine := fun i => i == 8 || i == 13 }
noncomputable def s_HeightRow_f (x : Ts s_HeightRow_sig.pc) : Option (Ts s_HeightRow_sig.rc) := runFn Tryz.prog (s_HeightRow_E) Tryz.f96 s_HeightRow_sig x
theorem s_HeightRow_f_eq (x0 : (List (Int))) (x1 : (List (Int))) : s_HeightRow_f (x0, x1) = (Option.bind (s_l3Ok_f (x0, 3, x1)) fun r1 => (cond ((!r1)) (some (([] : List (Int)), false)) (Option.bind (s_l7Heights_f (x0, x1)) fun r2 => (some (r2.1, r2.2))))) := by
  kernel_rfl
theorem s_HeightRow_ent : Entb Tryz.prog 96 := ⟨Tryz.f96, by kernel_rfl, by kernel_rfl, by kernel_rfl⟩
theorem s_HeightRow_ok : CtrOk Tryz.prog 96 ⟨s_HeightRow_sig, s_HeightRow_f⟩ :=
  ctr_of (fn := Tryz.f96) (by kernel_rfl) (by kernel_rfl) (fun x : Ts s_HeightRow_sig.pc => s_HeightRow_E) (fun x => ⟨(fn_cons ⟨s_l3Ok_ok, s_l3Ok_ent⟩ (fn_cons ⟨s_l7Heights_ok, s_l7Heights_ent⟩ fn_none)), clo_none, wr_none⟩) (fun h => by cases h) follows_ (fun _ _ => trivial)
end FN

set_option linter.unusedVariables false
namespace FN
open Go Go.Proofs
/-! loop.example/firingnets/impl.FlatOk -/
@[reducible] def i_FlatOk_sig : Sig := { ps := [none, none], pc := [.view .i64, .view .i64], rs := [none], rc := [.bool] }
noncomputable def i_FlatOk_E : Env' := { fn := fun f => if f = 79 then some ⟨i_HeightRow_sig, i_HeightRow_f⟩ else none, ck := ckT, cuts := [], mine := fun i => false }
noncomputable def i_FlatOk_f (x : Ts i_FlatOk_sig.pc) : Option (Ts i_FlatOk_sig.rc) := runFn Tryz.prog (i_FlatOk_E) Tryz.f78 i_FlatOk_sig x
theorem i_FlatOk_f_eq (x0 : (List (Int))) (x1 : (List (Int))) : i_FlatOk_f (x0, x1) = (Option.bind (i_HeightRow_f (x0, x1)) fun r1 => (some r1.2)) := by
  kernel_rfl
theorem i_FlatOk_ent : Entb Tryz.prog 78 := ⟨Tryz.f78, by kernel_rfl, by kernel_rfl, by kernel_rfl⟩
theorem i_FlatOk_ok : CtrOk Tryz.prog 78 ⟨i_FlatOk_sig, i_FlatOk_f⟩ :=
  ctr_of (fn := Tryz.f78) (by kernel_rfl) (by kernel_rfl) (fun x : Ts i_FlatOk_sig.pc => i_FlatOk_E) (fun x => ⟨(fn_cons ⟨i_HeightRow_ok, i_HeightRow_ent⟩ fn_none), clo_none, wr_none⟩) (fun h => by cases h) follows_ (fun _ _ => trivial)
end FN

set_option linter.unusedVariables false
namespace FN
open Go Go.Proofs
/-! loop.example/firingnets/spec.FlatOk -/
@[reducible] def s_FlatOk_sig : Sig := { ps := [none, none], pc := [.view .i64, .view .i64], rs := [none], rc := [.bool] }
noncomputable def s_FlatOk_E : Env' := { fn := fun f => if f = 100 then some ⟨s_l3Ok_sig, s_l3Ok_f⟩ else if f = 130 then some ⟨s_l7Heights_sig, s_l7Heights_f⟩ else none, ck := ckT, cuts := [], mine := fun i => false }
noncomputable def s_FlatOk_f (x : Ts s_FlatOk_sig.pc) : Option (Ts s_FlatOk_sig.rc) := runFn Tryz.prog (s_FlatOk_E) Tryz.f95 s_FlatOk_sig x
theorem s_FlatOk_f_eq (x0 : (List (Int))) (x1 : (List (Int))) : s_FlatOk_f (x0, x1) = (Option.bind (s_l3Ok_f (x0, 3, x1)) fun r1 => (cond ((!r1)) (some false) (Option.bind (s_l7Heights_f (x0, x1)) fun r2 => (some r2.2)))) := by
  kernel_rfl
theorem s_FlatOk_ent : Entb Tryz.prog 95 := ⟨Tryz.f95, by kernel_rfl, by kernel_rfl, by kernel_rfl⟩
theorem s_FlatOk_ok : CtrOk Tryz.prog 95 ⟨s_FlatOk_sig, s_FlatOk_f⟩ :=
  ctr_of (fn := Tryz.f95) (by kernel_rfl) (by kernel_rfl) (fun x : Ts s_FlatOk_sig.pc => s_FlatOk_E) (fun x => ⟨(fn_cons ⟨s_l3Ok_ok, s_l3Ok_ent⟩ (fn_cons ⟨s_l7Heights_ok, s_l7Heights_ent⟩ fn_none)), clo_none, wr_none⟩) (fun h => by cases h) follows_ (fun _ _ => trivial)
end FN

/-! strings.Cut: the shelf's contract, as one of ours. -/
namespace FN
open Go Go.Proofs Go.RowKit
def cut3 (s sep : ByteArray) : ByteArray × ByteArray × Bool := (⟨(Lib.cut s.data.toList sep.data.toList).1.toArray⟩, ⟨(Lib.cut s.data.toList sep.data.toList).2.1.toArray⟩, (Lib.cut s.data.toList sep.data.toList).2.2)
@[reducible] def x_strings_Cut_sig : Sig := { ps := [none, none], pc := [.str, .str], rs := [none, none, none], rc := [.str, .str, .bool] }
def x_strings_Cut_f (x : Ts x_strings_Cut_sig.pc) : Option (Ts x_strings_Cut_sig.rc) := if x.1.size < 4294967281 then some (cut3 x.1 x.2) else none
theorem x_strings_Cut_ent : Entb Tryz.prog 80 := ⟨Tryz.f80, by kernel_rfl, by kernel_rfl, by kernel_rfl⟩
theorem x_strings_Cut_ok : CtrOk Tryz.prog 80 ⟨x_strings_Cut_sig, x_strings_Cut_f⟩ := by
  intro w okc args bx x r hI hA hr
  obtain ⟨rfl, fl, h1, h2⟩ := (show bx = none ∧ ∃ fl, flatV [none, none] args.toList = some fl ∧ F2 (V1 (av w okc)) [PV.str x.1, PV.str x.2] fl from hA)
  obtain ⟨p, q, h3, rfl⟩ := flatV_two h1
  obtain ⟨m, hm⟩ := gl_cell hI
  have hx : (if x.1.size < 4294967281 then some (cut3 x.1 x.2) else none) = some r := hr
  split at hx
  · rename_i hc
    injection hx with hx
    subst hx
    cases h2 with
    | cons hp h2 => cases h2 with
      | cons hq _ =>
        have hp : p = .string x.1 := hp
        have hq : q = .string x.2 := hq
        subst hp; subst hq
        have hargs : args = #[.string x.1, .string x.2] := by apply Array.ext'; rw [h3]
        rw [hargs]
        refine (Tryz.strings_Cut x.1 x.2 m w hc hm).mono ?_
        rintro e w' ⟨rfl, n, rfl⟩
        exact ⟨_, rfl, ⟨[.string (cut3 x.1 x.2).1, .string (cut3 x.1 x.2).2.1, .bool (cut3 x.1 x.2).2.2], fun _ => False, ⟨_, _, rfl, rfl, ⟨_, _, rfl, rfl, ⟨_, rfl, rfl⟩⟩⟩, fun i j u u' g hu => by simp [rowsV] at hu, fun k h => h, (fun h => Bool.noConfusion (show (false : Bool) = true from h)), [.string (cut3 x.1 x.2).1, .string (cut3 x.1 x.2).2.1, .bool (cut3 x.1 x.2).2.2], rfl, rfl⟩, ⟨rfl, rfl, rfl, Nat.le_refl _, fun _ _ _ => rfl⟩⟩
  · cases hx
end FN

/-! numberOf: walked by hand. -/
namespace FN
open Go Go.Proofs Go.RowKit
def numOfV (s : ByteArray) : Int × Bool := match Lib.atoiAll s.data.toList with
  | .ok v => (v, if itoaG v = s then (if 0 ≤ v then decide (v ≤ 999999) else false) else false)
  | .«syntax» => (0, false)
  | .range => (Lib.atoiSat s.data.toList, false)
@[reducible] def i_numberOf_sig : Sig := { ps := [none], pc := [.str], rs := [none, none], rc := [.int .i64, .bool] }
def i_numberOf_f (s : Ts i_numberOf_sig.pc) : Option (Ts i_numberOf_sig.rc) := if ByteArray.size s ≤ 281474976710656 then some (numOfV s) else none
theorem i_numberOf_ent : Entb Tryz.prog 81 := ⟨Tryz.f81, by kernel_rfl, by kernel_rfl, by kernel_rfl⟩
theorem gl_bel {w w' : World} (h : Gl.I w) (k : Below w.heap.size w w') : Gl.I w' := Gl.keep none h k.size (fun i hi _ => k.block i hi) (fun k hk => by cases hk)
theorem bel_grow {w w' : World} {k : Nat} {os : Array Obj} (h : w' = Go.Sort.grow (w.drewN k) os) : Below w.heap.size w w' := by
  subst h
  exact ⟨rfl, rfl, rfl, by simp [Go.Sort.grow, World.drewN], fun i hi => by simp [Go.Sort.grow, World.drewN, Array.getElem?_append, hi]⟩
theorem itoa_back {l : List UInt8} {s : ByteArray} (h : l = s.toList) : (⟨l.toArray⟩ : ByteArray) = s := by
  rw [h, ByteArray.toList_eq]
theorem bel_trans {a b c : World} (h : Below a.heap.size a b) (k : Below b.heap.size b c) : Below a.heap.size a c := ⟨k.os.trans h.os, k.tape.trans h.tape, k.output.trans h.output, Nat.le_trans h.size k.size, fun i hi => (k.block i (Nat.lt_of_lt_of_le hi h.size)).trans (h.block i hi)⟩
set_option maxRecDepth 100000 in
theorem numberOfC {W : World} {s : ByteArray} (hI : Gl.I W) (hc : s.size ≤ 281474976710656) :
    Calls Tryz.prog 81 #[.string s] W fun e W' => e = .returned (.tuple #[.int .i64 (numOfV s).1, .bool (numOfV s).2]) ∧ Below W.heap.size W W' := by
  cases ha : Lib.atoiAll s.data.toList with
  | ok v =>
    have hv : numOfV s = (v, if itoaG v = s then (if 0 ≤ v then decide (v ≤ 999999) else false) else false) := by unfold numOfV; rw [ha]
    have hr := Lib.atoiAll_bounds ha
    have hbel : ∀ {w1 : World}, (w1 = W ∨ ∃ t, w1 = Lib.bytesWorld W 5 t) → Below W.heap.size W w1 := fun {w1} hw => by
      rcases hw with rfl | ⟨t, rfl⟩
      · exact Below.refl _ _
      · exact Lib.bytesWorld_below _ _ _
    rw [hv]
    by_cases c1 : itoaG v = s
    · rw [if_pos c1]
      have c1' : (⟨(Lib.itoa v).toArray⟩ : ByteArray) = s := c1
      by_cases c2 : 0 ≤ v
      · rw [if_pos c2]
        go_enter Tryz.func81, Tryz.ntmps81
        go_wp2_with (first
      | (go_at_call 67; refine (Tryz.strconv_Atoi_ok s (Nat.le_trans hc (by decide)) v ha W).mono ?_; rintro e w1 ⟨rfl, hw⟩; have hb : Below W.heap.size W w1 := hbel hw; have htab := gl_tab (gl_bel hI hb))
      | (go_at_call 73; refine (Tryz.strconv_Itoa v hr.1 hr.2 w1 htab).mono ?_; rintro e w2 ⟨rfl, k2, os2, hw2⟩; have hb2 : Below w1.heap.size w1 w2 := bel_grow hw2)
      | go_in)
        go_ret2
        exact ⟨rfl, bel_trans hb (hw2 ▸ hb2)⟩
      · rw [if_neg c2]
        go_enter Tryz.func81, Tryz.ntmps81
        go_wp2_with (first
      | (go_at_call 67; refine (Tryz.strconv_Atoi_ok s (Nat.le_trans hc (by decide)) v ha W).mono ?_; rintro e w1 ⟨rfl, hw⟩; have hb : Below W.heap.size W w1 := hbel hw; have htab := gl_tab (gl_bel hI hb))
      | (go_at_call 73; refine (Tryz.strconv_Itoa v hr.1 hr.2 w1 htab).mono ?_; rintro e w2 ⟨rfl, k2, os2, hw2⟩; have hb2 : Below w1.heap.size w1 w2 := bel_grow hw2)
      | go_in)
        all_goals first
          | (exfalso; omega)
          | (go_ret2; exact ⟨rfl, bel_trans hb (hw2 ▸ hb2)⟩)
    · rw [if_neg c1]
      have c1' : (⟨(Lib.itoa v).toArray⟩ : ByteArray) ≠ s := c1
      go_enter Tryz.func81, Tryz.ntmps81
      go_wp2_with (first
      | (go_at_call 67; refine (Tryz.strconv_Atoi_ok s (Nat.le_trans hc (by decide)) v ha W).mono ?_; rintro e w1 ⟨rfl, hw⟩; have hb : Below W.heap.size W w1 := hbel hw; have htab := gl_tab (gl_bel hI hb))
      | (go_at_call 73; refine (Tryz.strconv_Itoa v hr.1 hr.2 w1 htab).mono ?_; rintro e w2 ⟨rfl, k2, os2, hw2⟩; have hb2 : Below w1.heap.size w1 w2 := bel_grow hw2)
      | go_in)
      all_goals first
        | (go_ret2; exact ⟨rfl, bel_trans hb (hw2 ▸ hb2)⟩)
        | exact absurd (itoa_back ‹Lib.itoa v = s.toList›) c1'
  | «syntax» =>
    have hv : numOfV s = (0, false) := by unfold numOfV; rw [ha]
    obtain ⟨ev, g1, g2⟩ := gl_syn hI
    have hat := Tryz.strconv_Atoi_syntax s hc ha ev W g1 g2
    rw [hv]
    go_enter Tryz.func81, Tryz.ntmps81
    go_wp2_with (first
      | (go_at_call 67; refine hat.mono ?_; rintro e w1 ⟨N, rfl, hn1, hn2, hb⟩)
      | go_in)
    go_ret2
    exact ⟨rfl, hb⟩
  | range =>
    have hv : numOfV s = (Lib.atoiSat s.data.toList, false) := by unfold numOfV; rw [ha]
    obtain ⟨ev, g1, g2⟩ := gl_ran hI
    have hat := Tryz.strconv_Atoi_range s hc ha ev W g1 g2
    rw [hv]
    go_enter Tryz.func81, Tryz.ntmps81
    go_wp2_with (first
      | (go_at_call 67; refine hat.mono ?_; rintro e w1 ⟨N, rfl, hn1, hn2, hb⟩)
      | go_in)
    go_ret2
    exact ⟨rfl, hb⟩
theorem i_numberOf_ok : CtrOk Tryz.prog 81 ⟨i_numberOf_sig, i_numberOf_f⟩ := by
  intro w okc args bx x r hI hA hr
  obtain ⟨rfl, fl, h1, h2⟩ := (show bx = none ∧ ∃ fl, flatV [none] args.toList = some fl ∧ F2 (V1 (av w okc)) [PV.str x] fl from hA)
  obtain ⟨p, h3, rfl⟩ := flatV_one h1
  cases h2 with
  | cons hp _ =>
    have hp : p = .string x := hp
    subst hp
    have hx : (if ByteArray.size x ≤ 281474976710656 then some (numOfV x) else none) = some r := hr
    split at hx
    · rename_i hc
      injection hx with hx
      subst hx
      have hargs : args = #[.string x] := by apply Array.ext'; rw [h3]
      rw [hargs]
      refine (numberOfC hI hc).mono ?_
      rintro e w' ⟨rfl, hb⟩
      exact ⟨_, rfl, ⟨[.int .i64 (numOfV x).1, .bool (numOfV x).2], fun _ => False, ⟨_, _, rfl, rfl, _, rfl, rfl⟩, fun i j u u' g hu => by simp [rowsV] at hu, fun k h => h, (fun h => Bool.noConfusion (show (false : Bool) = true from h)), [.int .i64 (numOfV x).1, .bool (numOfV x).2], rfl, rfl⟩, kpB hb⟩
    · cases hx
end FN

