/- Texts of the proof, joined: The functions, their equations and contracts. -/
import Derived.KernelRfl
import Derived.Test.YtlpjnnepjlaclaaGreatDoorProg
import Derived.Lib.AtoiErrMem
import Derived.WalkKit
import Derived.Test.YtlpjnnepjlaclaaGreatDoorS0
set_option linter.unusedVariables false
set_option linter.unusedSimpArgs false
set_option linter.unusedSectionVars false
namespace FN
open Go Go.Proofs
def mkT (n : Nat) (l : List (Nat × PV)) : List PV := (List.range n).map fun i => (l.lookup i).getD .junk
def ckT (t : TypeId) : Option CK := if t = 3 then some .i64 else if t = 5 then some .u8 else if t = 9 then some .str else if t = 27 then some .place else if t = 57 then some .deed else none
/-- One cell, or two error variables and one int: what is asked of the library's variables. -/
instance : Gl := ⟨fun w => (∃ m t fz, w.heap[0]? = some (.cells #[.int .i64 m] t fz)) ∧ (∃ ev t fz, w.heap[1]? = some (.cells #[ev] t fz) ∧ (ev = .nilIface ∨ ∃ te pe, ev = .iface te pe)) ∧ (∃ ev t fz, w.heap[2]? = some (.cells #[ev] t fz) ∧ (ev = .nilIface ∨ ∃ te pe, ev = .iface te pe)), fun _ => True, fun {w w'} g hI hs hk hg => by
  have one : ∀ (k : Nat) (v : Value) (t : TypeId) (fz : Nat × Nat), w.heap[k]? = some (Obj.cells #[v] t fz) → w'.heap[k]? = some (Obj.cells #[v] t fz) := fun k v t fz h1 => by
    by_cases e : g = some k
    · obtain ⟨u, p, t', _, h2⟩ := hg k e
      rw [h1] at h2
      injection h2 with h2
      injection h2 with h2
      have := congrArg Array.size h2
      simp at this
    · exact (hk k (Array.getElem?_eq_some_iff.1 h1).1 e).trans h1
  obtain ⟨⟨m, t, fz, h1⟩, ⟨v, t2, fz2, h2, h3⟩, ⟨v', t4, fz4, h4, h5⟩⟩ := hI
  exact ⟨⟨m, t, fz, one _ _ _ _ h1⟩, ⟨v, t2, fz2, one _ _ _ _ h2, h3⟩, ⟨v', t4, fz4, one _ _ _ _ h4, h5⟩⟩⟩
theorem gl_cell {w : World} (h : Gl.I w) : ∃ m, w.cell? ⟨0, 0, none⟩ = some (.int .i64 m) := by
  obtain ⟨⟨m, t, fz, h1⟩, _⟩ := (show (∃ m t fz, w.heap[0]? = some (.cells #[.int .i64 m] t fz)) ∧ _ from h)
  exact ⟨m, by simp [World.cell?, h1]⟩
theorem gl_syn {w : World} (h : Gl.I w) : ∃ ev, w.cell? ⟨1, 0, none⟩ = some ev ∧ (ev = .nilIface ∨ ∃ te pe, ev = .iface te pe) := by
  obtain ⟨_, ⟨v, t, fz, h1, h2⟩, _⟩ := (show _ ∧ (∃ ev t fz, w.heap[1]? = some (.cells #[ev] t fz) ∧ (ev = .nilIface ∨ ∃ te pe, ev = .iface te pe)) ∧ _ from h)
  exact ⟨v, by simp [World.cell?, h1], h2⟩
theorem gl_ran {w : World} (h : Gl.I w) : ∃ ev, w.cell? ⟨2, 0, none⟩ = some ev ∧ (ev = .nilIface ∨ ∃ te pe, ev = .iface te pe) := by
  obtain ⟨_, _, ⟨v, t, fz, h1, h2⟩⟩ := (show _ ∧ _ ∧ (∃ ev t fz, w.heap[2]? = some (.cells #[ev] t fz) ∧ (ev = .nilIface ∨ ∃ te pe, ev = .iface te pe)) from h)
  exact ⟨v, by simp [World.cell?, h1], h2⟩

theorem follows_ : Tryz.prog.follows .mixedOrders = true := by kernel_rfl
theorem rd_head {x b : List Int} {l ps : List PV} (h : (PV.row false .u8 x :: l) = PV.row false .u8 b :: ps) : x = b := by
  injection h with h _
  injection h
theorem fn_none {P : Program} : ∀ (f : FuncId) (c : Ctr'), (none : Option Ctr') = some c → CtrOk P f c ∧ Entb P f := fun _ _ h => by cases h
theorem fn_cons {P : Program} {f0 : FuncId} {c0 : Ctr'} (h0 : CtrOk P f0 c0 ∧ Entb P f0) {g : FuncId → Option Ctr'} (hg : ∀ f c, g f = some c → CtrOk P f c ∧ Entb P f) : ∀ f c, (if f = f0 then some c0 else g f) = some c → CtrOk P f c ∧ Entb P f := by
  intro f c h
  split at h
  · rename_i e; injection h with h; subst e; subst h; exact h0
  · exact hg f c h
theorem lim_some {α : Type} {g : Nat → Option α} {r : α} (h : lim g = some r) : ∃ n, g n = some r := by
  unfold lim at h
  split at h
  · exact ⟨_, h⟩
  · cases h
theorem lim_of {α : Type} {g : Nat → Option α} {v : α} (h : ∃ n, g n = some v) (u : ∀ n r, g n = some r → r = v) : lim g = some v := by
  obtain ⟨n, hn⟩ := h
  have hx : ∃ n r, g n = some r := ⟨n, v, hn⟩
  obtain ⟨r, hr⟩ := hx.choose_spec
  have : lim g = g hx.choose := dif_pos hx
  rw [this, hr, u _ r hr]
theorem clo_none {P : Program} {E : Env'} (h : E.clo = fun _ _ _ _ _ => none := by rfl) : CloOk P E := by
  intro f ps hp h' pin base w ρ args hc
  rw [h] at hc
  cases hc
def str0 : ByteArray := ⟨#[106, 111, 105, 110, 32]⟩
def str1 : ByteArray := ⟨#[32]⟩
def str2 : ByteArray := ⟨#[108, 105, 103, 104, 116, 32]⟩
def str3 : ByteArray := ⟨#[107, 105, 110, 100, 115, 32]⟩
def str4 : ByteArray := ⟨#[115, 116, 101, 112]⟩
def str5 : ByteArray := ⟨#[98, 97, 99, 107]⟩
def str6 : ByteArray := ⟨#[48, 49, 50, 51, 52, 53, 54, 55, 56, 57, 97, 98, 99, 100, 101, 102, 103, 104, 105, 106, 107, 108, 109, 110, 111, 112, 113, 114, 115, 116, 117, 118, 119, 120, 121, 122]⟩
def str7 : ByteArray := ⟨#[48, 48, 48, 49, 48, 50, 48, 51, 48, 52, 48, 53, 48, 54, 48, 55, 48, 56, 48, 57, 49, 48, 49, 49, 49, 50, 49, 51, 49, 52, 49, 53, 49, 54, 49, 55, 49, 56, 49, 57, 50, 48, 50, 49, 50, 50, 50, 51, 50, 52, 50, 53, 50, 54, 50, 55, 50, 56, 50, 57, 51, 48, 51, 49, 51, 50, 51, 51, 51, 52, 51, 53, 51, 54, 51, 55, 51, 56, 51, 57, 52, 48, 52, 49, 52, 50, 52, 51, 52, 52, 52, 53, 52, 54, 52, 55, 52, 56, 52, 57, 53, 48, 53, 49, 53, 50, 53, 51, 53, 52, 53, 53, 53, 54, 53, 55, 53, 56, 53, 57, 54, 48, 54, 49, 54, 50, 54, 51, 54, 52, 54, 53, 54, 54, 54, 55, 54, 56, 54, 57, 55, 48, 55, 49, 55, 50, 55, 51, 55, 52, 55, 53, 55, 54, 55, 55, 55, 56, 55, 57, 56, 48, 56, 49, 56, 50, 56, 51, 56, 52, 56, 53, 56, 54, 56, 55, 56, 56, 56, 57, 57, 48, 57, 49, 57, 50, 57, 51, 57, 52, 57, 53, 57, 54, 57, 55, 57, 56, 57, 57]⟩
def str8 : ByteArray := ⟨#[0, 1, 2, 2, 3, 3, 3, 3, 4, 4, 4, 4, 4, 4, 4, 4, 5, 5, 5, 5, 5, 5, 5, 5, 5, 5, 5, 5, 5, 5, 5, 5, 6, 6, 6, 6, 6, 6, 6, 6, 6, 6, 6, 6, 6, 6, 6, 6, 6, 6, 6, 6, 6, 6, 6, 6, 6, 6, 6, 6, 6, 6, 6, 6, 7, 7, 7, 7, 7, 7, 7, 7, 7, 7, 7, 7, 7, 7, 7, 7, 7, 7, 7, 7, 7, 7, 7, 7, 7, 7, 7, 7, 7, 7, 7, 7, 7, 7, 7, 7, 7, 7, 7, 7, 7, 7, 7, 7, 7, 7, 7, 7, 7, 7, 7, 7, 7, 7, 7, 7, 7, 7, 7, 7, 7, 7, 7, 7, 8, 8, 8, 8, 8, 8, 8, 8, 8, 8, 8, 8, 8, 8, 8, 8, 8, 8, 8, 8, 8, 8, 8, 8, 8, 8, 8, 8, 8, 8, 8, 8, 8, 8, 8, 8, 8, 8, 8, 8, 8, 8, 8, 8, 8, 8, 8, 8, 8, 8, 8, 8, 8, 8, 8, 8, 8, 8, 8, 8, 8, 8, 8, 8, 8, 8, 8, 8, 8, 8, 8, 8, 8, 8, 8, 8, 8, 8, 8, 8, 8, 8, 8, 8, 8, 8, 8, 8, 8, 8, 8, 8, 8, 8, 8, 8, 8, 8, 8, 8, 8, 8, 8, 8, 8, 8, 8, 8, 8, 8, 8, 8, 8, 8, 8, 8, 8, 8, 8, 8, 8, 8, 8, 8, 8, 8, 8, 8]⟩
def str9 : ByteArray := ⟨#[115, 116, 114, 99, 111, 110, 118, 58, 32, 105, 108, 108, 101, 103, 97, 108, 32, 65, 112, 112, 101, 110, 100, 73, 110, 116, 47, 70, 111, 114, 109, 97, 116, 73, 110, 116, 32, 98, 97, 115, 101]⟩
def str10 : ByteArray := ⟨#[106, 111, 105, 110]⟩
def str11 : ByteArray := ⟨#[108, 105, 103, 104, 116]⟩
def str12 : ByteArray := ⟨#[107, 105, 110, 100, 115]⟩
def str13 : ByteArray := ⟨#[10]⟩
def str14 : ByteArray := ⟨#[44]⟩
def str15 : ByteArray := ⟨#[46]⟩
end FN
set_option linter.unusedVariables false
namespace FN
open Go Go.Proofs
/-! loop.example/firingnets/spec.l1In -/
@[reducible] def s_l1In_sig : Sig := { ps := [none, none, none], pc := [.int .i64, .int .i64, .int .i64], rs := [none], rc := [.bool] }
noncomputable def s_l1In_E : Env' := { fn := fun f => none, ck := ckT, cuts := [], mine := fun i => false }
noncomputable def s_l1In_f (x : Ts s_l1In_sig.pc) : Option (Ts s_l1In_sig.rc) := runFn Tryz.prog (s_l1In_E) Tryz.f23 s_l1In_sig x
theorem s_l1In_f_eq (x0 : (Int)) (x1 : (Int)) (x2 : (Int)) : s_l1In_f (x0, x1, x2) = (cond ((decide (x1 ≤ x0))) (some (decide (x0 ≤ x2))) (some false)) := by
  kernel_rfl
theorem s_l1In_ent : Entb Tryz.prog 23 := ⟨Tryz.f23, by kernel_rfl, by kernel_rfl, by kernel_rfl⟩
theorem s_l1In_ok : CtrOk Tryz.prog 23 ⟨s_l1In_sig, s_l1In_f⟩ :=
  ctr_of (fn := Tryz.f23) (by kernel_rfl) (by kernel_rfl) (fun x : Ts s_l1In_sig.pc => s_l1In_E) (fun x => ⟨fn_none, clo_none, wr_none⟩) (fun h => by cases h) follows_ (fun _ _ => trivial)
end FN
/-! strconv.Itoa, at 0 .. 99: the shelf's contract, as one of ours. -/
namespace FN
open Go Go.Proofs
theorem flatV_one {l fl : List Value} (h : flatV [none] l = some fl) : ∃ p, l = [p] ∧ fl = [p] := by
  cases l with
  | nil => simp [flatV] at h
  | cons p ps =>
    cases ps with
    | nil => exact ⟨p, rfl, by simpa [flatV] using h.symm⟩
    | cons q ps => simp [flatV] at h
@[reducible] def x_strconv_Itoa_sig : Sig := { ps := [none], pc := [.int .i64], rs := [none], rc := [.str] }
def itoaS (n : Int) : ByteArray := ⟨(Lib.decDigits n.toNat).toArray⟩
def x_strconv_Itoa_f (n : Ts x_strconv_Itoa_sig.pc) : Option (Ts x_strconv_Itoa_sig.rc) := if (0 : Int) ≤ n ∧ (n : Int) < 100 then some (itoaS n) else none
theorem x_strconv_Itoa_f_eq (n : Int) : x_strconv_Itoa_f n = if (0 : Int) ≤ n ∧ (n : Int) < 100 then some (itoaS n) else none := rfl
theorem x_strconv_Itoa_ent : Entb Tryz.prog 52 := ⟨Tryz.f52, by kernel_rfl, by kernel_rfl, by kernel_rfl⟩
theorem x_strconv_Itoa_ok : CtrOk Tryz.prog 52 ⟨x_strconv_Itoa_sig, x_strconv_Itoa_f⟩ := by
  intro w okc args bx x r hI hA hr
  obtain ⟨rfl, fl, h1, h2⟩ := (show bx = none ∧ ∃ fl, flatV [none] args.toList = some fl ∧ F2 (V1 (av w okc)) [PV.int .i64 x] fl from hA)
  obtain ⟨p, h3, rfl⟩ := flatV_one h1
  cases h2 with
  | cons hp _ =>
    have hp : p = .int .i64 x := hp
    subst hp
    have hx : (if (0 : Int) ≤ x ∧ (x : Int) < 100 then some (itoaS x) else none) = some r := hr
    split at hx
    · rename_i hc
      injection hx with hx
      subst hx
      have hargs : args = #[.int .i64 ((x : Int).toNat : Int)] := by
        apply Array.ext'
        rw [h3, Int.toNat_of_nonneg hc.1]
      rw [hargs]
      refine (Tryz.strconv_Itoa_small (x : Int).toNat (by have h5 : (0 : Int) ≤ x := hc.1; have h6 : (x : Int) < 100 := hc.2; exact (Int.toNat_lt h5).2 h6) w).mono ?_
      rintro e w' ⟨rfl, rfl⟩
      exact ⟨_, rfl, ⟨[.string (itoaS x)], fun _ => False, fun _ _ => False, HidI.none, ⟨_, rfl, rfl⟩, fun i j u u' g hu => by simp [rowsV] at hu, fun k h => h, (fun h => Bool.noConfusion (show (false : Bool) = true from h)), [.string (itoaS x)], rfl, rfl⟩, Kp.refl _ _ _⟩
    · cases hx
end FN
set_option linter.unusedVariables false
namespace FN
open Go Go.Proofs
/-! loop.example/firingnets/spec.l1Number -/
@[reducible] def s_l1Number_sig : Sig := { ps := [none], pc := [.int .i64], rs := [none], rc := [.str] }
noncomputable def s_l1Number_E (g : Ts s_l1Number_sig.pc → Option (Ts s_l1Number_sig.rc)) : Env' := { fn := fun f => if f = 37 then some ⟨s_l1Number_sig, g⟩ else none, ck := ckT, cuts := [], mine := fun i => false }
noncomputable def s_l1Number_g (n : Nat) : Ts s_l1Number_sig.pc → Option (Ts s_l1Number_sig.rc) := Nat.rec (fun _ => none) (fun _ ih x => runFn Tryz.prog (s_l1Number_E ih) Tryz.f37 s_l1Number_sig x) n
theorem s_l1Number_g_eq (n : Nat) (x0 : (Int)) : s_l1Number_g (n + 1) x0 = (cond ((decide (x0 < 10))) (some (strOfNums ([(IntKind.u8.wrap (IntKind.i64.wrap (48 + (if 0 > x0 then 0 else x0))))] : List (Int)))) (Option.bind (s_l1Number_g n (IntKind.i64.wrap (Int.tdiv x0 10))) fun r1 => (if ByteArray.size r1 + ByteArray.size (strOfNums ([(IntKind.u8.wrap (IntKind.i64.wrap (48 + (Int.tmod x0 10))))] : List (Int))) ≤ 9223372036854775807 then (some (r1 ++ (strOfNums ([(IntKind.u8.wrap (IntKind.i64.wrap (48 + (Int.tmod x0 10))))] : List (Int))))) else none))) := by
  refine Eq.trans (b := (cond ((decide (x0 < 10))) (some (strOfNums ([(IntKind.u8.wrap (IntKind.i64.wrap (48 + (if 0 > x0 then 0 else x0))))] : List (Int)))) (same [(Option.bind (s_l1Number_g n (IntKind.i64.wrap (Int.tdiv x0 10))) fun r1 => (if ByteArray.size r1 + ByteArray.size (strOfNums ([(IntKind.u8.wrap (IntKind.i64.wrap (48 + (Int.tmod x0 10))))] : List (Int))) ≤ 9223372036854775807 then (some (r1 ++ (strOfNums ([(IntKind.u8.wrap (IntKind.i64.wrap (48 + (Int.tmod x0 10))))] : List (Int))))) else none)), (same [(Option.bind (s_l1Number_g n (IntKind.i64.wrap (Int.tdiv x0 10))) fun r1 => (if ByteArray.size r1 + ByteArray.size (strOfNums ([(IntKind.u8.wrap (IntKind.i64.wrap (48 + (Int.tmod x0 10))))] : List (Int))) ≤ 9223372036854775807 then (some (r1 ++ (strOfNums ([(IntKind.u8.wrap (IntKind.i64.wrap (48 + (Int.tmod x0 10))))] : List (Int))))) else none)), (Option.bind (s_l1Number_g n (IntKind.i64.wrap (Int.tdiv x0 10))) fun r1 => (if ByteArray.size r1 + ByteArray.size (strOfNums ([(IntKind.u8.wrap (IntKind.i64.wrap (48 + (Int.tmod x0 10))))] : List (Int))) ≤ 9223372036854775807 then (some (r1 ++ (strOfNums ([(IntKind.u8.wrap (IntKind.i64.wrap (48 + (Int.tmod x0 10))))] : List (Int))))) else none))])]))) (by kernel_rfl) ?_
  simp only [same2, same3, same4, same5, same6, obind_ite]
noncomputable def s_l1Number_f (x : Ts s_l1Number_sig.pc) : Option (Ts s_l1Number_sig.rc) := lim fun n => s_l1Number_g n x
theorem s_l1Number_ent : Entb Tryz.prog 37 := ⟨Tryz.f37, by kernel_rfl, by kernel_rfl, by kernel_rfl⟩
theorem s_l1Number_gok : ∀ n, CtrOk Tryz.prog 37 ⟨s_l1Number_sig, s_l1Number_g n⟩
  | 0 => fun _ _ _ _ _ _ _ _ h => by cases h
  | n + 1 => ctr_of (fn := Tryz.f37) (by kernel_rfl) (by kernel_rfl) (fun _ : Ts s_l1Number_sig.pc => s_l1Number_E (s_l1Number_g n)) (fun _ => ⟨(fn_cons ⟨s_l1Number_gok n, s_l1Number_ent⟩ fn_none), clo_none, wr_none⟩) (fun h => by cases h) follows_ (fun _ _ => trivial)
theorem s_l1Number_ok : CtrOk Tryz.prog 37 ⟨s_l1Number_sig, s_l1Number_f⟩ := fun w okc args bx x r hI hA hr => by
  obtain ⟨n, hn⟩ := lim_some (g := fun n => s_l1Number_g n x) hr
  exact s_l1Number_gok n w okc args bx x r hI hA hn
end FN
set_option linter.unusedVariables false
namespace FN
open Go Go.Proofs
/-! loop.example/firingnets/spec.DeedText -/
@[reducible] def s_DeedText_sig : Sig := { ps := [some 3], pc := [.int .i64, .int .i64, .int .i64], rs := [none], rc := [.str] }
noncomputable def s_DeedText_E : Env' := { fn := fun f => if f = 23 then some ⟨s_l1In_sig, s_l1In_f⟩ else if f = 37 then some ⟨s_l1Number_sig, s_l1Number_f⟩ else none, ck := ckT, cuts := [], mine := fun i => false }
noncomputable def s_DeedText_f (x : Ts s_DeedText_sig.pc) : Option (Ts s_DeedText_sig.rc) := runFn Tryz.prog (s_DeedText_E) Tryz.f38 s_DeedText_sig x
theorem s_DeedText_f_eq (x0 : (Int)) (x1 : (Int)) (x2 : (Int)) : s_DeedText_f (x0, x1, x2) = (Option.bind (s_l1In_f (x1, 0, 99)) fun r1 => (cond ((!r1)) (some ByteArray.empty) (Option.bind (s_l1In_f (x2, 0, 99)) fun r2 => (cond ((!r2)) (some ByteArray.empty) (cond (((x0 == 0) && ((x1 == x1) && ((x2 == x2) && true)))) (Option.bind (s_l1Number_f x1) fun r3 => (if ByteArray.size str0 + ByteArray.size r3 ≤ 9223372036854775807 then (if ByteArray.size (str0 ++ r3) + ByteArray.size str1 ≤ 9223372036854775807 then (Option.bind (s_l1Number_f x2) fun r4 => (if ByteArray.size ((str0 ++ r3) ++ str1) + ByteArray.size r4 ≤ 9223372036854775807 then (some (((str0 ++ r3) ++ str1) ++ r4)) else none)) else none) else none)) (cond (((x0 == 1) && ((x1 == x1) && ((x2 == 0) && true)))) (Option.bind (s_l1Number_f x1) fun r5 => (if ByteArray.size str2 + ByteArray.size r5 ≤ 9223372036854775807 then (some (str2 ++ r5)) else none)) (cond (((x0 == 3) && ((x1 == x1) && ((x2 == 0) && true)))) (Option.bind (s_l1Number_f x1) fun r6 => (if ByteArray.size str3 + ByteArray.size r6 ≤ 9223372036854775807 then (some (str3 ++ r6)) else none)) (cond (((x0 == 2) && ((x1 == 0) && ((x2 == 0) && true)))) (some str4) (cond (((x0 == 4) && ((x1 == 0) && ((x2 == 0) && true)))) (some str5) (some ByteArray.empty)))))))))) := by
  kernel_rfl
theorem s_DeedText_ent : Entb Tryz.prog 38 := ⟨Tryz.f38, by kernel_rfl, by kernel_rfl, by kernel_rfl⟩
theorem s_DeedText_ok : CtrOk Tryz.prog 38 ⟨s_DeedText_sig, s_DeedText_f⟩ :=
  ctr_of (fn := Tryz.f38) (by kernel_rfl) (by kernel_rfl) (fun x : Ts s_DeedText_sig.pc => s_DeedText_E) (fun x => ⟨(fn_cons ⟨s_l1In_ok, s_l1In_ent⟩ (fn_cons ⟨s_l1Number_ok, s_l1Number_ent⟩ fn_none)), clo_none, wr_none⟩) (fun h => by cases h) follows_ (fun _ _ => trivial)
end FN
set_option linter.unusedVariables false
namespace FN
open Go Go.Proofs
/-! loop.example/firingnets/impl.DeedText -/
@[reducible] def i_DeedText_sig : Sig := { ps := [some 3], pc := [.int .i64, .int .i64, .int .i64], rs := [none], rc := [.str] }
noncomputable def i_DeedText_E : Env' := { fn := fun f => if f = 52 then some ⟨x_strconv_Itoa_sig, x_strconv_Itoa_f⟩ else none, ck := ckT, cuts := [], mine := fun i => false }
noncomputable def i_DeedText_f (x : Ts i_DeedText_sig.pc) : Option (Ts i_DeedText_sig.rc) := runFn Tryz.prog (i_DeedText_E) Tryz.f57 i_DeedText_sig x
theorem i_DeedText_f_eq (x0 : (Int)) (x1 : (Int)) (x2 : (Int)) : i_DeedText_f (x0, x1, x2) = (cond ((decide (x1 < 0))) (some ByteArray.empty) (cond ((decide (99 < x1))) (some ByteArray.empty) (cond ((decide (x2 < 0))) (some ByteArray.empty) (cond ((decide (99 < x2))) (some ByteArray.empty) (Option.bind (x_strconv_Itoa_f x1) fun r1 => (if ByteArray.size str1 + ByteArray.size r1 ≤ 9223372036854775807 then (cond ((x0 == 0)) (if ByteArray.size str10 + ByteArray.size (str1 ++ r1) ≤ 9223372036854775807 then (if ByteArray.size (str10 ++ (str1 ++ r1)) + ByteArray.size str1 ≤ 9223372036854775807 then (Option.bind (x_strconv_Itoa_f x2) fun r2 => (if ByteArray.size ((str10 ++ (str1 ++ r1)) ++ str1) + ByteArray.size r2 ≤ 9223372036854775807 then (some (((str10 ++ (str1 ++ r1)) ++ str1) ++ r2)) else none)) else none) else none) (cond ((x2 != 0)) (some ByteArray.empty) (cond ((x0 == 1)) (if ByteArray.size str11 + ByteArray.size (str1 ++ r1) ≤ 9223372036854775807 then (some (str11 ++ (str1 ++ r1))) else none) (cond ((x0 == 3)) (if ByteArray.size str12 + ByteArray.size (str1 ++ r1) ≤ 9223372036854775807 then (some (str12 ++ (str1 ++ r1))) else none) (cond ((x1 != 0)) (some ByteArray.empty) (cond ((x0 == 2)) (some str4) (cond ((x0 == 4)) (some str5) (some ByteArray.empty)))))))) else none)))))) := by
  kernel_rfl
theorem i_DeedText_ent : Entb Tryz.prog 57 := ⟨Tryz.f57, by kernel_rfl, by kernel_rfl, by kernel_rfl⟩
theorem i_DeedText_ok : CtrOk Tryz.prog 57 ⟨i_DeedText_sig, i_DeedText_f⟩ :=
  ctr_of (fn := Tryz.f57) (by kernel_rfl) (by kernel_rfl) (fun x : Ts i_DeedText_sig.pc => i_DeedText_E) (fun x => ⟨(fn_cons ⟨x_strconv_Itoa_ok, x_strconv_Itoa_ent⟩ fn_none), clo_none, wr_none⟩) (fun h => by cases h) follows_ (fun _ _ => trivial)
end FN
/-! strings.Join: the shelf's contract, as one of ours. -/
namespace FN
open Go Go.Proofs Go.RowKit
theorem flatV_two {l fl : List Value} (h : flatV [none, none] l = some fl) : ∃ p q, l = [p, q] ∧ fl = [p, q] := by
  cases l with
  | nil => simp [flatV] at h
  | cons p ps =>
    simp only [flatV] at h
    obtain ⟨fl', h1, h2⟩ := Option.map_eq_some_iff.1 h
    obtain ⟨q, rfl, rfl⟩ := flatV_one h1
    exact ⟨p, q, rfl, h2.symm⟩
@[reducible] def x_strings_Join_sig : Sig := { ps := [none, none], pc := [.view .str, .str], rs := [none], rc := [.str] }
def joinS (xs : List ByteArray) (sep : ByteArray) : ByteArray := ⟨(Lib.join (xs.map (·.data.toList)) sep.data.toList).toArray⟩
def x_strings_Join_f (x : Ts x_strings_Join_sig.pc) : Option (Ts x_strings_Join_sig.rc) := if x.1.length ≤ 140737488355328 ∧ (joinS x.1 x.2).size ≤ 140737488355328 then some (joinS x.1 x.2) else none
theorem x_strings_Join_f_eq (xs : List ByteArray) (sep : ByteArray) : x_strings_Join_f (xs, sep) = if xs.length ≤ 140737488355328 ∧ (joinS xs sep).size ≤ 140737488355328 then some (joinS xs sep) else none := rfl
theorem x_strings_Join_ent : Entb Tryz.prog 53 := ⟨Tryz.f53, by kernel_rfl, by kernel_rfl, by kernel_rfl⟩
theorem kp_below {pin : Pn} {w w' : World} (h : Below w.heap.size w w') : Kp pin w.heap.size w w' := ⟨h.os, h.tape, h.output, h.size, fun k hk _ => h.block k hk⟩
theorem x_strings_Join_ok : CtrOk Tryz.prog 53 ⟨x_strings_Join_sig, x_strings_Join_f⟩ := by
  intro w okc args bx x r hI hA hr
  obtain ⟨rfl, fl, h1, h2⟩ := (show bx = none ∧ ∃ fl, flatV [none, none] args.toList = some fl ∧ F2 (V1 (av w okc)) [PV.row false .str x.1, PV.str x.2] fl from hA)
  obtain ⟨p, q, h3, rfl⟩ := flatV_two h1
  have hx : (if x.1.length ≤ 140737488355328 ∧ (joinS x.1 x.2).size ≤ 140737488355328 then some (joinS x.1 x.2) else none) = some r := hr
  split at hx
  · rename_i hc
    injection hx with hx
    subst hx
    cases h2 with
    | cons hp h2 => cases h2 with
      | cons hq _ =>
        have hq : q = .string x.2 := hq
        subst hq
        obtain ⟨A, cp, rfl, hle, hmx, hne⟩ := (show SlR w ((av w okc).okf false) .str x.1 p from hp)
        have hargs : args = #[.slice A x.1.length cp, .string x.2] := by apply Array.ext'; rw [h3]
        have fin : ∀ w', Below w.heap.size w w' → ∃ v, (Ending.returned (.string (joinS x.1 x.2)) : Ending) = .returned v ∧ RetR x_strings_Join_sig w w' okc none (joinS x.1 x.2) v ∧ Kp ⟨fun k => ∃ b, (none : Option (Nat × List Int)) = some (k, b), fun _ => True⟩ w.heap.size w w' := fun w' hb =>
          ⟨_, rfl, ⟨[.string (joinS x.1 x.2)], fun _ => False, fun _ _ => False, HidI.none, ⟨_, rfl, rfl⟩, fun i j u u' g hu => by simp [rowsV] at hu, fun k h => h, (fun h => Bool.noConfusion (show (false : Bool) = true from h)), [.string (joinS x.1 x.2)], rfl, rfl⟩, kp_below hb⟩
        by_cases h0 : x.1 = []
        · have hz : x.1.length = 0 := by rw [h0]; rfl
          have hj : joinS x.1 x.2 = ⟨#[]⟩ := by rw [h0]; rfl
          rw [hargs, hz]
          refine (Tryz.strings_Join_none A cp x.2 w).mono ?_
          rintro e w' ⟨rfl, rfl⟩
          have := fin w' (Below.refl _ _)
          rw [hj] at this ⊢
          exact this
        · obtain ⟨ad, rfl, _, hlt, hcell⟩ := hne h0
          have hs : ad.spot = none := by
            have hpos : 0 < x.1.length := List.length_pos_iff.2 h0
            obtain ⟨cs, e1, e2⟩ := hcell 0 _ (List.getElem?_eq_getElem hpos)
            have e1 : cs = [.string (x.1[0])] := e1
            have := e2 0 (.string (x.1[0])) (by rw [e1]; rfl)
            have h5 : w.cell? ad = some (.string (x.1[0])) := this
            unfold World.cell? at h5
            split at h5
            · split at h5
              · cases h5
              · rename_i hh; simpa using hh
            · cases h5
          obtain ⟨bk, o, sp⟩ := ad
          simp only at hs
          subst hs
          rw [hargs]
          refine (Tryz.strings_Join bk o cp x.1 x.2 w (fun j y hy => ?_) hlt hc.1 hle (by simpa [joinS, ByteArray.size] using hc.2)).mono ?_
          · obtain ⟨cs, e1, e2⟩ := hcell j y hy
            have e1 : cs = [.string y] := e1
            have := e2 0 (.string y) (by rw [e1]; rfl)
            have h6 : w.cell? ((⟨bk, o, none⟩ : Addr).add (j * 1 + 0)) = some (.string y) := this
            rw [Nat.mul_one, Nat.add_zero, show (⟨bk, o, none⟩ : Addr).add j = ⟨bk, o + j, none⟩ by unfold Addr.add; split <;> simp_all] at h6
            exact h6
          · rintro e w' ⟨rfl, hb⟩
            exact fin w' hb
  · cases hx
end FN
namespace FN
open Go Go.Proofs Go.RowKit
def splitS (s sep : ByteArray) : List ByteArray := Lib.splitB sep 0 (Lib.countB s sep) s
@[reducible] def x_strings_Split_sig : Sig := { ps := [none, none], pc := [.str, .str], rs := [none], rc := [.row 9 .str] }
def x_strings_Split_f (x : Ts x_strings_Split_sig.pc) : Option (Ts x_strings_Split_sig.rc) := if x.1.size < 4294967281 ∧ 1 ≤ x.2.size ∧ Lib.countB x.1 x.2 + 1 = (splitS x.1 x.2).length ∧ (splitS x.1 x.2).length ≤ maxLen then some (splitS x.1 x.2) else none
theorem x_strings_Split_ent : Entb Tryz.prog 42 := ⟨Tryz.f42, by kernel_rfl, by kernel_rfl, by kernel_rfl⟩
theorem split_ok (hG : ∀ w, Gl.I w → ∃ m, w.cell? ⟨0, 0, none⟩ = some (.int .i64 m)) : CtrOk Tryz.prog 42 ⟨x_strings_Split_sig, x_strings_Split_f⟩ := by
  intro w okc args bx x r hI hA hr
  obtain ⟨rfl, fl, h1, h2⟩ := (show bx = none ∧ ∃ fl, flatV [none, none] args.toList = some fl ∧ F2 (V1 (av w okc)) [PV.str x.1, PV.str x.2] fl from hA)
  obtain ⟨p, q, h3, rfl⟩ := flatV_two h1
  have hx : (if x.1.size < 4294967281 ∧ 1 ≤ x.2.size ∧ Lib.countB x.1 x.2 + 1 = (splitS x.1 x.2).length ∧ (splitS x.1 x.2).length ≤ maxLen then some (splitS x.1 x.2) else none) = some r := hr
  obtain ⟨m, hm⟩ := hG w hI
  split at hx
  · rename_i hc
    obtain ⟨c1, c2, c3, c4⟩ := hc
    injection hx with hx
    subst hx
    cases h2 with
    | cons hp h2 => cases h2 with
      | cons hq _ =>
        have hp : p = .string x.1 := hp
        have hq : q = .string x.2 := hq
        subst hp; subst hq
        have hargs : args = #[.string x.1, .string x.2] := by apply Array.ext'; rw [h3]
        rw [hargs]
        refine (Tryz.strings_Split x.1 x.2 m w c1 hm c2).mono ?_
        rintro e w' ⟨rfl, rfl⟩
        rw [c3]
        refine ⟨_, rfl, ⟨[.slice (some ⟨w.heap.size, 0, none⟩) (splitS x.1 x.2).length (splitS x.1 x.2).length], fun _ => False, fun _ _ => False, HidI.none, ⟨_, rfl, ((splitS x.1 x.2).map Value.string), ⟨by simp [CK.sz], .inr ⟨w.heap.size, _, _, rfl, Nat.le_refl _, heap_alloc_new w _, Nat.le_refl _, c4, by simp [CK.sz, splitS], by simp only [CK.sz, Nat.mul_one, splitS]; exact List.take_of_length_le (by simp)⟩⟩, fun j y hj => ?_⟩, fun i j u u' g hu hu' _ _ => ?_, fun k h => h, (fun h => Bool.noConfusion (show (false : Bool) = true from h)), [.slice (some ⟨w.heap.size, 0, none⟩) (splitS x.1 x.2).length (splitS x.1 x.2).length], rfl, rfl⟩, Kp.alloc _ (Nat.le_refl _)⟩
        · refine ⟨[.string y], rfl, fun i u hi => ?_⟩
          cases i with
          | zero => simp at hi; subst hi; simp [CK.sz, hj]
          | succ i => simp at hi
        · cases i with
          | zero => cases j with
            | zero => rfl
            | succ j => simp [rowsV] at hu'
          | succ i => simp [rowsV] at hu
  · cases hx
theorem x_strings_Split_ok : CtrOk Tryz.prog 42 ⟨x_strings_Split_sig, x_strings_Split_f⟩ := split_ok fun _ h => gl_cell h
end FN
set_option linter.unusedVariables false
namespace FN
open Go Go.Proofs
/-! loop.example/firingnets/spec.l1Cut -/
@[reducible] def s_l1Cut_sig : Sig := { ps := [none, none], pc := [.str, .int .u8], rs := [none], rc := [.row 9 .str] }
noncomputable def s_l1Cut_E : Env' := { fn := fun f => none, ck := ckT, cuts := [(4, [0, 1, 5, 6, 7]), (9, [0, 5, 6])], mine := fun i => false }
noncomputable def s_l1Cut_f (x : Ts s_l1Cut_sig.pc) : Option (Ts s_l1Cut_sig.rc) := runFn Tryz.prog (s_l1Cut_E) Tryz.f24 s_l1Cut_sig x
noncomputable def s_l1Cut_l0 (y0 : ByteArray) (y1 : Int) (y2 : Int) (y3 : Int) (y4 : List (ByteArray)) : Option ((List (ByteArray))) := from_ Tryz.prog (s_l1Cut_E) Tryz.f24 s_l1Cut_sig [1, 1, 1, 0, 1, 0] ⟨mkT 35 [(0, .str y0), (1, .int .u8 y1), (5, .own 0), (6, .int .i64 y2), (7, .int .i64 y3)], [some (.arr 9 true .str y4)]⟩
noncomputable def s_l1Cut_j1 (y0 : ByteArray) (y1 : Int) (y2 : List (ByteArray)) : Option ((List (ByteArray))) := from_ Tryz.prog (s_l1Cut_E) Tryz.f24 s_l1Cut_sig [1, 1, 1, 1] ⟨mkT 35 [(0, .str y0), (5, .own 0), (6, .int .i64 y1)], [some (.arr 9 true .str y2)]⟩
theorem s_l1Cut_f_eq (x0 : (ByteArray)) (x1 : (Int)) : s_l1Cut_f (x0, x1) = (s_l1Cut_l0 x0 x1 0 0 ([] : List (ByteArray))) := by
  kernel_rfl
theorem s_l1Cut_l0_eq (y0 : ByteArray) (y1 : Int) (y2 : Int) (y3 : Int) (y4 : List (ByteArray)) : s_l1Cut_l0 y0 y1 y2 y3 y4 = (cond ((decide (y3 < (ByteArray.size y0 : Int)))) (if (0 : Int) ≤ y3 ∧ y3 < (ByteArray.size y0 : Int) then (cond ((((List.getD (ByteArray.data y0).toList (y3 : Int).toNat 0).toNat : Int) == y1)) (if (0 : Int) ≤ y3 ∧ y3 ≤ (ByteArray.size y0 : Int) then (if (0 : Int) ≤ y2 ∧ y2 ≤ y3 then (if (List.length y4 + List.length ([(ByteArray.extract y0 (y2 : Int).toNat (y3 : Int).toNat)] : List (ByteArray))) * 16 ≤ 140737488355328 then (s_l1Cut_l0 y0 y1 (IntKind.i64.wrap (y3 + 1)) (IntKind.i64.wrap (y3 + 1)) (y4 ++ ([(ByteArray.extract y0 (y2 : Int).toNat (y3 : Int).toNat)] : List (ByteArray)))) else none) else none) else none) (s_l1Cut_l0 y0 y1 y2 (IntKind.i64.wrap (y3 + 1)) y4)) else none) (s_l1Cut_j1 y0 y2 y4)) := by
  refine (loopK_eq Tryz.prog (s_l1Cut_E) (sub (Tryz.f24.body.getD .skip) [1, 1, 1, 0, 1, 0, 0]) _ _).trans ?_
  kernel_rfl
theorem s_l1Cut_j1_eq (y0 : ByteArray) (y1 : Int) (y2 : List (ByteArray)) : s_l1Cut_j1 y0 y1 y2 = (if (0 : Int) ≤ y1 ∧ y1 ≤ (ByteArray.size y0 : Int) then (if (List.length y2 + List.length ([(ByteArray.extract y0 (y1 : Int).toNat (ByteArray.size y0))] : List (ByteArray))) * 16 ≤ 140737488355328 then (some (y2 ++ ([(ByteArray.extract y0 (y1 : Int).toNat (ByteArray.size y0))] : List (ByteArray)))) else none) else none) := by
  kernel_rfl
theorem s_l1Cut_ent : Entb Tryz.prog 24 := ⟨Tryz.f24, by kernel_rfl, by kernel_rfl, by kernel_rfl⟩
theorem s_l1Cut_ok : CtrOk Tryz.prog 24 ⟨s_l1Cut_sig, s_l1Cut_f⟩ :=
  ctr_of (fn := Tryz.f24) (by kernel_rfl) (by kernel_rfl) (fun x : Ts s_l1Cut_sig.pc => s_l1Cut_E) (fun x => ⟨fn_none, clo_none, wr_none⟩) (fun h => by cases h) follows_ (fun _ _ => trivial)
end FN
set_option linter.unusedVariables false
namespace FN
open Go Go.Proofs
/-! loop.example/firingnets/spec.l1Digits -/
@[reducible] def s_l1Digits_sig : Sig := { ps := [none], pc := [.str], rs := [none], rc := [.int .i64] }
noncomputable def s_l1Digits_E : Env' := { fn := fun f => if f = 23 then some ⟨s_l1In_sig, s_l1In_f⟩ else none, ck := ckT, cuts := [(5, [0, 3, 4])], mine := fun i => false }
noncomputable def s_l1Digits_f (x : Ts s_l1Digits_sig.pc) : Option (Ts s_l1Digits_sig.rc) := runFn Tryz.prog (s_l1Digits_E) Tryz.f25 s_l1Digits_sig x
noncomputable def s_l1Digits_l0 (y0 : ByteArray) (y1 : Int) (y2 : Int) : Option ((Int)) := from_ Tryz.prog (s_l1Digits_E) Tryz.f25 s_l1Digits_sig [1, 1, 1, 0, 1, 0] ⟨mkT 44 [(0, .str y0), (3, .int .i64 y1), (4, .int .i64 y2)], []⟩
theorem s_l1Digits_f_eq (x0 : (ByteArray)) : s_l1Digits_f x0 = (Option.bind (s_l1In_f ((ByteArray.size x0 : Int), 1, 6)) fun r1 => (cond ((!r1)) (some (-1)) (cond ((decide (1 < (ByteArray.size x0 : Int)))) (if (0 : Int) ≤ 0 ∧ 0 < (ByteArray.size x0 : Int) then (cond ((((List.getD (ByteArray.data x0).toList (0 : Int).toNat 0).toNat : Int) == 48)) (some (-1)) (s_l1Digits_l0 x0 0 0)) else none) (s_l1Digits_l0 x0 0 0)))) := by
  kernel_rfl
theorem s_l1Digits_l0_eq (y0 : ByteArray) (y1 : Int) (y2 : Int) : s_l1Digits_l0 y0 y1 y2 = (cond ((decide (y2 < (ByteArray.size y0 : Int)))) (if (0 : Int) ≤ y2 ∧ y2 < (ByteArray.size y0 : Int) then (cond ((decide (((List.getD (ByteArray.data y0).toList (y2 : Int).toNat 0).toNat : Int) < 48))) (some (-1)) (if (0 : Int) ≤ y2 ∧ y2 < (ByteArray.size y0 : Int) then (cond ((decide (57 < ((List.getD (ByteArray.data y0).toList (y2 : Int).toNat 0).toNat : Int)))) (some (-1)) (if (0 : Int) ≤ y2 ∧ y2 < (ByteArray.size y0 : Int) then (s_l1Digits_l0 y0 (IntKind.i64.wrap ((IntKind.i64.wrap (10 * y1)) + (IntKind.i64.wrap (IntKind.u8.wrap (((List.getD (ByteArray.data y0).toList (y2 : Int).toNat 0).toNat : Int) - 48))))) (IntKind.i64.wrap (y2 + 1))) else none)) else none)) else none) (some y1)) := by
  refine (loopK_eq Tryz.prog (s_l1Digits_E) (sub (Tryz.f25.body.getD .skip) [1, 1, 1, 0, 1, 0, 0]) _ _).trans ?_
  kernel_rfl
theorem s_l1Digits_ent : Entb Tryz.prog 25 := ⟨Tryz.f25, by kernel_rfl, by kernel_rfl, by kernel_rfl⟩
theorem s_l1Digits_ok : CtrOk Tryz.prog 25 ⟨s_l1Digits_sig, s_l1Digits_f⟩ :=
  ctr_of (fn := Tryz.f25) (by kernel_rfl) (by kernel_rfl) (fun x : Ts s_l1Digits_sig.pc => s_l1Digits_E) (fun x => ⟨(fn_cons ⟨s_l1In_ok, s_l1In_ent⟩ fn_none), clo_none, wr_none⟩) (fun h => by cases h) follows_ (fun _ _ => trivial)
end FN
set_option linter.unusedVariables false
namespace FN
open Go Go.Proofs
/-! loop.example/firingnets/impl.NetOk -/
@[reducible] def i_NetOk_sig : Sig := { ps := [none], pc := [.view .i64], rs := [none], rc := [.bool] }
noncomputable def i_NetOk_E : Env' := { fn := fun f => none, ck := ckT, cuts := [(4, [0, 14, 15, 16]), (9, [0, 3, 4, 14, 15, 16, 38, 39])], mine := fun i => false }
noncomputable def i_NetOk_f (x : Ts i_NetOk_sig.pc) : Option (Ts i_NetOk_sig.rc) := runFn Tryz.prog (i_NetOk_E) Tryz.f79 i_NetOk_sig x
noncomputable def i_NetOk_l0 (y0 : List (Int)) (y1 : List (Int)) (y2 : Int) (y3 : Int) : Option ((Bool)) := from_ Tryz.prog (i_NetOk_E) Tryz.f79 i_NetOk_sig [1, 1, 0, 1, 0] ⟨mkT 56 [(0, .row false .i64 y0), (14, .row false .i64 y1), (15, .int .i64 y2), (16, .int .i64 y3)], []⟩
noncomputable def i_NetOk_l1 (y0 : List (Int)) (y1 : Int) (y2 : Int) (y3 : List (Int)) (y4 : Int) (y5 : Int) (y6 : Int) (y7 : Int) : Option ((Bool)) := from_ Tryz.prog (i_NetOk_E) Tryz.f79 i_NetOk_sig [1, 1, 0, 1, 0, 0, 1, 1, 0, 0, 1, 1, 1, 0] ⟨mkT 56 [(0, .row false .i64 y0), (3, .int .i64 y1), (4, .int .i64 y2), (14, .row false .i64 y3), (15, .int .i64 y4), (16, .int .i64 y5), (38, .int .i64 y6), (39, .int .i64 y7)], []⟩
theorem i_NetOk_f_eq (x0 : (List (Int))) : i_NetOk_f x0 = (cond ((decide ((List.length x0 : Int) < 1))) (some false) (cond ((decide (6 < (List.length x0 : Int)))) (some false) (i_NetOk_l0 x0 x0 (List.length x0 : Int) 0))) := by
  kernel_rfl
theorem i_NetOk_l0_eq (y0 : List (Int)) (y1 : List (Int)) (y2 : Int) (y3 : Int) : i_NetOk_l0 y0 y1 y2 y3 = (cond ((decide (y3 < y2))) (if (0 : Int) ≤ y3 ∧ y3 < (List.length y1 : Int) then (cond ((decide ((List.getD y1 (y3 : Int).toNat 0) < 0))) (some false) (if (List.length y0 : Int) < 0 then none else (cond ((decide ((IntKind.i64.wrap (1 * 2 ^ min ((List.length y0 : Int) : Int).toNat IntKind.i64.bits)) ≤ (List.getD y1 (y3 : Int).toNat 0)))) (some false) (if y3 < 0 then none else (cond (((Go.bits .and IntKind.i64 (Int.fdiv (List.getD y1 (y3 : Int).toNat 0) (2 ^ min (y3 : Int).toNat IntKind.i64.bits)) 1) == 1)) (some false) (i_NetOk_l1 y0 y3 (List.getD y1 (y3 : Int).toNat 0) y1 y2 y3 (List.length y0 : Int) 0)))))) else none) (some true)) := by
  refine (loopK_eq Tryz.prog (i_NetOk_E) (sub (Tryz.f79.body.getD .skip) [1, 1, 0, 1, 0, 0]) _ _).trans ?_
  kernel_rfl
theorem i_NetOk_l1_eq (y0 : List (Int)) (y1 : Int) (y2 : Int) (y3 : List (Int)) (y4 : Int) (y5 : Int) (y6 : Int) (y7 : Int) : i_NetOk_l1 y0 y1 y2 y3 y4 y5 y6 y7 = (cond ((decide (y7 < y6))) (if y7 < 0 then none else (if (0 : Int) ≤ y7 ∧ y7 < (List.length y0 : Int) then (if y1 < 0 then none else (cond (((Go.bits .and IntKind.i64 (Int.fdiv y2 (2 ^ min (y7 : Int).toNat IntKind.i64.bits)) 1) != (Go.bits .and IntKind.i64 (Int.fdiv (List.getD y0 (y7 : Int).toNat 0) (2 ^ min (y1 : Int).toNat IntKind.i64.bits)) 1))) (some false) (i_NetOk_l1 y0 y1 y2 y3 y4 y5 y6 (IntKind.i64.wrap (y7 + 1))))) else none)) (i_NetOk_l0 y0 y3 y4 (IntKind.i64.wrap (y5 + 1)))) := by
  refine (loopK_eq Tryz.prog (i_NetOk_E) (sub (Tryz.f79.body.getD .skip) [1, 1, 0, 1, 0, 0, 1, 1, 0, 0, 1, 1, 1, 0, 0]) _ _).trans ?_
  kernel_rfl
theorem i_NetOk_ent : Entb Tryz.prog 79 := ⟨Tryz.f79, by kernel_rfl, by kernel_rfl, by kernel_rfl⟩
theorem i_NetOk_ok : CtrOk Tryz.prog 79 ⟨i_NetOk_sig, i_NetOk_f⟩ :=
  ctr_of (fn := Tryz.f79) (by kernel_rfl) (by kernel_rfl) (fun x : Ts i_NetOk_sig.pc => i_NetOk_E) (fun x => ⟨fn_none, clo_none, wr_none⟩) (fun h => by cases h) follows_ (fun _ _ => trivial)
end FN
set_option linter.unusedVariables false
namespace FN
open Go Go.Proofs
/-! loop.example/firingnets/impl.StateOk -/
@[reducible] def i_StateOk_sig : Sig := { ps := [none, none], pc := [.int .i64, .view .i64], rs := [none], rc := [.bool] }
noncomputable def i_StateOk_E : Env' := { fn := fun f => none, ck := ckT, cuts := [(2, [0, 1, 7, 8, 9]), (7, [0, 1])], mine := fun i => false }
noncomputable def i_StateOk_f (x : Ts i_StateOk_sig.pc) : Option (Ts i_StateOk_sig.rc) := runFn Tryz.prog (i_StateOk_E) Tryz.f80 i_StateOk_sig x
noncomputable def i_StateOk_l0 (y0 : Int) (y1 : List (Int)) (y2 : List (Int)) (y3 : Int) (y4 : Int) : Option ((Bool)) := from_ Tryz.prog (i_StateOk_E) Tryz.f80 i_StateOk_sig [1, 0, 1, 0] ⟨mkT 37 [(0, .int .i64 y0), (1, .row false .i64 y1), (7, .row false .i64 y2), (8, .int .i64 y3), (9, .int .i64 y4)], []⟩
noncomputable def i_StateOk_j1 (y0 : Int) (y1 : List (Int)) : Option ((Bool)) := from_ Tryz.prog (i_StateOk_E) Tryz.f80 i_StateOk_sig [1, 1] ⟨mkT 37 [(0, .int .i64 y0), (1, .row false .i64 y1)], []⟩
theorem i_StateOk_f_eq (x0 : (Int)) (x1 : (List (Int))) : i_StateOk_f (x0, x1) = (i_StateOk_l0 x0 x1 x1 (List.length x1 : Int) 0) := by
  kernel_rfl
theorem i_StateOk_l0_eq (y0 : Int) (y1 : List (Int)) (y2 : List (Int)) (y3 : Int) (y4 : Int) : i_StateOk_l0 y0 y1 y2 y3 y4 = (cond ((decide (y4 < y3))) (if (0 : Int) ≤ y4 ∧ y4 < (List.length y2 : Int) then (cond ((decide ((List.getD y2 (y4 : Int).toNat 0) < 0))) (some false) (cond ((decide (y0 ≤ (List.getD y2 (y4 : Int).toNat 0)))) (some false) (i_StateOk_l0 y0 y1 y2 y3 (IntKind.i64.wrap (y4 + 1))))) else none) (i_StateOk_j1 y0 y1)) := by
  refine (loopK_eq Tryz.prog (i_StateOk_E) (sub (Tryz.f80.body.getD .skip) [1, 0, 1, 0, 0]) _ _).trans ?_
  kernel_rfl
theorem i_StateOk_j1_eq (y0 : Int) (y1 : List (Int)) : i_StateOk_j1 y0 y1 = (cond ((decide (3 ≤ y0))) (cond ((decide (y0 ≤ 5))) (cond ((decide (1 ≤ (List.length y1 : Int)))) (some (decide ((List.length y1 : Int) ≤ 6))) (some false)) (some false)) (some false)) := by
  kernel_rfl
theorem i_StateOk_ent : Entb Tryz.prog 80 := ⟨Tryz.f80, by kernel_rfl, by kernel_rfl, by kernel_rfl⟩
theorem i_StateOk_ok : CtrOk Tryz.prog 80 ⟨i_StateOk_sig, i_StateOk_f⟩ :=
  ctr_of (fn := Tryz.f80) (by kernel_rfl) (by kernel_rfl) (fun x : Ts i_StateOk_sig.pc => i_StateOk_E) (fun x => ⟨fn_none, clo_none, wr_none⟩) (fun h => by cases h) follows_ (fun _ _ => trivial)
end FN
set_option linter.unusedVariables false
namespace FN
open Go Go.Proofs
/-! loop.example/firingnets/impl.asked -/
@[reducible] def i_asked_sig : Sig := { ps := [none, none, none], pc := [.view .i64, .int .i64, .view .i64], rs := [none], rc := [.bool] }
noncomputable def i_asked_E : Env' := { fn := fun f => if f = 79 then some ⟨i_NetOk_sig, i_NetOk_f⟩ else if f = 80 then some ⟨i_StateOk_sig, i_StateOk_f⟩ else none, ck := ckT, cuts := [], mine := fun i => false }
noncomputable def i_asked_f (x : Ts i_asked_sig.pc) : Option (Ts i_asked_sig.rc) := runFn Tryz.prog (i_asked_E) Tryz.f67 i_asked_sig x
theorem i_asked_f_eq (x0 : (List (Int))) (x1 : (Int)) (x2 : (List (Int))) : i_asked_f (x0, x1, x2) = (Option.bind (i_NetOk_f x0) fun r1 => (cond (r1) (Option.bind (i_StateOk_f (x1, x2)) fun r2 => (cond (r2) (some ((List.length x0 : Int) == (List.length x2 : Int))) (some false))) (some false))) := by
  kernel_rfl
theorem i_asked_ent : Entb Tryz.prog 67 := ⟨Tryz.f67, by kernel_rfl, by kernel_rfl, by kernel_rfl⟩
theorem i_asked_ok : CtrOk Tryz.prog 67 ⟨i_asked_sig, i_asked_f⟩ :=
  ctr_of (fn := Tryz.f67) (by kernel_rfl) (by kernel_rfl) (fun x : Ts i_asked_sig.pc => i_asked_E) (fun x => ⟨(fn_cons ⟨i_NetOk_ok, i_NetOk_ent⟩ (fn_cons ⟨i_StateOk_ok, i_StateOk_ent⟩ fn_none)), clo_none, wr_none⟩) (fun h => by cases h) follows_ (fun _ _ => trivial)
end FN
set_option linter.unusedVariables false
namespace FN
open Go Go.Proofs
/-! loop.example/firingnets/impl.PlaceOk -/
@[reducible] def i_PlaceOk_sig : Sig := { ps := [some 3], pc := [.view .i64, .int .i64, .view .i64], rs := [none], rc := [.bool] }
noncomputable def i_PlaceOk_E : Env' := { fn := fun f => if f = 67 then some ⟨i_asked_sig, i_asked_f⟩ else none, ck := ckT, cuts := [], mine := fun i => false }
noncomputable def i_PlaceOk_f (x : Ts i_PlaceOk_sig.pc) : Option (Ts i_PlaceOk_sig.rc) := runFn Tryz.prog (i_PlaceOk_E) Tryz.f51 i_PlaceOk_sig x
theorem i_PlaceOk_f_eq (x0 : (List (Int))) (x1 : (Int)) (x2 : (List (Int))) : i_PlaceOk_f (x0, x1, x2) = (Option.bind (i_asked_f (x0, x1, x2)) fun r1 => (some r1)) := by
  kernel_rfl
theorem i_PlaceOk_ent : Entb Tryz.prog 51 := ⟨Tryz.f51, by kernel_rfl, by kernel_rfl, by kernel_rfl⟩
theorem i_PlaceOk_ok : CtrOk Tryz.prog 51 ⟨i_PlaceOk_sig, i_PlaceOk_f⟩ :=
  ctr_of (fn := Tryz.f51) (by kernel_rfl) (by kernel_rfl) (fun x : Ts i_PlaceOk_sig.pc => i_PlaceOk_E) (fun x => ⟨(fn_cons ⟨i_asked_ok, i_asked_ent⟩ fn_none), clo_none, wr_none⟩) (fun h => by cases h) follows_ (fun _ _ => trivial)
end FN
set_option linter.unusedVariables false
namespace FN
open Go Go.Proofs
/-! loop.example/firingnets/spec.NetOk -/
@[reducible] def s_NetOk_sig : Sig := { ps := [none], pc := [.view .i64], rs := [none], rc := [.bool] }
noncomputable def s_NetOk_E : Env' := { fn := fun f => if f = 23 then some ⟨s_l1In_sig, s_l1In_f⟩ else none, ck := ckT, cuts := [(4, [0, 3]), (8, [0]), (9, [0, 4]), (12, [0, 4, 5])], mine := fun i => false }
noncomputable def s_NetOk_f (x : Ts s_NetOk_sig.pc) : Option (Ts s_NetOk_sig.rc) := runFn Tryz.prog (s_NetOk_E) Tryz.f62 s_NetOk_sig x
noncomputable def s_NetOk_l0 (y0 : List (Int)) (y1 : Int) : Option ((Bool)) := from_ Tryz.prog (s_NetOk_E) Tryz.f62 s_NetOk_sig [1, 1, 0, 1, 0] ⟨mkT 68 [(0, .row false .i64 y0), (3, .int .i64 y1)], []⟩
noncomputable def s_NetOk_j1 (y0 : List (Int)) : Option ((Bool)) := from_ Tryz.prog (s_NetOk_E) Tryz.f62 s_NetOk_sig [1, 1, 1] ⟨mkT 68 [(0, .row false .i64 y0)], []⟩
noncomputable def s_NetOk_l2 (y0 : List (Int)) (y1 : Int) : Option ((Bool)) := from_ Tryz.prog (s_NetOk_E) Tryz.f62 s_NetOk_sig [1, 1, 1, 0, 1, 0] ⟨mkT 68 [(0, .row false .i64 y0), (4, .int .i64 y1)], []⟩
noncomputable def s_NetOk_l3 (y0 : List (Int)) (y1 : Int) (y2 : Int) : Option ((Bool)) := from_ Tryz.prog (s_NetOk_E) Tryz.f62 s_NetOk_sig [1, 1, 1, 0, 1, 0, 0, 1, 0, 0, 1, 0] ⟨mkT 68 [(0, .row false .i64 y0), (4, .int .i64 y1), (5, .int .i64 y2)], []⟩
theorem s_NetOk_f_eq (x0 : (List (Int))) : s_NetOk_f x0 = (Option.bind (s_l1In_f ((List.length x0 : Int), 1, 6)) fun r1 => (cond ((!r1)) (some false) (s_NetOk_l0 x0 0))) := by
  kernel_rfl
theorem s_NetOk_l0_eq (y0 : List (Int)) (y1 : Int) : s_NetOk_l0 y0 y1 = (cond ((decide (y1 < (List.length y0 : Int)))) (if (0 : Int) ≤ y1 ∧ y1 < (List.length y0 : Int) then (if (List.length y0 : Int) < 0 then none else (Option.bind (s_l1In_f ((List.getD y0 (y1 : Int).toNat 0), 0, (IntKind.i64.wrap ((IntKind.i64.wrap (1 * 2 ^ min ((List.length y0 : Int) : Int).toNat IntKind.i64.bits)) - 1)))) fun r1 => (cond ((!r1)) (some false) (s_NetOk_l0 y0 (IntKind.i64.wrap (y1 + 1)))))) else none) (s_NetOk_j1 y0)) := by
  refine (loopK_eq Tryz.prog (s_NetOk_E) (sub (Tryz.f62.body.getD .skip) [1, 1, 0, 1, 0, 0]) _ _).trans ?_
  kernel_rfl
theorem s_NetOk_j1_eq (y0 : List (Int)) : s_NetOk_j1 y0 = (s_NetOk_l2 y0 0) := by
  kernel_rfl
theorem s_NetOk_l2_eq (y0 : List (Int)) (y1 : Int) : s_NetOk_l2 y0 y1 = (cond ((decide (y1 < (List.length y0 : Int)))) (s_NetOk_l3 y0 y1 0) (some true)) := by
  refine (loopK_eq Tryz.prog (s_NetOk_E) (sub (Tryz.f62.body.getD .skip) [1, 1, 1, 0, 1, 0, 0]) _ _).trans ?_
  kernel_rfl
theorem s_NetOk_l3_eq (y0 : List (Int)) (y1 : Int) (y2 : Int) : s_NetOk_l3 y0 y1 y2 = (cond ((decide (y2 < (List.length y0 : Int)))) (if (0 : Int) ≤ y1 ∧ y1 < (List.length y0 : Int) then (if y2 < 0 then none else (if (0 : Int) ≤ y2 ∧ y2 < (List.length y0 : Int) then (if y1 < 0 then none else (cond (((Int.tmod (Int.fdiv (List.getD y0 (y1 : Int).toNat 0) (2 ^ min (y2 : Int).toNat IntKind.i64.bits)) 2) != (Int.tmod (Int.fdiv (List.getD y0 (y2 : Int).toNat 0) (2 ^ min (y1 : Int).toNat IntKind.i64.bits)) 2))) (some false) (cond ((y2 == y1)) (if (0 : Int) ≤ y1 ∧ y1 < (List.length y0 : Int) then (if y2 < 0 then none else (cond (((Int.tmod (Int.fdiv (List.getD y0 (y1 : Int).toNat 0) (2 ^ min (y2 : Int).toNat IntKind.i64.bits)) 2) == 1)) (some false) (s_NetOk_l3 y0 y1 (IntKind.i64.wrap (y2 + 1))))) else none) (s_NetOk_l3 y0 y1 (IntKind.i64.wrap (y2 + 1)))))) else none)) else none) (s_NetOk_l2 y0 (IntKind.i64.wrap (y1 + 1)))) := by
  refine (loopK_eq Tryz.prog (s_NetOk_E) (sub (Tryz.f62.body.getD .skip) [1, 1, 1, 0, 1, 0, 0, 1, 0, 0, 1, 0, 0]) _ _).trans ?_
  kernel_rfl
theorem s_NetOk_ent : Entb Tryz.prog 62 := ⟨Tryz.f62, by kernel_rfl, by kernel_rfl, by kernel_rfl⟩
theorem s_NetOk_ok : CtrOk Tryz.prog 62 ⟨s_NetOk_sig, s_NetOk_f⟩ :=
  ctr_of (fn := Tryz.f62) (by kernel_rfl) (by kernel_rfl) (fun x : Ts s_NetOk_sig.pc => s_NetOk_E) (fun x => ⟨(fn_cons ⟨s_l1In_ok, s_l1In_ent⟩ fn_none), clo_none, wr_none⟩) (fun h => by cases h) follows_ (fun _ _ => trivial)
end FN
set_option linter.unusedVariables false
namespace FN
open Go Go.Proofs
/-! loop.example/firingnets/spec.StateOk -/
@[reducible] def s_StateOk_sig : Sig := { ps := [none, none], pc := [.int .i64, .view .i64], rs := [none], rc := [.bool] }
noncomputable def s_StateOk_E : Env' := { fn := fun f => if f = 23 then some ⟨s_l1In_sig, s_l1In_f⟩ else none, ck := ckT, cuts := [(2, [0, 1, 5]), (6, [0, 1])], mine := fun i => false }
noncomputable def s_StateOk_f (x : Ts s_StateOk_sig.pc) : Option (Ts s_StateOk_sig.rc) := runFn Tryz.prog (s_StateOk_E) Tryz.f63 s_StateOk_sig x
noncomputable def s_StateOk_l0 (y0 : Int) (y1 : List (Int)) (y2 : Int) : Option ((Bool)) := from_ Tryz.prog (s_StateOk_E) Tryz.f63 s_StateOk_sig [1, 0, 1, 0] ⟨mkT 32 [(0, .int .i64 y0), (1, .row false .i64 y1), (5, .int .i64 y2)], []⟩
noncomputable def s_StateOk_j1 (y0 : Int) (y1 : List (Int)) : Option ((Bool)) := from_ Tryz.prog (s_StateOk_E) Tryz.f63 s_StateOk_sig [1, 1] ⟨mkT 32 [(0, .int .i64 y0), (1, .row false .i64 y1)], []⟩
theorem s_StateOk_f_eq (x0 : (Int)) (x1 : (List (Int))) : s_StateOk_f (x0, x1) = (s_StateOk_l0 x0 x1 0) := by
  kernel_rfl
theorem s_StateOk_l0_eq (y0 : Int) (y1 : List (Int)) (y2 : Int) : s_StateOk_l0 y0 y1 y2 = (cond ((decide (y2 < (List.length y1 : Int)))) (if (0 : Int) ≤ y2 ∧ y2 < (List.length y1 : Int) then (cond ((decide ((List.getD y1 (y2 : Int).toNat 0) < 0))) (some false) (if (0 : Int) ≤ y2 ∧ y2 < (List.length y1 : Int) then (cond ((decide (y0 ≤ (List.getD y1 (y2 : Int).toNat 0)))) (some false) (s_StateOk_l0 y0 y1 (IntKind.i64.wrap (y2 + 1)))) else none)) else none) (s_StateOk_j1 y0 y1)) := by
  refine (loopK_eq Tryz.prog (s_StateOk_E) (sub (Tryz.f63.body.getD .skip) [1, 0, 1, 0, 0]) _ _).trans ?_
  kernel_rfl
theorem s_StateOk_j1_eq (y0 : Int) (y1 : List (Int)) : s_StateOk_j1 y0 y1 = (Option.bind (s_l1In_f (y0, 3, 5)) fun r1 => (cond (r1) (Option.bind (s_l1In_f ((List.length y1 : Int), 1, 6)) fun r2 => (some r2)) (some false))) := by
  kernel_rfl
theorem s_StateOk_ent : Entb Tryz.prog 63 := ⟨Tryz.f63, by kernel_rfl, by kernel_rfl, by kernel_rfl⟩
theorem s_StateOk_ok : CtrOk Tryz.prog 63 ⟨s_StateOk_sig, s_StateOk_f⟩ :=
  ctr_of (fn := Tryz.f63) (by kernel_rfl) (by kernel_rfl) (fun x : Ts s_StateOk_sig.pc => s_StateOk_E) (fun x => ⟨(fn_cons ⟨s_l1In_ok, s_l1In_ent⟩ fn_none), clo_none, wr_none⟩) (fun h => by cases h) follows_ (fun _ _ => trivial)
end FN
set_option linter.unusedVariables false
namespace FN
open Go Go.Proofs
/-! loop.example/firingnets/spec.l3Ok -/
@[reducible] def s_l3Ok_sig : Sig := { ps := [none, none, none], pc := [.view .i64, .int .i64, .view .i64], rs := [none], rc := [.bool] }
noncomputable def s_l3Ok_E : Env' := { fn := fun f => if f = 62 then some ⟨s_NetOk_sig, s_NetOk_f⟩ else if f = 63 then some ⟨s_StateOk_sig, s_StateOk_f⟩ else none, ck := ckT, cuts := [], mine := fun i => false }
noncomputable def s_l3Ok_f (x : Ts s_l3Ok_sig.pc) : Option (Ts s_l3Ok_sig.rc) := runFn Tryz.prog (s_l3Ok_E) Tryz.f48 s_l3Ok_sig x
theorem s_l3Ok_f_eq (x0 : (List (Int))) (x1 : (Int)) (x2 : (List (Int))) : s_l3Ok_f (x0, x1, x2) = (Option.bind (s_NetOk_f x0) fun r1 => (cond (r1) (Option.bind (s_StateOk_f (x1, x2)) fun r2 => (cond (r2) (some ((List.length x2 : Int) == (List.length x0 : Int))) (some false))) (some false))) := by
  kernel_rfl
theorem s_l3Ok_ent : Entb Tryz.prog 48 := ⟨Tryz.f48, by kernel_rfl, by kernel_rfl, by kernel_rfl⟩
theorem s_l3Ok_ok : CtrOk Tryz.prog 48 ⟨s_l3Ok_sig, s_l3Ok_f⟩ :=
  ctr_of (fn := Tryz.f48) (by kernel_rfl) (by kernel_rfl) (fun x : Ts s_l3Ok_sig.pc => s_l3Ok_E) (fun x => ⟨(fn_cons ⟨s_NetOk_ok, s_NetOk_ent⟩ (fn_cons ⟨s_StateOk_ok, s_StateOk_ent⟩ fn_none)), clo_none, wr_none⟩) (fun h => by cases h) follows_ (fun _ _ => trivial)
end FN
set_option linter.unusedVariables false
namespace FN
open Go Go.Proofs
/-! loop.example/firingnets/spec.PlaceOk -/
@[reducible] def s_PlaceOk_sig : Sig := { ps := [some 3], pc := [.view .i64, .int .i64, .view .i64], rs := [none], rc := [.bool] }
noncomputable def s_PlaceOk_E : Env' := { fn := fun f => if f = 48 then some ⟨s_l3Ok_sig, s_l3Ok_f⟩ else none, ck := ckT, cuts := [], mine := fun i => false }
noncomputable def s_PlaceOk_f (x : Ts s_PlaceOk_sig.pc) : Option (Ts s_PlaceOk_sig.rc) := runFn Tryz.prog (s_PlaceOk_E) Tryz.f36 s_PlaceOk_sig x
theorem s_PlaceOk_f_eq (x0 : (List (Int))) (x1 : (Int)) (x2 : (List (Int))) : s_PlaceOk_f (x0, x1, x2) = (Option.bind (s_l3Ok_f (x0, x1, x2)) fun r1 => (some r1)) := by
  kernel_rfl
theorem s_PlaceOk_ent : Entb Tryz.prog 36 := ⟨Tryz.f36, by kernel_rfl, by kernel_rfl, by kernel_rfl⟩
theorem s_PlaceOk_ok : CtrOk Tryz.prog 36 ⟨s_PlaceOk_sig, s_PlaceOk_f⟩ :=
  ctr_of (fn := Tryz.f36) (by kernel_rfl) (by kernel_rfl) (fun x : Ts s_PlaceOk_sig.pc => s_PlaceOk_E) (fun x => ⟨(fn_cons ⟨s_l3Ok_ok, s_l3Ok_ent⟩ fn_none), clo_none, wr_none⟩) (fun h => by cases h) follows_ (fun _ _ => trivial)
end FN
set_option linter.unusedVariables false
namespace FN
open Go Go.Proofs
/-! loop.example/firingnets/spec.PlaceText -/
@[reducible] def s_PlaceText_sig : Sig := { ps := [some 3], pc := [.view .i64, .int .i64, .view .i64], rs := [none], rc := [.str] }
noncomputable def s_PlaceText_E : Env' := { fn := fun f => if f = 36 then some ⟨s_PlaceOk_sig, s_PlaceOk_f⟩ else if f = 37 then some ⟨s_l1Number_sig, s_l1Number_f⟩ else none, ck := ckT, cuts := [(6, [1, 3, 4, 5]), (10, [1, 3, 4, 5, 6]), (15, [1, 3, 4, 5, 6]), (16, [1, 3, 4]), (18, [1, 3, 4])], mine := fun i => false }
noncomputable def s_PlaceText_f (x : Ts s_PlaceText_sig.pc) : Option (Ts s_PlaceText_sig.rc) := runFn Tryz.prog (s_PlaceText_E) Tryz.f26 s_PlaceText_sig x
noncomputable def s_PlaceText_l0 (y0 : ByteArray) (y1 : ByteArray) (y2 : Int) (y3 : List (Int)) (y4 : Int) (y5 : List (Int)) : Option ((ByteArray)) := from_ Tryz.prog (s_PlaceText_E) Tryz.f26 s_PlaceText_sig [1, 1, 1, 1, 0, 1, 0] ⟨mkT 71 [(1, .ptr 0 0), (3, .str y0), (4, .str y1), (5, .int .i64 y2)], [some (.box 27 [.row false .i64 y3, .int .i64 y4, .row false .i64 y5])]⟩
noncomputable def s_PlaceText_l1 (y0 : ByteArray) (y1 : ByteArray) (y2 : Int) (y3 : Int) (y4 : List (Int)) (y5 : Int) (y6 : List (Int)) : Option ((ByteArray)) := from_ Tryz.prog (s_PlaceText_E) Tryz.f26 s_PlaceText_sig [1, 1, 1, 1, 0, 1, 0, 0, 1, 0, 0, 1, 1, 0] ⟨mkT 71 [(1, .ptr 0 0), (3, .str y0), (4, .str y1), (5, .int .i64 y2), (6, .int .i64 y3)], [some (.box 27 [.row false .i64 y4, .int .i64 y5, .row false .i64 y6])]⟩
noncomputable def s_PlaceText_j2 (y0 : ByteArray) (y1 : ByteArray) (y2 : List (Int)) (y3 : Int) (y4 : List (Int)) : Option ((ByteArray)) := from_ Tryz.prog (s_PlaceText_E) Tryz.f26 s_PlaceText_sig [1, 1, 1, 1, 1] ⟨mkT 71 [(1, .ptr 0 0), (3, .str y0), (4, .str y1)], [some (.box 27 [.row false .i64 y2, .int .i64 y3, .row false .i64 y4])]⟩
noncomputable def s_PlaceText_j3 (y0 : ByteArray) (y1 : ByteArray) (y2 : Int) (y3 : Int) (y4 : List (Int)) (y5 : Int) (y6 : List (Int)) : Option ((ByteArray)) := from_ Tryz.prog (s_PlaceText_E) Tryz.f26 s_PlaceText_sig [1, 1, 1, 1, 0, 1, 0, 0, 1, 0, 0, 1, 1, 0, 0, 1, 0, 0, 1, 1] ⟨mkT 71 [(1, .ptr 0 0), (3, .str y0), (4, .str y1), (5, .int .i64 y2), (6, .int .i64 y3)], [some (.box 27 [.row false .i64 y4, .int .i64 y5, .row false .i64 y6])]⟩
noncomputable def s_PlaceText_j4 (y0 : ByteArray) (y1 : ByteArray) (y2 : List (Int)) (y3 : Int) (y4 : List (Int)) : Option ((ByteArray)) := from_ Tryz.prog (s_PlaceText_E) Tryz.f26 s_PlaceText_sig [1, 1, 1, 1, 1, 1] ⟨mkT 71 [(1, .ptr 0 0), (3, .str y0), (4, .str y1)], [some (.box 27 [.row false .i64 y2, .int .i64 y3, .row false .i64 y4])]⟩
theorem s_PlaceText_f_eq (x0 : (List (Int))) (x1 : (Int)) (x2 : (List (Int))) : s_PlaceText_f (x0, x1, x2) = (Option.bind (s_PlaceOk_f (x0, x1, x2)) fun r1 => (cond ((!r1)) (some ByteArray.empty) (s_PlaceText_l0 ByteArray.empty ByteArray.empty 0 x0 x1 x2))) := by
  kernel_rfl
theorem s_PlaceText_l0_eq (y0 : ByteArray) (y1 : ByteArray) (y2 : Int) (y3 : List (Int)) (y4 : Int) (y5 : List (Int)) : s_PlaceText_l0 y0 y1 y2 y3 y4 y5 = (cond ((decide (y2 < (List.length y3 : Int)))) (if (0 : Int) ≤ y2 ∧ y2 < (List.length y5 : Int) then (Option.bind (s_l1Number_f (List.getD y5 (y2 : Int).toNat 0)) fun r1 => (if ByteArray.size y1 + ByteArray.size r1 ≤ 9223372036854775807 then (s_PlaceText_l1 y0 (y1 ++ r1) y2 (IntKind.i64.wrap (y2 + 1)) y3 y4 y5) else none)) else none) (s_PlaceText_j2 y0 y1 y3 y4 y5)) := by
  refine (loopK_eq Tryz.prog (s_PlaceText_E) (sub (Tryz.f26.body.getD .skip) [1, 1, 1, 1, 0, 1, 0, 0]) _ _).trans ?_
  kernel_rfl
theorem s_PlaceText_l1_eq (y0 : ByteArray) (y1 : ByteArray) (y2 : Int) (y3 : Int) (y4 : List (Int)) (y5 : Int) (y6 : List (Int)) : s_PlaceText_l1 y0 y1 y2 y3 y4 y5 y6 = (cond ((decide (y3 < (List.length y4 : Int)))) (if (0 : Int) ≤ y2 ∧ y2 < (List.length y4 : Int) then (if y3 < 0 then none else (cond (((Int.tmod (Int.fdiv (List.getD y4 (y2 : Int).toNat 0) (2 ^ min (y3 : Int).toNat IntKind.i64.bits)) 2) == 0)) (s_PlaceText_l1 y0 y1 y2 (IntKind.i64.wrap (y3 + 1)) y4 y5 y6) (cond ((!(ByteArray.toList y0 == ByteArray.toList ByteArray.empty))) (if ByteArray.size y0 + ByteArray.size str14 ≤ 9223372036854775807 then (s_PlaceText_j3 (y0 ++ str14) y1 y2 y3 y4 y5 y6) else none) (s_PlaceText_j3 y0 y1 y2 y3 y4 y5 y6)))) else none) (s_PlaceText_l0 y0 y1 (IntKind.i64.wrap (y2 + 1)) y4 y5 y6)) := by
  refine (loopK_eq Tryz.prog (s_PlaceText_E) (sub (Tryz.f26.body.getD .skip) [1, 1, 1, 1, 0, 1, 0, 0, 1, 0, 0, 1, 1, 0, 0]) _ _).trans ?_
  kernel_rfl
theorem s_PlaceText_j2_eq (y0 : ByteArray) (y1 : ByteArray) (y2 : List (Int)) (y3 : Int) (y4 : List (Int)) : s_PlaceText_j2 y0 y1 y2 y3 y4 = (cond ((ByteArray.toList y0 == ByteArray.toList ByteArray.empty)) (s_PlaceText_j4 str15 y1 y2 y3 y4) (s_PlaceText_j4 y0 y1 y2 y3 y4)) := by
  kernel_rfl
theorem s_PlaceText_j3_eq (y0 : ByteArray) (y1 : ByteArray) (y2 : Int) (y3 : Int) (y4 : List (Int)) (y5 : Int) (y6 : List (Int)) : s_PlaceText_j3 y0 y1 y2 y3 y4 y5 y6 = (Option.bind (s_l1Number_f y2) fun r1 => (if ByteArray.size y0 + ByteArray.size r1 ≤ 9223372036854775807 then (Option.bind (s_l1Number_f y3) fun r2 => (if ByteArray.size (y0 ++ r1) + ByteArray.size r2 ≤ 9223372036854775807 then (s_PlaceText_l1 ((y0 ++ r1) ++ r2) y1 y2 (IntKind.i64.wrap (y3 + 1)) y4 y5 y6) else none)) else none)) := by
  kernel_rfl
theorem s_PlaceText_j4_eq (y0 : ByteArray) (y1 : ByteArray) (y2 : List (Int)) (y3 : Int) (y4 : List (Int)) : s_PlaceText_j4 y0 y1 y2 y3 y4 = (Option.bind (s_l1Number_f (List.length y2 : Int)) fun r1 => (if ByteArray.size r1 + ByteArray.size str1 ≤ 9223372036854775807 then (if ByteArray.size (r1 ++ str1) + ByteArray.size y0 ≤ 9223372036854775807 then (if ByteArray.size ((r1 ++ str1) ++ y0) + ByteArray.size str1 ≤ 9223372036854775807 then (Option.bind (s_l1Number_f y3) fun r2 => (if ByteArray.size (((r1 ++ str1) ++ y0) ++ str1) + ByteArray.size r2 ≤ 9223372036854775807 then (if ByteArray.size ((((r1 ++ str1) ++ y0) ++ str1) ++ r2) + ByteArray.size str1 ≤ 9223372036854775807 then (if ByteArray.size (((((r1 ++ str1) ++ y0) ++ str1) ++ r2) ++ str1) + ByteArray.size y1 ≤ 9223372036854775807 then (some ((((((r1 ++ str1) ++ y0) ++ str1) ++ r2) ++ str1) ++ y1)) else none) else none) else none)) else none) else none) else none)) := by
  kernel_rfl
theorem s_PlaceText_ent : Entb Tryz.prog 26 := ⟨Tryz.f26, by kernel_rfl, by kernel_rfl, by kernel_rfl⟩
theorem s_PlaceText_ok : CtrOk Tryz.prog 26 ⟨s_PlaceText_sig, s_PlaceText_f⟩ :=
  ctr_of (fn := Tryz.f26) (by kernel_rfl) (by kernel_rfl) (fun x : Ts s_PlaceText_sig.pc => s_PlaceText_E) (fun x => ⟨(fn_cons ⟨s_PlaceOk_ok, s_PlaceOk_ent⟩ (fn_cons ⟨s_l1Number_ok, s_l1Number_ent⟩ fn_none)), clo_none, wr_none⟩) (fun h => by cases h) follows_ (fun _ _ => trivial)
end FN
set_option linter.unusedVariables false
namespace FN
open Go Go.Proofs
/-! loop.example/firingnets/impl.PlaceText -/
@[reducible] def i_PlaceText_sig : Sig := { ps := [some 3], pc := [.view .i64, .int .i64, .view .i64], rs := [none], rc := [.str] }
noncomputable def i_PlaceText_E : Env' := { fn := fun f => if f = 51 then some ⟨i_PlaceOk_sig, i_PlaceOk_f⟩ else if f = 52 then some ⟨x_strconv_Itoa_sig, x_strconv_Itoa_f⟩ else if f = 53 then some ⟨x_strings_Join_sig, x_strings_Join_f⟩ else none, ck := ckT, cuts := [(5, [1, 3, 15, 16, 17]), (8, [1, 3, 4, 5, 6, 15, 16, 17]), (13, [1, 3]), (15, [1, 3]), (17, [7, 66, 67, 68])], mine := fun i => false }
noncomputable def i_PlaceText_f (x : Ts i_PlaceText_sig.pc) : Option (Ts i_PlaceText_sig.rc) := runFn Tryz.prog (i_PlaceText_E) Tryz.f43 i_PlaceText_sig x
noncomputable def i_PlaceText_l0 (y0 : List (Int)) (y1 : Int) (y2 : Int) (y3 : List (Int)) (y4 : Int) (y5 : List (Int)) (y6 : List (ByteArray)) : Option ((ByteArray)) := from_ Tryz.prog (i_PlaceText_E) Tryz.f43 i_PlaceText_sig [1, 1, 1, 0, 1, 0] ⟨mkT 78 [(1, .ptr 0 0), (3, .own 1), (15, .row false .i64 y0), (16, .int .i64 y1), (17, .int .i64 y2)], [some (.box 27 [.row false .i64 y3, .int .i64 y4, .row false .i64 y5]), some (.arr 9 true .str y6)]⟩
noncomputable def i_PlaceText_l1 (y0 : Int) (y1 : Int) (y2 : Int) (y3 : List (Int)) (y4 : Int) (y5 : Int) (y6 : List (Int)) (y7 : Int) (y8 : List (Int)) (y9 : List (ByteArray)) : Option ((ByteArray)) := from_ Tryz.prog (i_PlaceText_E) Tryz.f43 i_PlaceText_sig [1, 1, 1, 0, 1, 0, 0, 1, 1, 0, 0, 1, 1, 0] ⟨mkT 78 [(1, .ptr 0 0), (3, .own 1), (4, .int .i64 y0), (5, .int .i64 y1), (6, .int .i64 y2), (15, .row false .i64 y3), (16, .int .i64 y4), (17, .int .i64 y5)], [some (.box 27 [.row false .i64 y6, .int .i64 y7, .row false .i64 y8]), some (.arr 9 true .str y9)]⟩
noncomputable def i_PlaceText_j2 (y0 : List (Int)) (y1 : Int) (y2 : List (Int)) (y3 : List (ByteArray)) : Option ((ByteArray)) := from_ Tryz.prog (i_PlaceText_E) Tryz.f43 i_PlaceText_sig [1, 1, 1, 1] ⟨mkT 78 [(1, .ptr 0 0), (3, .own 1)], [some (.box 27 [.row false .i64 y0, .int .i64 y1, .row false .i64 y2]), some (.arr 9 true .str y3)]⟩
noncomputable def i_PlaceText_j3 (y0 : List (Int)) (y1 : Int) (y2 : List (Int)) (y3 : List (ByteArray)) : Option ((ByteArray)) := from_ Tryz.prog (i_PlaceText_E) Tryz.f43 i_PlaceText_sig [1, 1, 1, 1, 1] ⟨mkT 78 [(1, .ptr 0 0), (3, .own 1)], [some (.box 27 [.row false .i64 y0, .int .i64 y1, .row false .i64 y2]), some (.arr 9 true .str y3)]⟩
noncomputable def i_PlaceText_l4 (y0 : ByteArray) (y1 : List (Int)) (y2 : Int) (y3 : Int) : Option ((ByteArray)) := from_ Tryz.prog (i_PlaceText_E) Tryz.f43 i_PlaceText_sig [1, 1, 1, 1, 1, 1, 0, 1, 0] ⟨mkT 78 [(7, .str y0), (66, .row false .i64 y1), (67, .int .i64 y2), (68, .int .i64 y3)], []⟩
theorem i_PlaceText_f_eq (x0 : (List (Int))) (x1 : (Int)) (x2 : (List (Int))) : i_PlaceText_f (x0, x1, x2) = (Option.bind (i_PlaceOk_f (x0, x1, x2)) fun r1 => (cond ((!r1)) (some ByteArray.empty) (i_PlaceText_l0 x0 (List.length x0 : Int) 0 x0 x1 x2 ([] : List (ByteArray))))) := by
  kernel_rfl
theorem i_PlaceText_l0_eq (y0 : List (Int)) (y1 : Int) (y2 : Int) (y3 : List (Int)) (y4 : Int) (y5 : List (Int)) (y6 : List (ByteArray)) : i_PlaceText_l0 y0 y1 y2 y3 y4 y5 y6 = (cond ((decide (y2 < y1))) (if (0 : Int) ≤ y2 ∧ y2 < (List.length y0 : Int) then (i_PlaceText_l1 y2 (List.getD y0 (y2 : Int).toNat 0) (IntKind.i64.wrap (y2 + 1)) y0 y1 y2 y3 y4 y5 y6) else none) (i_PlaceText_j2 y3 y4 y5 y6)) := by
  refine (loopK_eq Tryz.prog (i_PlaceText_E) (sub (Tryz.f43.body.getD .skip) [1, 1, 1, 0, 1, 0, 0]) _ _).trans ?_
  kernel_rfl
theorem i_PlaceText_l1_eq (y0 : Int) (y1 : Int) (y2 : Int) (y3 : List (Int)) (y4 : Int) (y5 : Int) (y6 : List (Int)) (y7 : Int) (y8 : List (Int)) (y9 : List (ByteArray)) : i_PlaceText_l1 y0 y1 y2 y3 y4 y5 y6 y7 y8 y9 = (cond ((decide (y2 < (List.length y6 : Int)))) (if y2 < 0 then none else (cond (((Go.bits .and IntKind.i64 (Int.fdiv y1 (2 ^ min (y2 : Int).toNat IntKind.i64.bits)) 1) == 1)) (Option.bind (x_strconv_Itoa_f y0) fun r1 => (Option.bind (x_strconv_Itoa_f y2) fun r2 => (if ByteArray.size r1 + ByteArray.size r2 ≤ 9223372036854775807 then (if (List.length y9 + List.length ([(r1 ++ r2)] : List (ByteArray))) * 16 ≤ 140737488355328 then (i_PlaceText_l1 y0 y1 (IntKind.i64.wrap (y2 + 1)) y3 y4 y5 y6 y7 y8 (y9 ++ ([(r1 ++ r2)] : List (ByteArray)))) else none) else none))) (i_PlaceText_l1 y0 y1 (IntKind.i64.wrap (y2 + 1)) y3 y4 y5 y6 y7 y8 y9))) (i_PlaceText_l0 y3 y4 (IntKind.i64.wrap (y5 + 1)) y6 y7 y8 y9)) := by
  refine (loopK_eq Tryz.prog (i_PlaceText_E) (sub (Tryz.f43.body.getD .skip) [1, 1, 1, 0, 1, 0, 0, 1, 1, 0, 0, 1, 1, 0, 0]) _ _).trans ?_
  kernel_rfl
theorem i_PlaceText_j2_eq (y0 : List (Int)) (y1 : Int) (y2 : List (Int)) (y3 : List (ByteArray)) : i_PlaceText_j2 y0 y1 y2 y3 = (cond (((List.length y3 : Int) == 0)) (if (List.length y3 + List.length ([str15] : List (ByteArray))) * 16 ≤ 140737488355328 then (i_PlaceText_j3 y0 y1 y2 (y3 ++ ([str15] : List (ByteArray)))) else none) (i_PlaceText_j3 y0 y1 y2 y3)) := by
  kernel_rfl
theorem i_PlaceText_j3_eq (y0 : List (Int)) (y1 : Int) (y2 : List (Int)) (y3 : List (ByteArray)) : i_PlaceText_j3 y0 y1 y2 y3 = (Option.bind (x_strconv_Itoa_f (List.length y0 : Int)) fun r1 => (if ByteArray.size r1 + ByteArray.size str1 ≤ 9223372036854775807 then (Option.bind (x_strings_Join_f (y3, str14)) fun r2 => (if ByteArray.size (r1 ++ str1) + ByteArray.size r2 ≤ 9223372036854775807 then (if ByteArray.size ((r1 ++ str1) ++ r2) + ByteArray.size str1 ≤ 9223372036854775807 then (Option.bind (x_strconv_Itoa_f y1) fun r3 => (if ByteArray.size (((r1 ++ str1) ++ r2) ++ str1) + ByteArray.size r3 ≤ 9223372036854775807 then (if ByteArray.size ((((r1 ++ str1) ++ r2) ++ str1) ++ r3) + ByteArray.size str1 ≤ 9223372036854775807 then (i_PlaceText_l4 (((((r1 ++ str1) ++ r2) ++ str1) ++ r3) ++ str1) y2 (List.length y2 : Int) 0) else none) else none)) else none) else none)) else none)) := by
  kernel_rfl
theorem i_PlaceText_l4_eq (y0 : ByteArray) (y1 : List (Int)) (y2 : Int) (y3 : Int) : i_PlaceText_l4 y0 y1 y2 y3 = (cond ((decide (y3 < y2))) (if (0 : Int) ≤ y3 ∧ y3 < (List.length y1 : Int) then (Option.bind (x_strconv_Itoa_f (List.getD y1 (y3 : Int).toNat 0)) fun r1 => (if ByteArray.size y0 + ByteArray.size r1 ≤ 9223372036854775807 then (i_PlaceText_l4 (y0 ++ r1) y1 y2 (IntKind.i64.wrap (y3 + 1))) else none)) else none) (some y0)) := by
  refine (loopK_eq Tryz.prog (i_PlaceText_E) (sub (Tryz.f43.body.getD .skip) [1, 1, 1, 1, 1, 1, 0, 1, 0, 0]) _ _).trans ?_
  kernel_rfl
theorem i_PlaceText_ent : Entb Tryz.prog 43 := ⟨Tryz.f43, by kernel_rfl, by kernel_rfl, by kernel_rfl⟩
theorem i_PlaceText_ok : CtrOk Tryz.prog 43 ⟨i_PlaceText_sig, i_PlaceText_f⟩ :=
  ctr_of (fn := Tryz.f43) (by kernel_rfl) (by kernel_rfl) (fun x : Ts i_PlaceText_sig.pc => i_PlaceText_E) (fun x => ⟨(fn_cons ⟨i_PlaceOk_ok, i_PlaceOk_ent⟩ (fn_cons ⟨x_strconv_Itoa_ok, x_strconv_Itoa_ent⟩ (fn_cons ⟨x_strings_Join_ok, x_strings_Join_ent⟩ fn_none))), clo_none, wr_none⟩) (fun h => by cases h) follows_ (fun _ _ => trivial)
end FN
set_option linter.unusedVariables false
namespace FN
open Go Go.Proofs
/-! loop.example/firingnets/impl.ReadPlace -/
@[reducible] def i_ReadPlace_sig : Sig := { ps := [none], pc := [.str], rs := [some 3, none], rc := [.row 3 .i64, .int .i64, .row 3 .i64, .bool] }
noncomputable def i_ReadPlace_E : Env' := { fn := fun f => if f = 42 then some ⟨x_strings_Split_sig, x_strings_Split_f⟩ else if f = 43 then some ⟨i_PlaceText_sig, i_PlaceText_f⟩ else none, ck := ckT, cuts := [(10, [0, 2, 4, 5, 6, 61, 62, 63]), (15, [0, 2, 4, 5, 6, 9, 10, 61, 62, 63]), (17, [0, 2, 4, 5, 6, 9, 10, 61, 62, 63]), (18, [0, 2, 4, 5, 6, 9, 10, 61, 62, 63]), (20, [0, 2, 4, 6]), (21, [0, 2, 4, 6, 118, 119]), (25, [0, 2, 6])], mine := fun i => false }
noncomputable def i_ReadPlace_f (x : Ts i_ReadPlace_sig.pc) : Option (Ts i_ReadPlace_sig.rc) := runFn Tryz.prog (i_ReadPlace_E) Tryz.f30 i_ReadPlace_sig x
noncomputable def i_ReadPlace_l0 (y0 : ByteArray) (y1 : List (ByteArray)) (y2 : Int) (y3 : List (ByteArray)) (y4 : Int) (y5 : Int) (y6 : Int) (y7 : Int) (y8 : List (Int)) : Option ((List (Int)) × (Int) × (List (Int)) × (Bool)) := from_ Tryz.prog (i_ReadPlace_E) Tryz.f30 i_ReadPlace_sig [1, 1, 1, 1, 1, 1, 0, 1, 0, 1, 0] ⟨mkT 141 [(0, .str y0), (2, .ptr 0 0), (4, .row true .str y1), (5, .int .i64 y2), (6, .ptr 1 0), (61, .row true .str y3), (62, .int .i64 y4), (63, .int .i64 y5)], [some (.box 27 [.nilS, .int .i64 y6, .nilS]), some (.box 27 [.own 2, .int .i64 y7, .nilS]), some (.arr 3 true .i64 y8)]⟩
noncomputable def i_ReadPlace_j1 (y0 : ByteArray) (y1 : List (ByteArray)) (y2 : Int) (y3 : Int) (y4 : List (Int)) : Option ((List (Int)) × (Int) × (List (Int)) × (Bool)) := from_ Tryz.prog (i_ReadPlace_E) Tryz.f30 i_ReadPlace_sig [1, 1, 1, 1, 1, 1, 1] ⟨mkT 141 [(0, .str y0), (2, .ptr 0 0), (4, .row true .str y1), (6, .ptr 1 0)], [some (.box 27 [.nilS, .int .i64 y2, .nilS]), some (.box 27 [.own 2, .int .i64 y3, .nilS]), some (.arr 3 true .i64 y4)]⟩
noncomputable def i_ReadPlace_j2 (y0 : ByteArray) (y1 : List (ByteArray)) (y2 : Int) (y3 : Int) (y4 : Int) (y5 : List (ByteArray)) (y6 : Int) (y7 : Int) (y8 : Int) (y9 : Int) (y10 : List (Int)) : Option ((List (Int)) × (Int) × (List (Int)) × (Bool)) := from_ Tryz.prog (i_ReadPlace_E) Tryz.f30 i_ReadPlace_sig [1, 1, 1, 1, 1, 1, 0, 1, 0, 1, 0, 0, 1, 1, 0, 0, 1, 1, 1] ⟨mkT 141 [(0, .str y0), (2, .ptr 0 0), (4, .row true .str y1), (5, .int .i64 y2), (6, .ptr 1 0), (9, .int .i64 y3), (10, .int .i64 y4), (61, .row true .str y5), (62, .int .i64 y6), (63, .int .i64 y7)], [some (.box 27 [.nilS, .int .i64 y8, .nilS]), some (.box 27 [.own 2, .int .i64 y9, .nilS]), some (.arr 3 true .i64 y10)]⟩
noncomputable def i_ReadPlace_l3 (y0 : ByteArray) (y1 : List (ByteArray)) (y2 : Int) (y3 : Int) (y4 : Int) (y5 : Int) (y6 : List (Int)) : Option ((List (Int)) × (Int) × (List (Int)) × (Bool)) := from_ Tryz.prog (i_ReadPlace_E) Tryz.f30 i_ReadPlace_sig [1, 1, 1, 1, 1, 1, 1, 0, 1, 0] ⟨mkT 141 [(0, .str y0), (2, .ptr 0 0), (4, .row true .str y1), (6, .ptr 1 0), (118, .int .i64 y2), (119, .int .i64 y3)], [some (.box 27 [.nilS, .int .i64 y4, .nilS]), some (.box 27 [.own 2, .int .i64 y5, .nilS]), some (.arr 3 true .i64 y6)]⟩
noncomputable def i_ReadPlace_j4 (y0 : ByteArray) (y1 : List (ByteArray)) (y2 : Int) (y3 : Int) (y4 : Int) (y5 : List (ByteArray)) (y6 : Int) (y7 : Int) (y8 : Int) (y9 : Int) (y10 : List (Int)) : Option ((List (Int)) × (Int) × (List (Int)) × (Bool)) := from_ Tryz.prog (i_ReadPlace_E) Tryz.f30 i_ReadPlace_sig [1, 1, 1, 1, 1, 1, 0, 1, 0, 1, 0, 0, 1, 1, 0, 0, 1, 1, 1, 1] ⟨mkT 141 [(0, .str y0), (2, .ptr 0 0), (4, .row true .str y1), (5, .int .i64 y2), (6, .ptr 1 0), (9, .int .i64 y3), (10, .int .i64 y4), (61, .row true .str y5), (62, .int .i64 y6), (63, .int .i64 y7)], [some (.box 27 [.nilS, .int .i64 y8, .nilS]), some (.box 27 [.own 2, .int .i64 y9, .nilS]), some (.arr 3 true .i64 y10)]⟩
noncomputable def i_ReadPlace_l5 (y0 : ByteArray) (y1 : List (ByteArray)) (y2 : Int) (y3 : Int) (y4 : Int) (y5 : Int) (y6 : List (Int)) (y7 : List (Int)) : Option ((List (Int)) × (Int) × (List (Int)) × (Bool)) := from_ Tryz.prog (i_ReadPlace_E) Tryz.f30 i_ReadPlace_sig [1, 1, 1, 1, 1, 1, 1, 0, 1, 0] ⟨mkT 141 [(0, .str y0), (2, .ptr 0 0), (4, .row true .str y1), (6, .ptr 1 0), (118, .int .i64 y2), (119, .int .i64 y3)], [some (.box 27 [.nilS, .int .i64 y4, .nilS]), some (.box 27 [.own 2, .int .i64 y5, .own 3]), some (.arr 3 true .i64 y6), some (.arr 3 true .i64 y7)]⟩
noncomputable def i_ReadPlace_j6 (y0 : ByteArray) (y1 : Int) (y2 : Int) (y3 : List (Int)) : Option ((List (Int)) × (Int) × (List (Int)) × (Bool)) := from_ Tryz.prog (i_ReadPlace_E) Tryz.f30 i_ReadPlace_sig [1, 1, 1, 1, 1, 1, 1, 1] ⟨mkT 141 [(0, .str y0), (2, .ptr 0 0), (6, .ptr 1 0)], [some (.box 27 [.nilS, .int .i64 y1, .nilS]), some (.box 27 [.own 2, .int .i64 y2, .nilS]), some (.arr 3 true .i64 y3)]⟩
noncomputable def i_ReadPlace_j7 (y0 : ByteArray) (y1 : List (ByteArray)) (y2 : Int) (y3 : Int) (y4 : Int) (y5 : List (ByteArray)) (y6 : Int) (y7 : Int) (y8 : Int) (y9 : Int) (y10 : List (Int)) : Option ((List (Int)) × (Int) × (List (Int)) × (Bool)) := from_ Tryz.prog (i_ReadPlace_E) Tryz.f30 i_ReadPlace_sig [1, 1, 1, 1, 1, 1, 0, 1, 0, 1, 0, 0, 1, 1, 0, 0, 1, 1, 1, 1, 1] ⟨mkT 141 [(0, .str y0), (2, .ptr 0 0), (4, .row true .str y1), (5, .int .i64 y2), (6, .ptr 1 0), (9, .int .i64 y3), (10, .int .i64 y4), (61, .row true .str y5), (62, .int .i64 y6), (63, .int .i64 y7)], [some (.box 27 [.nilS, .int .i64 y8, .nilS]), some (.box 27 [.own 2, .int .i64 y9, .nilS]), some (.arr 3 true .i64 y10)]⟩
noncomputable def i_ReadPlace_j8 (y0 : ByteArray) (y1 : Int) (y2 : Int) (y3 : List (Int)) (y4 : List (Int)) : Option ((List (Int)) × (Int) × (List (Int)) × (Bool)) := from_ Tryz.prog (i_ReadPlace_E) Tryz.f30 i_ReadPlace_sig [1, 1, 1, 1, 1, 1, 1, 1] ⟨mkT 141 [(0, .str y0), (2, .ptr 0 0), (6, .ptr 1 0)], [some (.box 27 [.nilS, .int .i64 y1, .nilS]), some (.box 27 [.own 2, .int .i64 y2, .own 3]), some (.arr 3 true .i64 y3), some (.arr 3 true .i64 y4)]⟩
theorem i_ReadPlace_f_eq (x0 : (ByteArray)) : i_ReadPlace_f x0 = (Option.bind (x_strings_Split_f (x0, str1)) fun r1 => (cond (((List.length r1 : Int) != 4)) (some ([], 0, [], false)) (if (0 : Int) ≤ 0 ∧ 0 < (List.length r1 : Int) then (cond (((ByteArray.size (List.getD r1 (0 : Int).toNat ByteArray.empty) : Int) != 1)) (some ([], 0, [], false)) (if (0 : Int) ≤ 2 ∧ 2 < (List.length r1 : Int) then (cond (((ByteArray.size (List.getD r1 (2 : Int).toNat ByteArray.empty) : Int) != 1)) (some ([], 0, [], false)) (if (0 : Int) ≤ 0 ∧ 0 < (List.length r1 : Int) then (if (0 : Int) ≤ 0 ∧ 0 < (ByteArray.size (List.getD r1 (0 : Int).toNat ByteArray.empty) : Int) then (cond ((decide ((IntKind.i64.wrap ((IntKind.i64.wrap ((List.getD (ByteArray.data (List.getD r1 (0 : Int).toNat ByteArray.empty)).toList (0 : Int).toNat 0).toNat : Int)) - 48)) < 1))) (some ([], 0, [], false)) (cond ((decide (6 < (IntKind.i64.wrap ((IntKind.i64.wrap ((List.getD (ByteArray.data (List.getD r1 (0 : Int).toNat ByteArray.empty)).toList (0 : Int).toNat 0).toNat : Int)) - 48))))) (some ([], 0, [], false)) (if (0 : Int) ≤ 2 ∧ 2 < (List.length r1 : Int) then (if (0 : Int) ≤ 0 ∧ 0 < (ByteArray.size (List.getD r1 (2 : Int).toNat ByteArray.empty) : Int) then (if (0 : Int) ≤ (IntKind.i64.wrap ((IntKind.i64.wrap ((List.getD (ByteArray.data (List.getD r1 (0 : Int).toNat ByteArray.empty)).toList (0 : Int).toNat 0).toNat : Int)) - 48)) ∧ (IntKind.i64.wrap ((IntKind.i64.wrap ((List.getD (ByteArray.data (List.getD r1 (0 : Int).toNat ByteArray.empty)).toList (0 : Int).toNat 0).toNat : Int)) - 48)) * 8 ≤ 140737488355328 ∧ (IntKind.i64.wrap ((IntKind.i64.wrap ((List.getD (ByteArray.data (List.getD r1 (0 : Int).toNat ByteArray.empty)).toList (0 : Int).toNat 0).toNat : Int)) - 48)) ≤ 140737488355328 then (if (0 : Int) ≤ 1 ∧ 1 < (List.length r1 : Int) then (cond ((!(ByteArray.toList (List.getD r1 (1 : Int).toNat ByteArray.empty) == ByteArray.toList str15))) (if (0 : Int) ≤ 1 ∧ 1 < (List.length r1 : Int) then (Option.bind (x_strings_Split_f ((List.getD r1 (1 : Int).toNat ByteArray.empty), str14)) fun r2 => (i_ReadPlace_l0 x0 r1 (IntKind.i64.wrap ((IntKind.i64.wrap ((List.getD (ByteArray.data (List.getD r1 (0 : Int).toNat ByteArray.empty)).toList (0 : Int).toNat 0).toNat : Int)) - 48)) r2 (List.length r2 : Int) 0 0 (IntKind.i64.wrap ((IntKind.i64.wrap ((List.getD (ByteArray.data (List.getD r1 (2 : Int).toNat ByteArray.empty)).toList (0 : Int).toNat 0).toNat : Int)) - 48)) (List.replicate ((IntKind.i64.wrap ((IntKind.i64.wrap ((List.getD (ByteArray.data (List.getD r1 (0 : Int).toNat ByteArray.empty)).toList (0 : Int).toNat 0).toNat : Int)) - 48)) : Int).toNat 0 : List (Int)))) else none) (i_ReadPlace_j1 x0 r1 0 (IntKind.i64.wrap ((IntKind.i64.wrap ((List.getD (ByteArray.data (List.getD r1 (2 : Int).toNat ByteArray.empty)).toList (0 : Int).toNat 0).toNat : Int)) - 48)) (List.replicate ((IntKind.i64.wrap ((IntKind.i64.wrap ((List.getD (ByteArray.data (List.getD r1 (0 : Int).toNat ByteArray.empty)).toList (0 : Int).toNat 0).toNat : Int)) - 48)) : Int).toNat 0 : List (Int)))) else none) else none) else none) else none))) else none) else none)) else none)) else none))) := by
  refine Eq.trans (b := (Option.bind (x_strings_Split_f (x0, str1)) fun r1 => (cond (((List.length r1 : Int) != 4)) (some ([], 0, [], false)) (if (0 : Int) ≤ 0 ∧ 0 < (List.length r1 : Int) then (cond (((ByteArray.size (List.getD r1 (0 : Int).toNat ByteArray.empty) : Int) != 1)) (some ([], 0, [], false)) (if (0 : Int) ≤ 2 ∧ 2 < (List.length r1 : Int) then (cond (((ByteArray.size (List.getD r1 (2 : Int).toNat ByteArray.empty) : Int) != 1)) (some ([], 0, [], false)) (if (0 : Int) ≤ 0 ∧ 0 < (List.length r1 : Int) then (if (0 : Int) ≤ 0 ∧ 0 < (ByteArray.size (List.getD r1 (0 : Int).toNat ByteArray.empty) : Int) then (cond ((decide ((IntKind.i64.wrap ((IntKind.i64.wrap ((List.getD (ByteArray.data (List.getD r1 (0 : Int).toNat ByteArray.empty)).toList (0 : Int).toNat 0).toNat : Int)) - 48)) < 1))) (some ([], 0, [], false)) (cond ((decide (6 < (IntKind.i64.wrap ((IntKind.i64.wrap ((List.getD (ByteArray.data (List.getD r1 (0 : Int).toNat ByteArray.empty)).toList (0 : Int).toNat 0).toNat : Int)) - 48))))) (some ([], 0, [], false)) (if (0 : Int) ≤ 2 ∧ 2 < (List.length r1 : Int) then (if (0 : Int) ≤ 0 ∧ 0 < (ByteArray.size (List.getD r1 (2 : Int).toNat ByteArray.empty) : Int) then (same [(if (0 : Int) ≤ (IntKind.i64.wrap ((IntKind.i64.wrap ((List.getD (ByteArray.data (List.getD r1 (0 : Int).toNat ByteArray.empty)).toList (0 : Int).toNat 0).toNat : Int)) - 48)) ∧ (IntKind.i64.wrap ((IntKind.i64.wrap ((List.getD (ByteArray.data (List.getD r1 (0 : Int).toNat ByteArray.empty)).toList (0 : Int).toNat 0).toNat : Int)) - 48)) * 8 ≤ 140737488355328 ∧ (IntKind.i64.wrap ((IntKind.i64.wrap ((List.getD (ByteArray.data (List.getD r1 (0 : Int).toNat ByteArray.empty)).toList (0 : Int).toNat 0).toNat : Int)) - 48)) ≤ 140737488355328 then (if (0 : Int) ≤ 1 ∧ 1 < (List.length r1 : Int) then (cond ((!(ByteArray.toList (List.getD r1 (1 : Int).toNat ByteArray.empty) == ByteArray.toList str15))) (if (0 : Int) ≤ 1 ∧ 1 < (List.length r1 : Int) then (Option.bind (x_strings_Split_f ((List.getD r1 (1 : Int).toNat ByteArray.empty), str14)) fun r2 => (i_ReadPlace_l0 x0 r1 (IntKind.i64.wrap ((IntKind.i64.wrap ((List.getD (ByteArray.data (List.getD r1 (0 : Int).toNat ByteArray.empty)).toList (0 : Int).toNat 0).toNat : Int)) - 48)) r2 (List.length r2 : Int) 0 0 (IntKind.i64.wrap ((IntKind.i64.wrap ((List.getD (ByteArray.data (List.getD r1 (2 : Int).toNat ByteArray.empty)).toList (0 : Int).toNat 0).toNat : Int)) - 48)) (List.replicate ((IntKind.i64.wrap ((IntKind.i64.wrap ((List.getD (ByteArray.data (List.getD r1 (0 : Int).toNat ByteArray.empty)).toList (0 : Int).toNat 0).toNat : Int)) - 48)) : Int).toNat 0 : List (Int)))) else none) (i_ReadPlace_j1 x0 r1 0 (IntKind.i64.wrap ((IntKind.i64.wrap ((List.getD (ByteArray.data (List.getD r1 (2 : Int).toNat ByteArray.empty)).toList (0 : Int).toNat 0).toNat : Int)) - 48)) (List.replicate ((IntKind.i64.wrap ((IntKind.i64.wrap ((List.getD (ByteArray.data (List.getD r1 (0 : Int).toNat ByteArray.empty)).toList (0 : Int).toNat 0).toNat : Int)) - 48)) : Int).toNat 0 : List (Int)))) else none) else none), (if (0 : Int) ≤ (IntKind.i64.wrap ((IntKind.i64.wrap ((List.getD (ByteArray.data (List.getD r1 (0 : Int).toNat ByteArray.empty)).toList (0 : Int).toNat 0).toNat : Int)) - 48)) ∧ (IntKind.i64.wrap ((IntKind.i64.wrap ((List.getD (ByteArray.data (List.getD r1 (0 : Int).toNat ByteArray.empty)).toList (0 : Int).toNat 0).toNat : Int)) - 48)) * 8 ≤ 140737488355328 ∧ (IntKind.i64.wrap ((IntKind.i64.wrap ((List.getD (ByteArray.data (List.getD r1 (0 : Int).toNat ByteArray.empty)).toList (0 : Int).toNat 0).toNat : Int)) - 48)) ≤ 140737488355328 then (if (0 : Int) ≤ 1 ∧ 1 < (List.length r1 : Int) then (cond ((!(ByteArray.toList (List.getD r1 (1 : Int).toNat ByteArray.empty) == ByteArray.toList str15))) (if (0 : Int) ≤ 1 ∧ 1 < (List.length r1 : Int) then (Option.bind (x_strings_Split_f ((List.getD r1 (1 : Int).toNat ByteArray.empty), str14)) fun r2 => (i_ReadPlace_l0 x0 r1 (IntKind.i64.wrap ((IntKind.i64.wrap ((List.getD (ByteArray.data (List.getD r1 (0 : Int).toNat ByteArray.empty)).toList (0 : Int).toNat 0).toNat : Int)) - 48)) r2 (List.length r2 : Int) 0 0 (IntKind.i64.wrap ((IntKind.i64.wrap ((List.getD (ByteArray.data (List.getD r1 (2 : Int).toNat ByteArray.empty)).toList (0 : Int).toNat 0).toNat : Int)) - 48)) (List.replicate ((IntKind.i64.wrap ((IntKind.i64.wrap ((List.getD (ByteArray.data (List.getD r1 (0 : Int).toNat ByteArray.empty)).toList (0 : Int).toNat 0).toNat : Int)) - 48)) : Int).toNat 0 : List (Int)))) else none) (i_ReadPlace_j1 x0 r1 0 (IntKind.i64.wrap ((IntKind.i64.wrap ((List.getD (ByteArray.data (List.getD r1 (2 : Int).toNat ByteArray.empty)).toList (0 : Int).toNat 0).toNat : Int)) - 48)) (List.replicate ((IntKind.i64.wrap ((IntKind.i64.wrap ((List.getD (ByteArray.data (List.getD r1 (0 : Int).toNat ByteArray.empty)).toList (0 : Int).toNat 0).toNat : Int)) - 48)) : Int).toNat 0 : List (Int)))) else none) else none)]) else none) else none))) else none) else none)) else none)) else none)))) (by kernel_rfl) ?_
  simp only [same2, same3, same4, same5, same6, obind_ite]
theorem i_ReadPlace_l0_eq (y0 : ByteArray) (y1 : List (ByteArray)) (y2 : Int) (y3 : List (ByteArray)) (y4 : Int) (y5 : Int) (y6 : Int) (y7 : Int) (y8 : List (Int)) : i_ReadPlace_l0 y0 y1 y2 y3 y4 y5 y6 y7 y8 = (cond ((decide (y5 < y4))) (if (0 : Int) ≤ y5 ∧ y5 < (List.length y3 : Int) then (cond (((ByteArray.size (List.getD y3 (y5 : Int).toNat ByteArray.empty) : Int) != 2)) (some ([], 0, [], false)) (if (0 : Int) ≤ 0 ∧ 0 < (ByteArray.size (List.getD y3 (y5 : Int).toNat ByteArray.empty) : Int) then (if (0 : Int) ≤ 1 ∧ 1 < (ByteArray.size (List.getD y3 (y5 : Int).toNat ByteArray.empty) : Int) then (i_ReadPlace_j2 y0 y1 y2 (IntKind.i64.wrap ((IntKind.i64.wrap ((List.getD (ByteArray.data (List.getD y3 (y5 : Int).toNat ByteArray.empty)).toList (0 : Int).toNat 0).toNat : Int)) - 48)) (IntKind.i64.wrap ((IntKind.i64.wrap ((List.getD (ByteArray.data (List.getD y3 (y5 : Int).toNat ByteArray.empty)).toList (1 : Int).toNat 0).toNat : Int)) - 48)) y3 y4 y5 y6 y7 y8) else none) else none)) else none) (i_ReadPlace_j1 y0 y1 y6 y7 y8)) := by
  refine (loopK_eq Tryz.prog (i_ReadPlace_E) (sub (Tryz.f30.body.getD .skip) [1, 1, 1, 1, 1, 1, 0, 1, 0, 1, 0, 0]) _ _).trans ?_
  kernel_rfl
theorem i_ReadPlace_j1_eq (y0 : ByteArray) (y1 : List (ByteArray)) (y2 : Int) (y3 : Int) (y4 : List (Int)) : i_ReadPlace_j1 y0 y1 y2 y3 y4 = (if (0 : Int) ≤ 3 ∧ 3 < (List.length y1 : Int) then (i_ReadPlace_l3 y0 y1 (ByteArray.size (List.getD y1 (3 : Int).toNat ByteArray.empty) : Int) 0 y2 y3 y4) else none) := by
  kernel_rfl
theorem i_ReadPlace_j2_eq (y0 : ByteArray) (y1 : List (ByteArray)) (y2 : Int) (y3 : Int) (y4 : Int) (y5 : List (ByteArray)) (y6 : Int) (y7 : Int) (y8 : Int) (y9 : Int) (y10 : List (Int)) : i_ReadPlace_j2 y0 y1 y2 y3 y4 y5 y6 y7 y8 y9 y10 = (cond ((decide (y3 < 0))) (some ([], 0, [], false)) (cond ((decide (y2 ≤ y3))) (some ([], 0, [], false)) (cond ((decide (y4 < 0))) (some ([], 0, [], false)) (cond ((decide (y2 ≤ y4))) (some ([], 0, [], false)) (i_ReadPlace_j4 y0 y1 y2 y3 y4 y5 y6 y7 y8 y9 y10))))) := by
  kernel_rfl
theorem i_ReadPlace_l3_eq (y0 : ByteArray) (y1 : List (ByteArray)) (y2 : Int) (y3 : Int) (y4 : Int) (y5 : Int) (y6 : List (Int)) : i_ReadPlace_l3 y0 y1 y2 y3 y4 y5 y6 = (cond ((decide (y3 < y2))) (if (0 : Int) ≤ 3 ∧ 3 < (List.length y1 : Int) then (if (0 : Int) ≤ y3 ∧ y3 < (ByteArray.size (List.getD y1 (3 : Int).toNat ByteArray.empty) : Int) then (if (List.length ([] : List (Int)) + List.length ([(IntKind.i64.wrap ((IntKind.i64.wrap ((List.getD (ByteArray.data (List.getD y1 (3 : Int).toNat ByteArray.empty)).toList (y3 : Int).toNat 0).toNat : Int)) - 48))] : List (Int))) * 8 ≤ 140737488355328 then (i_ReadPlace_l5 y0 y1 y2 (IntKind.i64.wrap (y3 + 1)) y4 y5 y6 (([] : List (Int)) ++ ([(IntKind.i64.wrap ((IntKind.i64.wrap ((List.getD (ByteArray.data (List.getD y1 (3 : Int).toNat ByteArray.empty)).toList (y3 : Int).toNat 0).toNat : Int)) - 48))] : List (Int)))) else none) else none) else none) (i_ReadPlace_j6 y0 y4 y5 y6)) := by
  refine (loopK_eq Tryz.prog (i_ReadPlace_E) (sub (Tryz.f30.body.getD .skip) [1, 1, 1, 1, 1, 1, 1, 0, 1, 0, 0]) _ _).trans ?_
  kernel_rfl
theorem i_ReadPlace_j4_eq (y0 : ByteArray) (y1 : List (ByteArray)) (y2 : Int) (y3 : Int) (y4 : Int) (y5 : List (ByteArray)) (y6 : Int) (y7 : Int) (y8 : Int) (y9 : Int) (y10 : List (Int)) : i_ReadPlace_j4 y0 y1 y2 y3 y4 y5 y6 y7 y8 y9 y10 = (if (0 : Int) ≤ y3 ∧ y3 < (List.length y10 : Int) then (if y4 < 0 then none else (if (0 : Int) ≤ y3 ∧ y3 < (List.length y10 : Int) then (i_ReadPlace_j7 y0 y1 y2 y3 y4 y5 y6 y7 y8 y9 (List.set y10 (y3 : Int).toNat (Go.bits .or IntKind.i64 (List.getD y10 (y3 : Int).toNat 0) (IntKind.i64.wrap (1 * 2 ^ min (y4 : Int).toNat IntKind.i64.bits))))) else none)) else none) := by
  kernel_rfl
theorem i_ReadPlace_l5_eq (y0 : ByteArray) (y1 : List (ByteArray)) (y2 : Int) (y3 : Int) (y4 : Int) (y5 : Int) (y6 : List (Int)) (y7 : List (Int)) : i_ReadPlace_l5 y0 y1 y2 y3 y4 y5 y6 y7 = (cond ((decide (y3 < y2))) (if (0 : Int) ≤ 3 ∧ 3 < (List.length y1 : Int) then (if (0 : Int) ≤ y3 ∧ y3 < (ByteArray.size (List.getD y1 (3 : Int).toNat ByteArray.empty) : Int) then (if (List.length y7 + List.length ([(IntKind.i64.wrap ((IntKind.i64.wrap ((List.getD (ByteArray.data (List.getD y1 (3 : Int).toNat ByteArray.empty)).toList (y3 : Int).toNat 0).toNat : Int)) - 48))] : List (Int))) * 8 ≤ 140737488355328 then (i_ReadPlace_l5 y0 y1 y2 (IntKind.i64.wrap (y3 + 1)) y4 y5 y6 (y7 ++ ([(IntKind.i64.wrap ((IntKind.i64.wrap ((List.getD (ByteArray.data (List.getD y1 (3 : Int).toNat ByteArray.empty)).toList (y3 : Int).toNat 0).toNat : Int)) - 48))] : List (Int)))) else none) else none) else none) (i_ReadPlace_j8 y0 y4 y5 y6 y7)) := by
  refine (loopK_eq Tryz.prog (i_ReadPlace_E) (sub (Tryz.f30.body.getD .skip) [1, 1, 1, 1, 1, 1, 1, 0, 1, 0, 0]) _ _).trans ?_
  kernel_rfl
theorem i_ReadPlace_j6_eq (y0 : ByteArray) (y1 : Int) (y2 : Int) (y3 : List (Int)) : i_ReadPlace_j6 y0 y1 y2 y3 = (Option.bind (i_PlaceText_f (y3, y2, [])) fun r1 => (cond ((!(ByteArray.toList r1 == ByteArray.toList y0))) (some ([], 0, [], false)) (some (y3, y2, [], true)))) := by
  kernel_rfl
theorem i_ReadPlace_j7_eq (y0 : ByteArray) (y1 : List (ByteArray)) (y2 : Int) (y3 : Int) (y4 : Int) (y5 : List (ByteArray)) (y6 : Int) (y7 : Int) (y8 : Int) (y9 : Int) (y10 : List (Int)) : i_ReadPlace_j7 y0 y1 y2 y3 y4 y5 y6 y7 y8 y9 y10 = (if (0 : Int) ≤ y4 ∧ y4 < (List.length y10 : Int) then (if y3 < 0 then none else (if (0 : Int) ≤ y4 ∧ y4 < (List.length y10 : Int) then (i_ReadPlace_l0 y0 y1 y2 y5 y6 (IntKind.i64.wrap (y7 + 1)) y8 y9 (List.set y10 (y4 : Int).toNat (Go.bits .or IntKind.i64 (List.getD y10 (y4 : Int).toNat 0) (IntKind.i64.wrap (1 * 2 ^ min (y3 : Int).toNat IntKind.i64.bits))))) else none)) else none) := by
  kernel_rfl
theorem i_ReadPlace_j8_eq (y0 : ByteArray) (y1 : Int) (y2 : Int) (y3 : List (Int)) (y4 : List (Int)) : i_ReadPlace_j8 y0 y1 y2 y3 y4 = (Option.bind (i_PlaceText_f (y3, y2, y4)) fun r1 => (cond ((!(ByteArray.toList r1 == ByteArray.toList y0))) (some ([], 0, [], false)) (some (y3, y2, y4, true)))) := by
  kernel_rfl
theorem i_ReadPlace_ent : Entb Tryz.prog 30 := ⟨Tryz.f30, by kernel_rfl, by kernel_rfl, by kernel_rfl⟩
theorem i_ReadPlace_ok : CtrOk Tryz.prog 30 ⟨i_ReadPlace_sig, i_ReadPlace_f⟩ :=
  ctr_of (fn := Tryz.f30) (by kernel_rfl) (by kernel_rfl) (fun x : Ts i_ReadPlace_sig.pc => i_ReadPlace_E) (fun x => ⟨(fn_cons ⟨x_strings_Split_ok, x_strings_Split_ent⟩ (fn_cons ⟨i_PlaceText_ok, i_PlaceText_ent⟩ fn_none)), clo_none, wr_none⟩) (fun h => by cases h) follows_ (fun _ _ => trivial)
end FN
set_option linter.unusedVariables false
namespace FN
open Go Go.Proofs
/-! loop.example/firingnets/spec.ReadPlace -/
@[reducible] def s_ReadPlace_sig : Sig := { ps := [none], pc := [.str], rs := [some 3, none], rc := [.row 3 .i64, .int .i64, .row 3 .i64, .bool] }
noncomputable def s_ReadPlace_E : Env' := { fn := fun f => if f = 23 then some ⟨s_l1In_sig, s_l1In_f⟩ else if f = 24 then some ⟨s_l1Cut_sig, s_l1Cut_f⟩ else if f = 25 then some ⟨s_l1Digits_sig, s_l1Digits_f⟩ else if f = 26 then some ⟨s_PlaceText_sig, s_PlaceText_f⟩ else none, ck := ckT, cuts := [(7, [0, 2, 4, 5, 6, 7]), (13, [0, 2, 4, 5, 6, 7, 8, 9]), (15, [0, 2, 4, 5, 6, 7, 8, 9]), (16, [0, 2, 4, 5, 6, 7, 8, 9]), (17, [0, 2, 4, 5]), (18, [0, 2, 4, 5, 10]), (21, [0, 2, 5])], mine := fun i => false }
noncomputable def s_ReadPlace_f (x : Ts s_ReadPlace_sig.pc) : Option (Ts s_ReadPlace_sig.rc) := runFn Tryz.prog (s_ReadPlace_E) Tryz.f12 s_ReadPlace_sig x
noncomputable def s_ReadPlace_l0 (y0 : ByteArray) (y1 : List (ByteArray)) (y2 : List (ByteArray)) (y3 : Int) (y4 : Int) (y5 : Int) (y6 : List (Int)) : Option ((List (Int)) × (Int) × (List (Int)) × (Bool)) := from_ Tryz.prog (s_ReadPlace_E) Tryz.f12 s_ReadPlace_sig [1, 1, 1, 1, 1, 0, 1, 0] ⟨mkT 139 [(0, .str y0), (2, .ptr 0 0), (4, .row true .str y1), (5, .ptr 1 0), (6, .row true .str y2), (7, .int .i64 y3)], [some (.box 27 [.nilS, .int .i64 y4, .nilS]), some (.box 27 [.own 2, .int .i64 y5, .nilS]), some (.arr 3 true .i64 y6)]⟩
noncomputable def s_ReadPlace_j1 (y0 : ByteArray) (y1 : List (ByteArray)) (y2 : List (ByteArray)) (y3 : Int) (y4 : Int) (y5 : Int) (y6 : Int) (y7 : Int) (y8 : List (Int)) : Option ((List (Int)) × (Int) × (List (Int)) × (Bool)) := from_ Tryz.prog (s_ReadPlace_E) Tryz.f12 s_ReadPlace_sig [1, 1, 1, 1, 1, 0, 1, 0, 0, 1, 0, 0, 1, 1, 1] ⟨mkT 139 [(0, .str y0), (2, .ptr 0 0), (4, .row true .str y1), (5, .ptr 1 0), (6, .row true .str y2), (7, .int .i64 y3), (8, .int .i64 y4), (9, .int .i64 y5)], [some (.box 27 [.nilS, .int .i64 y6, .nilS]), some (.box 27 [.own 2, .int .i64 y7, .nilS]), some (.arr 3 true .i64 y8)]⟩
noncomputable def s_ReadPlace_j2 (y0 : ByteArray) (y1 : List (ByteArray)) (y2 : Int) (y3 : Int) (y4 : List (Int)) : Option ((List (Int)) × (Int) × (List (Int)) × (Bool)) := from_ Tryz.prog (s_ReadPlace_E) Tryz.f12 s_ReadPlace_sig [1, 1, 1, 1, 1, 1] ⟨mkT 139 [(0, .str y0), (2, .ptr 0 0), (4, .row true .str y1), (5, .ptr 1 0)], [some (.box 27 [.nilS, .int .i64 y2, .nilS]), some (.box 27 [.own 2, .int .i64 y3, .nilS]), some (.arr 3 true .i64 y4)]⟩
noncomputable def s_ReadPlace_j3 (y0 : ByteArray) (y1 : List (ByteArray)) (y2 : List (ByteArray)) (y3 : Int) (y4 : Int) (y5 : Int) (y6 : Int) (y7 : Int) (y8 : List (Int)) : Option ((List (Int)) × (Int) × (List (Int)) × (Bool)) := from_ Tryz.prog (s_ReadPlace_E) Tryz.f12 s_ReadPlace_sig [1, 1, 1, 1, 1, 0, 1, 0, 0, 1, 0, 0, 1, 1, 1, 1] ⟨mkT 139 [(0, .str y0), (2, .ptr 0 0), (4, .row true .str y1), (5, .ptr 1 0), (6, .row true .str y2), (7, .int .i64 y3), (8, .int .i64 y4), (9, .int .i64 y5)], [some (.box 27 [.nilS, .int .i64 y6, .nilS]), some (.box 27 [.own 2, .int .i64 y7, .nilS]), some (.arr 3 true .i64 y8)]⟩
noncomputable def s_ReadPlace_l4 (y0 : ByteArray) (y1 : List (ByteArray)) (y2 : Int) (y3 : Int) (y4 : Int) (y5 : List (Int)) : Option ((List (Int)) × (Int) × (List (Int)) × (Bool)) := from_ Tryz.prog (s_ReadPlace_E) Tryz.f12 s_ReadPlace_sig [1, 1, 1, 1, 1, 1, 0, 1, 0] ⟨mkT 139 [(0, .str y0), (2, .ptr 0 0), (4, .row true .str y1), (5, .ptr 1 0), (10, .int .i64 y2)], [some (.box 27 [.nilS, .int .i64 y3, .nilS]), some (.box 27 [.own 2, .int .i64 y4, .nilS]), some (.arr 3 true .i64 y5)]⟩
noncomputable def s_ReadPlace_j5 (y0 : ByteArray) (y1 : List (ByteArray)) (y2 : List (ByteArray)) (y3 : Int) (y4 : Int) (y5 : Int) (y6 : Int) (y7 : Int) (y8 : List (Int)) : Option ((List (Int)) × (Int) × (List (Int)) × (Bool)) := from_ Tryz.prog (s_ReadPlace_E) Tryz.f12 s_ReadPlace_sig [1, 1, 1, 1, 1, 0, 1, 0, 0, 1, 0, 0, 1, 1, 1, 1, 1] ⟨mkT 139 [(0, .str y0), (2, .ptr 0 0), (4, .row true .str y1), (5, .ptr 1 0), (6, .row true .str y2), (7, .int .i64 y3), (8, .int .i64 y4), (9, .int .i64 y5)], [some (.box 27 [.nilS, .int .i64 y6, .nilS]), some (.box 27 [.own 2, .int .i64 y7, .nilS]), some (.arr 3 true .i64 y8)]⟩
noncomputable def s_ReadPlace_l6 (y0 : ByteArray) (y1 : List (ByteArray)) (y2 : Int) (y3 : Int) (y4 : Int) (y5 : List (Int)) (y6 : List (Int)) : Option ((List (Int)) × (Int) × (List (Int)) × (Bool)) := from_ Tryz.prog (s_ReadPlace_E) Tryz.f12 s_ReadPlace_sig [1, 1, 1, 1, 1, 1, 0, 1, 0] ⟨mkT 139 [(0, .str y0), (2, .ptr 0 0), (4, .row true .str y1), (5, .ptr 1 0), (10, .int .i64 y2)], [some (.box 27 [.nilS, .int .i64 y3, .nilS]), some (.box 27 [.own 2, .int .i64 y4, .own 3]), some (.arr 3 true .i64 y5), some (.arr 3 true .i64 y6)]⟩
noncomputable def s_ReadPlace_j7 (y0 : ByteArray) (y1 : Int) (y2 : Int) (y3 : List (Int)) : Option ((List (Int)) × (Int) × (List (Int)) × (Bool)) := from_ Tryz.prog (s_ReadPlace_E) Tryz.f12 s_ReadPlace_sig [1, 1, 1, 1, 1, 1, 1] ⟨mkT 139 [(0, .str y0), (2, .ptr 0 0), (5, .ptr 1 0)], [some (.box 27 [.nilS, .int .i64 y1, .nilS]), some (.box 27 [.own 2, .int .i64 y2, .nilS]), some (.arr 3 true .i64 y3)]⟩
noncomputable def s_ReadPlace_j8 (y0 : ByteArray) (y1 : Int) (y2 : Int) (y3 : List (Int)) (y4 : List (Int)) : Option ((List (Int)) × (Int) × (List (Int)) × (Bool)) := from_ Tryz.prog (s_ReadPlace_E) Tryz.f12 s_ReadPlace_sig [1, 1, 1, 1, 1, 1, 1] ⟨mkT 139 [(0, .str y0), (2, .ptr 0 0), (5, .ptr 1 0)], [some (.box 27 [.nilS, .int .i64 y1, .nilS]), some (.box 27 [.own 2, .int .i64 y2, .own 3]), some (.arr 3 true .i64 y3), some (.arr 3 true .i64 y4)]⟩
theorem s_ReadPlace_f_eq (x0 : (ByteArray)) : s_ReadPlace_f x0 = (Option.bind (s_l1Cut_f (x0, 32)) fun r1 => (cond (((List.length r1 : Int) != 4)) (some ([], 0, [], false)) (if (0 : Int) ≤ 0 ∧ 0 < (List.length r1 : Int) then (Option.bind (s_l1Digits_f (List.getD r1 (0 : Int).toNat ByteArray.empty)) fun r2 => (Option.bind (s_l1In_f (r2, 1, 6)) fun r3 => (cond ((!r3)) (some ([], 0, [], false)) (if (0 : Int) ≤ 0 ∧ 0 < (List.length r1 : Int) then (if (0 : Int) ≤ 2 ∧ 2 < (List.length r1 : Int) then (Option.bind (s_l1Digits_f (List.getD r1 (0 : Int).toNat ByteArray.empty)) fun r4 => (if (0 : Int) ≤ r4 ∧ r4 * 8 ≤ 140737488355328 ∧ r4 ≤ 140737488355328 then (Option.bind (s_l1Digits_f (List.getD r1 (2 : Int).toNat ByteArray.empty)) fun r5 => (if (0 : Int) ≤ 1 ∧ 1 < (List.length r1 : Int) then (Option.bind (s_l1Cut_f ((List.getD r1 (1 : Int).toNat ByteArray.empty), 44)) fun r6 => (s_ReadPlace_l0 x0 r1 r6 0 0 r5 (List.replicate (r4 : Int).toNat 0 : List (Int)))) else none)) else none)) else none) else none)))) else none))) := by
  refine Eq.trans (b := (Option.bind (s_l1Cut_f (x0, 32)) fun r1 => (cond (((List.length r1 : Int) != 4)) (some ([], 0, [], false)) (if (0 : Int) ≤ 0 ∧ 0 < (List.length r1 : Int) then (Option.bind (s_l1Digits_f (List.getD r1 (0 : Int).toNat ByteArray.empty)) fun r2 => (Option.bind (s_l1In_f (r2, 1, 6)) fun r3 => (cond ((!r3)) (some ([], 0, [], false)) (if (0 : Int) ≤ 0 ∧ 0 < (List.length r1 : Int) then (if (0 : Int) ≤ 2 ∧ 2 < (List.length r1 : Int) then (same [(Option.bind (s_l1Digits_f (List.getD r1 (0 : Int).toNat ByteArray.empty)) fun r4 => (same [(if (0 : Int) ≤ r4 ∧ r4 * 8 ≤ 140737488355328 ∧ r4 ≤ 140737488355328 then (same [(Option.bind (s_l1Digits_f (List.getD r1 (2 : Int).toNat ByteArray.empty)) fun r5 => (if (0 : Int) ≤ 1 ∧ 1 < (List.length r1 : Int) then (Option.bind (s_l1Cut_f ((List.getD r1 (1 : Int).toNat ByteArray.empty), 44)) fun r6 => (s_ReadPlace_l0 x0 r1 r6 0 0 r5 (List.replicate (r4 : Int).toNat 0 : List (Int)))) else none)), (Option.bind (s_l1Digits_f (List.getD r1 (2 : Int).toNat ByteArray.empty)) fun r5 => (if (0 : Int) ≤ 1 ∧ 1 < (List.length r1 : Int) then (Option.bind (s_l1Cut_f ((List.getD r1 (1 : Int).toNat ByteArray.empty), 44)) fun r6 => (s_ReadPlace_l0 x0 r1 r6 0 0 r5 (List.replicate (r4 : Int).toNat 0 : List (Int)))) else none))]) else none), (Option.bind (s_l1Digits_f (List.getD r1 (2 : Int).toNat ByteArray.empty)) fun r5 => (same [(if (0 : Int) ≤ r4 ∧ r4 * 8 ≤ 140737488355328 ∧ r4 ≤ 140737488355328 then (if (0 : Int) ≤ 1 ∧ 1 < (List.length r1 : Int) then (Option.bind (s_l1Cut_f ((List.getD r1 (1 : Int).toNat ByteArray.empty), 44)) fun r6 => (s_ReadPlace_l0 x0 r1 r6 0 0 r5 (List.replicate (r4 : Int).toNat 0 : List (Int)))) else none) else none), (if (0 : Int) ≤ r4 ∧ r4 * 8 ≤ 140737488355328 ∧ r4 ≤ 140737488355328 then (if (0 : Int) ≤ 1 ∧ 1 < (List.length r1 : Int) then (Option.bind (s_l1Cut_f ((List.getD r1 (1 : Int).toNat ByteArray.empty), 44)) fun r6 => (s_ReadPlace_l0 x0 r1 r6 0 0 r5 (List.replicate (r4 : Int).toNat 0 : List (Int)))) else none) else none)])), (same [(if (0 : Int) ≤ r4 ∧ r4 * 8 ≤ 140737488355328 ∧ r4 ≤ 140737488355328 then (Option.bind (s_l1Digits_f (List.getD r1 (2 : Int).toNat ByteArray.empty)) fun r5 => (if (0 : Int) ≤ 1 ∧ 1 < (List.length r1 : Int) then (Option.bind (s_l1Cut_f ((List.getD r1 (1 : Int).toNat ByteArray.empty), 44)) fun r6 => (s_ReadPlace_l0 x0 r1 r6 0 0 r5 (List.replicate (r4 : Int).toNat 0 : List (Int)))) else none)) else none), (Option.bind (s_l1Digits_f (List.getD r1 (2 : Int).toNat ByteArray.empty)) fun r5 => (if (0 : Int) ≤ r4 ∧ r4 * 8 ≤ 140737488355328 ∧ r4 ≤ 140737488355328 then (if (0 : Int) ≤ 1 ∧ 1 < (List.length r1 : Int) then (Option.bind (s_l1Cut_f ((List.getD r1 (1 : Int).toNat ByteArray.empty), 44)) fun r6 => (s_ReadPlace_l0 x0 r1 r6 0 0 r5 (List.replicate (r4 : Int).toNat 0 : List (Int)))) else none) else none))])])), (Option.bind (s_l1Digits_f (List.getD r1 (0 : Int).toNat ByteArray.empty)) fun r4 => (same [(if (0 : Int) ≤ r4 ∧ r4 * 8 ≤ 140737488355328 ∧ r4 ≤ 140737488355328 then (Option.bind (s_l1Digits_f (List.getD r1 (2 : Int).toNat ByteArray.empty)) fun r5 => (if (0 : Int) ≤ 1 ∧ 1 < (List.length r1 : Int) then (Option.bind (s_l1Cut_f ((List.getD r1 (1 : Int).toNat ByteArray.empty), 44)) fun r6 => (s_ReadPlace_l0 x0 r1 r6 0 0 r5 (List.replicate (r4 : Int).toNat 0 : List (Int)))) else none)) else none), (Option.bind (s_l1Digits_f (List.getD r1 (2 : Int).toNat ByteArray.empty)) fun r5 => (if (0 : Int) ≤ r4 ∧ r4 * 8 ≤ 140737488355328 ∧ r4 ≤ 140737488355328 then (if (0 : Int) ≤ 1 ∧ 1 < (List.length r1 : Int) then (Option.bind (s_l1Cut_f ((List.getD r1 (1 : Int).toNat ByteArray.empty), 44)) fun r6 => (s_ReadPlace_l0 x0 r1 r6 0 0 r5 (List.replicate (r4 : Int).toNat 0 : List (Int)))) else none) else none))]))]) else none) else none)))) else none)))) (by kernel_rfl) ?_
  simp only [same2, same3, same4, same5, same6, obind_ite]
theorem s_ReadPlace_l0_eq (y0 : ByteArray) (y1 : List (ByteArray)) (y2 : List (ByteArray)) (y3 : Int) (y4 : Int) (y5 : Int) (y6 : List (Int)) : s_ReadPlace_l0 y0 y1 y2 y3 y4 y5 y6 = (cond ((decide (y3 < (List.length y2 : Int)))) (if (0 : Int) ≤ 1 ∧ 1 < (List.length y1 : Int) then (cond ((!(ByteArray.toList (List.getD y1 (1 : Int).toNat ByteArray.empty) == ByteArray.toList str15))) (if (0 : Int) ≤ y3 ∧ y3 < (List.length y2 : Int) then (cond (((ByteArray.size (List.getD y2 (y3 : Int).toNat ByteArray.empty) : Int) != 2)) (some ([], 0, [], false)) (if (0 : Int) ≤ y3 ∧ y3 < (List.length y2 : Int) then (if (0 : Int) ≤ 0 ∧ 0 < (ByteArray.size (List.getD y2 (y3 : Int).toNat ByteArray.empty) : Int) then (if (0 : Int) ≤ y3 ∧ y3 < (List.length y2 : Int) then (if (0 : Int) ≤ 1 ∧ 1 < (ByteArray.size (List.getD y2 (y3 : Int).toNat ByteArray.empty) : Int) then (s_ReadPlace_j1 y0 y1 y2 y3 (IntKind.i64.wrap ((IntKind.i64.wrap ((List.getD (ByteArray.data (List.getD y2 (y3 : Int).toNat ByteArray.empty)).toList (0 : Int).toNat 0).toNat : Int)) - 48)) (IntKind.i64.wrap ((IntKind.i64.wrap ((List.getD (ByteArray.data (List.getD y2 (y3 : Int).toNat ByteArray.empty)).toList (1 : Int).toNat 0).toNat : Int)) - 48)) y4 y5 y6) else none) else none) else none) else none)) else none) (s_ReadPlace_j2 y0 y1 y4 y5 y6)) else none) (s_ReadPlace_j2 y0 y1 y4 y5 y6)) := by
  refine (loopK_eq Tryz.prog (s_ReadPlace_E) (sub (Tryz.f12.body.getD .skip) [1, 1, 1, 1, 1, 0, 1, 0, 0]) _ _).trans ?_
  kernel_rfl
theorem s_ReadPlace_j1_eq (y0 : ByteArray) (y1 : List (ByteArray)) (y2 : List (ByteArray)) (y3 : Int) (y4 : Int) (y5 : Int) (y6 : Int) (y7 : Int) (y8 : List (Int)) : s_ReadPlace_j1 y0 y1 y2 y3 y4 y5 y6 y7 y8 = (Option.bind (s_l1In_f (y4, 0, (IntKind.i64.wrap ((List.length y8 : Int) - 1)))) fun r1 => (cond ((!r1)) (some ([], 0, [], false)) (Option.bind (s_l1In_f (y5, 0, (IntKind.i64.wrap ((List.length y8 : Int) - 1)))) fun r2 => (cond ((!r2)) (some ([], 0, [], false)) (s_ReadPlace_j3 y0 y1 y2 y3 y4 y5 y6 y7 y8))))) := by
  kernel_rfl
theorem s_ReadPlace_j2_eq (y0 : ByteArray) (y1 : List (ByteArray)) (y2 : Int) (y3 : Int) (y4 : List (Int)) : s_ReadPlace_j2 y0 y1 y2 y3 y4 = (s_ReadPlace_l4 y0 y1 0 y2 y3 y4) := by
  kernel_rfl
theorem s_ReadPlace_j3_eq (y0 : ByteArray) (y1 : List (ByteArray)) (y2 : List (ByteArray)) (y3 : Int) (y4 : Int) (y5 : Int) (y6 : Int) (y7 : Int) (y8 : List (Int)) : s_ReadPlace_j3 y0 y1 y2 y3 y4 y5 y6 y7 y8 = (if (0 : Int) ≤ y4 ∧ y4 < (List.length y8 : Int) then (if y5 < 0 then none else (if (0 : Int) ≤ y4 ∧ y4 < (List.length y8 : Int) then (s_ReadPlace_j5 y0 y1 y2 y3 y4 y5 y6 y7 (List.set y8 (y4 : Int).toNat (Go.bits .or IntKind.i64 (List.getD y8 (y4 : Int).toNat 0) (IntKind.i64.wrap (1 * 2 ^ min (y5 : Int).toNat IntKind.i64.bits))))) else none)) else none) := by
  kernel_rfl
theorem s_ReadPlace_l4_eq (y0 : ByteArray) (y1 : List (ByteArray)) (y2 : Int) (y3 : Int) (y4 : Int) (y5 : List (Int)) : s_ReadPlace_l4 y0 y1 y2 y3 y4 y5 = (if (0 : Int) ≤ 3 ∧ 3 < (List.length y1 : Int) then (cond ((decide (y2 < (ByteArray.size (List.getD y1 (3 : Int).toNat ByteArray.empty) : Int)))) (if (0 : Int) ≤ 3 ∧ 3 < (List.length y1 : Int) then (if (0 : Int) ≤ y2 ∧ y2 < (ByteArray.size (List.getD y1 (3 : Int).toNat ByteArray.empty) : Int) then (if (List.length ([] : List (Int)) + List.length ([(IntKind.i64.wrap ((IntKind.i64.wrap ((List.getD (ByteArray.data (List.getD y1 (3 : Int).toNat ByteArray.empty)).toList (y2 : Int).toNat 0).toNat : Int)) - 48))] : List (Int))) * 8 ≤ 140737488355328 then (s_ReadPlace_l6 y0 y1 (IntKind.i64.wrap (y2 + 1)) y3 y4 y5 (([] : List (Int)) ++ ([(IntKind.i64.wrap ((IntKind.i64.wrap ((List.getD (ByteArray.data (List.getD y1 (3 : Int).toNat ByteArray.empty)).toList (y2 : Int).toNat 0).toNat : Int)) - 48))] : List (Int)))) else none) else none) else none) (s_ReadPlace_j7 y0 y3 y4 y5)) else none) := by
  refine (loopK_eq Tryz.prog (s_ReadPlace_E) (sub (Tryz.f12.body.getD .skip) [1, 1, 1, 1, 1, 1, 0, 1, 0, 0]) _ _).trans ?_
  kernel_rfl
theorem s_ReadPlace_j5_eq (y0 : ByteArray) (y1 : List (ByteArray)) (y2 : List (ByteArray)) (y3 : Int) (y4 : Int) (y5 : Int) (y6 : Int) (y7 : Int) (y8 : List (Int)) : s_ReadPlace_j5 y0 y1 y2 y3 y4 y5 y6 y7 y8 = (if (0 : Int) ≤ y5 ∧ y5 < (List.length y8 : Int) then (if y4 < 0 then none else (if (0 : Int) ≤ y5 ∧ y5 < (List.length y8 : Int) then (s_ReadPlace_l0 y0 y1 y2 (IntKind.i64.wrap (y3 + 1)) y6 y7 (List.set y8 (y5 : Int).toNat (Go.bits .or IntKind.i64 (List.getD y8 (y5 : Int).toNat 0) (IntKind.i64.wrap (1 * 2 ^ min (y4 : Int).toNat IntKind.i64.bits))))) else none)) else none) := by
  kernel_rfl
theorem s_ReadPlace_l6_eq (y0 : ByteArray) (y1 : List (ByteArray)) (y2 : Int) (y3 : Int) (y4 : Int) (y5 : List (Int)) (y6 : List (Int)) : s_ReadPlace_l6 y0 y1 y2 y3 y4 y5 y6 = (if (0 : Int) ≤ 3 ∧ 3 < (List.length y1 : Int) then (cond ((decide (y2 < (ByteArray.size (List.getD y1 (3 : Int).toNat ByteArray.empty) : Int)))) (if (0 : Int) ≤ 3 ∧ 3 < (List.length y1 : Int) then (if (0 : Int) ≤ y2 ∧ y2 < (ByteArray.size (List.getD y1 (3 : Int).toNat ByteArray.empty) : Int) then (if (List.length y6 + List.length ([(IntKind.i64.wrap ((IntKind.i64.wrap ((List.getD (ByteArray.data (List.getD y1 (3 : Int).toNat ByteArray.empty)).toList (y2 : Int).toNat 0).toNat : Int)) - 48))] : List (Int))) * 8 ≤ 140737488355328 then (s_ReadPlace_l6 y0 y1 (IntKind.i64.wrap (y2 + 1)) y3 y4 y5 (y6 ++ ([(IntKind.i64.wrap ((IntKind.i64.wrap ((List.getD (ByteArray.data (List.getD y1 (3 : Int).toNat ByteArray.empty)).toList (y2 : Int).toNat 0).toNat : Int)) - 48))] : List (Int)))) else none) else none) else none) (s_ReadPlace_j8 y0 y3 y4 y5 y6)) else none) := by
  refine (loopK_eq Tryz.prog (s_ReadPlace_E) (sub (Tryz.f12.body.getD .skip) [1, 1, 1, 1, 1, 1, 0, 1, 0, 0]) _ _).trans ?_
  kernel_rfl
theorem s_ReadPlace_j7_eq (y0 : ByteArray) (y1 : Int) (y2 : Int) (y3 : List (Int)) : s_ReadPlace_j7 y0 y1 y2 y3 = (Option.bind (s_PlaceText_f (y3, y2, [])) fun r1 => (cond ((!(ByteArray.toList r1 == ByteArray.toList y0))) (some ([], 0, [], false)) (some (y3, y2, [], true)))) := by
  kernel_rfl
theorem s_ReadPlace_j8_eq (y0 : ByteArray) (y1 : Int) (y2 : Int) (y3 : List (Int)) (y4 : List (Int)) : s_ReadPlace_j8 y0 y1 y2 y3 y4 = (Option.bind (s_PlaceText_f (y3, y2, y4)) fun r1 => (cond ((!(ByteArray.toList r1 == ByteArray.toList y0))) (some ([], 0, [], false)) (some (y3, y2, y4, true)))) := by
  kernel_rfl
theorem s_ReadPlace_ent : Entb Tryz.prog 12 := ⟨Tryz.f12, by kernel_rfl, by kernel_rfl, by kernel_rfl⟩
theorem s_ReadPlace_ok : CtrOk Tryz.prog 12 ⟨s_ReadPlace_sig, s_ReadPlace_f⟩ :=
  ctr_of (fn := Tryz.f12) (by kernel_rfl) (by kernel_rfl) (fun x : Ts s_ReadPlace_sig.pc => s_ReadPlace_E) (fun x => ⟨(fn_cons ⟨s_l1In_ok, s_l1In_ent⟩ (fn_cons ⟨s_l1Cut_ok, s_l1Cut_ent⟩ (fn_cons ⟨s_l1Digits_ok, s_l1Digits_ent⟩ (fn_cons ⟨s_PlaceText_ok, s_PlaceText_ent⟩ fn_none)))), clo_none, wr_none⟩) (fun h => by cases h) follows_ (fun _ _ => trivial)
end FN
/-! strconv.Atoi: the shelf's contracts, as one of ours: the error is told by nobody. -/
namespace FN
open Go Go.Proofs Go.RowKit
def atoiV (s : ByteArray) : Int := match Lib.atoiAll s.data.toList with
  | .ok v => v
  | .«syntax» => 0
  | .range => Lib.atoiSat s.data.toList
@[reducible] def x_strconv_Atoi_sig : Sig := { ps := [none], pc := [.str], rs := [none, none], rc := [.int .i64, .any] }
def x_strconv_Atoi_f (s : Ts x_strconv_Atoi_sig.pc) : Option (Ts x_strconv_Atoi_sig.rc) := if ByteArray.size s ≤ 281474976710656 then some (atoiV s, ()) else none
theorem x_strconv_Atoi_ent : Entb Tryz.prog 56 := ⟨Tryz.f56, by kernel_rfl, by kernel_rfl, by kernel_rfl⟩
theorem kpB {pin : Pn} {w w' : World} (h : Below w.heap.size w w') : Kp pin w.heap.size w w' := ⟨h.os, h.tape, h.output, h.size, fun k hk _ => h.block k hk⟩
theorem x_strconv_Atoi_ok : CtrOk Tryz.prog 56 ⟨x_strconv_Atoi_sig, x_strconv_Atoi_f⟩ := by
  intro w okc args bx x r hI hA hr
  obtain ⟨rfl, fl, h1, h2⟩ := (show bx = none ∧ ∃ fl, flatV [none] args.toList = some fl ∧ F2 (V1 (av w okc)) [PV.str x] fl from hA)
  obtain ⟨p, h3, rfl⟩ := flatV_one h1
  cases h2 with
  | cons hp _ =>
    have hp : p = .string x := hp
    subst hp
    have hx : (if ByteArray.size x ≤ 281474976710656 then some (atoiV x, ()) else none) = some r := hr
    split at hx
    · rename_i hc
      injection hx with hx
      subst hx
      have hargs : args = #[.string x] := by apply Array.ext'; rw [h3]
      rw [hargs]
      have fin : ∀ (e : Ending) (w' : World) (u : Value), e = .returned (.tuple #[.int .i64 (atoiV x), u]) → Below w.heap.size w w' → ∃ v, e = .returned v ∧ RetR x_strconv_Atoi_sig w w' okc (none : Option (Nat × List Int)) (atoiV x, ()) v ∧ Kp ⟨fun k => ∃ b, (none : Option (Nat × List Int)) = some (k, b), fun _ => True⟩ w.heap.size w w' := by
        intro e w' u he hb
        exact ⟨_, he, ⟨[.int .i64 (atoiV x), u], fun _ => False, fun _ _ => False, HidI.none, ⟨_, _, rfl, rfl, ⟨_, rfl, trivial⟩⟩, fun i j u u' g hu => by simp [rowsV] at hu, fun k h => h, (fun h => Bool.noConfusion (show (false : Bool) = true from h)), [.int .i64 (atoiV x), u], rfl, rfl⟩, kpB hb⟩
      cases ha : Lib.atoiAll (ByteArray.data x).toList with
      | ok v =>
        have hv : atoiV x = v := by unfold atoiV; rw [ha]
        refine (Tryz.strconv_Atoi_ok x (Nat.le_trans hc (by decide)) v ha w).mono ?_
        rintro e w' ⟨he, hw⟩
        refine fin e w' .nilIface (by rw [hv]; exact he) ?_
        rcases hw with rfl | ⟨t, rfl⟩
        · exact Below.refl _ _
        · exact Lib.bytesWorld_below _ _ _
      | «syntax» =>
        have hv : atoiV x = 0 := by unfold atoiV; rw [ha]
        obtain ⟨ev, g1, g2⟩ := gl_syn hI
        refine (Tryz.strconv_Atoi_syntax x hc ha ev w g1 g2).mono ?_
        rintro e w' ⟨N, he, _, _, hb⟩
        exact fin e w' _ (by rw [hv]; exact he) hb
      | range =>
        have hv : atoiV x = Lib.atoiSat (ByteArray.data x).toList := by unfold atoiV; rw [ha]
        obtain ⟨ev, g1, g2⟩ := gl_ran hI
        refine (Tryz.strconv_Atoi_range x hc ha ev w g1 g2).mono ?_
        rintro e w' ⟨N, he, _, _, hb⟩
        exact fin e w' _ (by rw [hv]; exact he) hb
    · cases hx
end FN
set_option linter.unusedVariables false
namespace FN
open Go Go.Proofs
/-! slices.Index[[]string,string] -/
@[reducible] def x_slices_Index_string_string_sig : Sig := { ps := [none, none], pc := [.view .str, .str], rs := [none], rc := [.int .i64] }
noncomputable def x_slices_Index_string_string_E : Env' := { fn := fun f => none, ck := ckT, cuts := [(2, [0, 1, 7, 8])], mine := fun i => false }
noncomputable def x_slices_Index_string_string_f (x : Ts x_slices_Index_string_string_sig.pc) : Option (Ts x_slices_Index_string_string_sig.rc) := runFn Tryz.prog (x_slices_Index_string_string_E) Tryz.f55 x_slices_Index_string_string_sig x
noncomputable def x_slices_Index_string_string_l0 (y0 : List (ByteArray)) (y1 : ByteArray) (y2 : Int) (y3 : Int) : Option ((Int)) := from_ Tryz.prog (x_slices_Index_string_string_E) Tryz.f55 x_slices_Index_string_string_sig [1, 0, 1, 0] ⟨mkT 19 [(0, .row false .str y0), (1, .str y1), (7, .int .i64 y2), (8, .int .i64 y3)], []⟩
theorem x_slices_Index_string_string_f_eq (x0 : (List (ByteArray))) (x1 : (ByteArray)) : x_slices_Index_string_string_f (x0, x1) = (x_slices_Index_string_string_l0 x0 x1 (List.length x0 : Int) 0) := by
  kernel_rfl
theorem x_slices_Index_string_string_l0_eq (y0 : List (ByteArray)) (y1 : ByteArray) (y2 : Int) (y3 : Int) : x_slices_Index_string_string_l0 y0 y1 y2 y3 = (cond ((decide (y3 < y2))) (if (0 : Int) ≤ y3 ∧ y3 < (List.length y0 : Int) then (cond ((ByteArray.toList y1 == ByteArray.toList (List.getD y0 (y3 : Int).toNat ByteArray.empty))) (some y3) (x_slices_Index_string_string_l0 y0 y1 y2 (IntKind.i64.wrap (y3 + 1)))) else none) (some (-1))) := by
  refine (loopK_eq Tryz.prog (x_slices_Index_string_string_E) (sub (Tryz.f55.body.getD .skip) [1, 0, 1, 0, 0]) _ _).trans ?_
  kernel_rfl
theorem x_slices_Index_string_string_ent : Entb Tryz.prog 55 := ⟨Tryz.f55, by kernel_rfl, by kernel_rfl, by kernel_rfl⟩
theorem x_slices_Index_string_string_ok : CtrOk Tryz.prog 55 ⟨x_slices_Index_string_string_sig, x_slices_Index_string_string_f⟩ :=
  ctr_of (fn := Tryz.f55) (by kernel_rfl) (by kernel_rfl) (fun x : Ts x_slices_Index_string_string_sig.pc => x_slices_Index_string_string_E) (fun x => ⟨fn_none, clo_none, wr_none⟩) (fun h => by cases h) follows_ (fun _ _ => trivial)
end FN
set_option linter.unusedVariables false
namespace FN
open Go Go.Proofs
/-! loop.example/firingnets/impl.ReadDeed -/
@[reducible] def i_ReadDeed_sig : Sig := { ps := [none], pc := [.str], rs := [some 3, none], rc := [.int .i64, .int .i64, .int .i64, .bool] }
noncomputable def i_ReadDeed_E : Env' := { fn := fun f => if f = 42 then some ⟨x_strings_Split_sig, x_strings_Split_f⟩ else if f = 55 then some ⟨x_slices_Index_string_string_sig, x_slices_Index_string_string_f⟩ else if f = 56 then some ⟨x_strconv_Atoi_sig, x_strconv_Atoi_f⟩ else if f = 57 then some ⟨i_DeedText_sig, i_DeedText_f⟩ else none, ck := ckT, cuts := [(8, [0, 2, 4, 6]), (10, [0, 2, 6])], mine := fun i => false }
noncomputable def i_ReadDeed_f (x : Ts i_ReadDeed_sig.pc) : Option (Ts i_ReadDeed_sig.rc) := runFn Tryz.prog (i_ReadDeed_E) Tryz.f45 i_ReadDeed_sig x
noncomputable def i_ReadDeed_j0 (y0 : ByteArray) (y1 : List (ByteArray)) (y2 : Int) (y3 : Int) (y4 : Int) (y5 : Int) (y6 : Int) (y7 : Int) : Option ((Int) × (Int) × (Int) × (Bool)) := from_ Tryz.prog (i_ReadDeed_E) Tryz.f45 i_ReadDeed_sig [1, 1, 1, 1, 1, 1] ⟨mkT 55 [(0, .str y0), (2, .ptr 0 0), (4, .row true .str y1), (6, .ptr 1 0)], [some (.box 57 [.int .i64 y2, .int .i64 y3, .int .i64 y4]), some (.box 57 [.int .i64 y5, .int .i64 y6, .int .i64 y7])]⟩
noncomputable def i_ReadDeed_j1 (y0 : ByteArray) (y1 : Int) (y2 : Int) (y3 : Int) (y4 : Int) (y5 : Int) (y6 : Int) : Option ((Int) × (Int) × (Int) × (Bool)) := from_ Tryz.prog (i_ReadDeed_E) Tryz.f45 i_ReadDeed_sig [1, 1, 1, 1, 1, 1, 1] ⟨mkT 55 [(0, .str y0), (2, .ptr 0 0), (6, .ptr 1 0)], [some (.box 57 [.int .i64 y1, .int .i64 y2, .int .i64 y3]), some (.box 57 [.int .i64 y4, .int .i64 y5, .int .i64 y6])]⟩
theorem i_ReadDeed_f_eq (x0 : (ByteArray)) : i_ReadDeed_f x0 = (Option.bind (x_strings_Split_f (x0, str1)) fun r1 => (if (0 : Int) ≤ 0 ∧ 0 < (List.length r1 : Int) then (Option.bind (x_slices_Index_string_string_f (([str10, str11, str4, str12, str5] : List (ByteArray)), (List.getD r1 (0 : Int).toNat ByteArray.empty))) fun r2 => (cond ((decide (r2 < 0))) (some (0, 0, 0, false)) (cond ((decide (3 < (List.length r1 : Int)))) (some (0, 0, 0, false)) (if (0 : Int) ≤ r2 ∧ r2 < (List.length ([0, 1, 2, 3, 4] : List (Int)) : Int) then (cond ((decide (1 < (List.length r1 : Int)))) (if (0 : Int) ≤ 1 ∧ 1 < (List.length r1 : Int) then (Option.bind (x_strconv_Atoi_f (List.getD r1 (1 : Int).toNat ByteArray.empty)) fun r3 => (i_ReadDeed_j0 x0 r1 0 0 0 (List.getD ([0, 1, 2, 3, 4] : List (Int)) (r2 : Int).toNat 0) r3.1 0)) else none) (i_ReadDeed_j0 x0 r1 0 0 0 (List.getD ([0, 1, 2, 3, 4] : List (Int)) (r2 : Int).toNat 0) 0 0)) else none)))) else none)) := by
  kernel_rfl
theorem i_ReadDeed_j0_eq (y0 : ByteArray) (y1 : List (ByteArray)) (y2 : Int) (y3 : Int) (y4 : Int) (y5 : Int) (y6 : Int) (y7 : Int) : i_ReadDeed_j0 y0 y1 y2 y3 y4 y5 y6 y7 = (cond ((decide (2 < (List.length y1 : Int)))) (if (0 : Int) ≤ 2 ∧ 2 < (List.length y1 : Int) then (Option.bind (x_strconv_Atoi_f (List.getD y1 (2 : Int).toNat ByteArray.empty)) fun r1 => (i_ReadDeed_j1 y0 y2 y3 y4 y5 y6 r1.1)) else none) (i_ReadDeed_j1 y0 y2 y3 y4 y5 y6 y7)) := by
  kernel_rfl
theorem i_ReadDeed_j1_eq (y0 : ByteArray) (y1 : Int) (y2 : Int) (y3 : Int) (y4 : Int) (y5 : Int) (y6 : Int) : i_ReadDeed_j1 y0 y1 y2 y3 y4 y5 y6 = (Option.bind (i_DeedText_f (y4, y5, y6)) fun r1 => (cond ((!(ByteArray.toList r1 == ByteArray.toList y0))) (some (0, 0, 0, false)) (some (y4, y5, y6, true)))) := by
  kernel_rfl
theorem i_ReadDeed_ent : Entb Tryz.prog 45 := ⟨Tryz.f45, by kernel_rfl, by kernel_rfl, by kernel_rfl⟩
theorem i_ReadDeed_ok : CtrOk Tryz.prog 45 ⟨i_ReadDeed_sig, i_ReadDeed_f⟩ :=
  ctr_of (fn := Tryz.f45) (by kernel_rfl) (by kernel_rfl) (fun x : Ts i_ReadDeed_sig.pc => i_ReadDeed_E) (fun x => ⟨(fn_cons ⟨x_strings_Split_ok, x_strings_Split_ent⟩ (fn_cons ⟨x_slices_Index_string_string_ok, x_slices_Index_string_string_ent⟩ (fn_cons ⟨x_strconv_Atoi_ok, x_strconv_Atoi_ent⟩ (fn_cons ⟨i_DeedText_ok, i_DeedText_ent⟩ fn_none)))), clo_none, wr_none⟩) (fun h => by cases h) follows_ (fun _ _ => trivial)
end FN
set_option linter.unusedVariables false
namespace FN
open Go Go.Proofs
/-! loop.example/firingnets/spec.ReadDeed -/
@[reducible] def s_ReadDeed_sig : Sig := { ps := [none], pc := [.str], rs := [some 3, none], rc := [.int .i64, .int .i64, .int .i64, .bool] }
noncomputable def s_ReadDeed_E : Env' := { fn := fun f => if f = 24 then some ⟨s_l1Cut_sig, s_l1Cut_f⟩ else if f = 25 then some ⟨s_l1Digits_sig, s_l1Digits_f⟩ else if f = 38 then some ⟨s_DeedText_sig, s_DeedText_f⟩ else none, ck := ckT, cuts := [(6, [0, 2, 4, 5]), (8, [0, 2, 5]), (9, [0, 2, 5, 7])], mine := fun i => false }
noncomputable def s_ReadDeed_f (x : Ts s_ReadDeed_sig.pc) : Option (Ts s_ReadDeed_sig.rc) := runFn Tryz.prog (s_ReadDeed_E) Tryz.f27 s_ReadDeed_sig x
noncomputable def s_ReadDeed_j0 (y0 : ByteArray) (y1 : List (ByteArray)) (y2 : Int) (y3 : Int) (y4 : Int) (y5 : List (Int × Int × Int)) : Option ((Int) × (Int) × (Int) × (Bool)) := from_ Tryz.prog (s_ReadDeed_E) Tryz.f27 s_ReadDeed_sig [1, 1, 1, 1] ⟨mkT 64 [(0, .str y0), (2, .ptr 0 0), (4, .row true .str y1), (5, .own 1)], [some (.box 57 [.int .i64 y2, .int .i64 y3, .int .i64 y4]), some (.arr 57 true .deed y5)]⟩
noncomputable def s_ReadDeed_j1 (y0 : ByteArray) (y1 : Int) (y2 : Int) (y3 : Int) (y4 : List (Int × Int × Int)) : Option ((Int) × (Int) × (Int) × (Bool)) := from_ Tryz.prog (s_ReadDeed_E) Tryz.f27 s_ReadDeed_sig [1, 1, 1, 1, 1] ⟨mkT 64 [(0, .str y0), (2, .ptr 0 0), (5, .own 1)], [some (.box 57 [.int .i64 y1, .int .i64 y2, .int .i64 y3]), some (.arr 57 true .deed y4)]⟩
noncomputable def s_ReadDeed_l2 (y0 : ByteArray) (y1 : Int) (y2 : Int) (y3 : Int) (y4 : Int) (y5 : List (Int × Int × Int)) : Option ((Int) × (Int) × (Int) × (Bool)) := from_ Tryz.prog (s_ReadDeed_E) Tryz.f27 s_ReadDeed_sig [1, 1, 1, 1, 1, 0, 1, 0] ⟨mkT 64 [(0, .str y0), (2, .ptr 0 0), (5, .own 1), (7, .int .i64 y1)], [some (.box 57 [.int .i64 y2, .int .i64 y3, .int .i64 y4]), some (.arr 57 true .deed y5)]⟩
theorem s_ReadDeed_f_eq (x0 : (ByteArray)) : s_ReadDeed_f x0 = (Option.bind (s_l1Cut_f (x0, 32)) fun r1 => (cond (((List.length r1 : Int) == 2)) (if (0 : Int) ≤ 1 ∧ 1 < (List.length r1 : Int) then (Option.bind (s_l1Digits_f (List.getD r1 (1 : Int).toNat ByteArray.empty)) fun r2 => (if (List.length ([(2, 0, 0), (4, 0, 0)] : List (Int × Int × Int)) + List.length ([(1, r2, 0), (3, r2, 0)] : List (Int × Int × Int))) * 24 ≤ 140737488355328 then (s_ReadDeed_j0 x0 r1 0 0 0 (([(2, 0, 0), (4, 0, 0)] : List (Int × Int × Int)) ++ ([(1, r2, 0), (3, r2, 0)] : List (Int × Int × Int)))) else none)) else none) (s_ReadDeed_j0 x0 r1 0 0 0 ([(2, 0, 0), (4, 0, 0)] : List (Int × Int × Int))))) := by
  kernel_rfl
theorem s_ReadDeed_j0_eq (y0 : ByteArray) (y1 : List (ByteArray)) (y2 : Int) (y3 : Int) (y4 : Int) (y5 : List (Int × Int × Int)) : s_ReadDeed_j0 y0 y1 y2 y3 y4 y5 = (cond (((List.length y1 : Int) == 3)) (if (0 : Int) ≤ 1 ∧ 1 < (List.length y1 : Int) then (if (0 : Int) ≤ 2 ∧ 2 < (List.length y1 : Int) then (Option.bind (s_l1Digits_f (List.getD y1 (1 : Int).toNat ByteArray.empty)) fun r1 => (Option.bind (s_l1Digits_f (List.getD y1 (2 : Int).toNat ByteArray.empty)) fun r2 => (if (List.length y5 + List.length ([(0, r1, r2)] : List (Int × Int × Int))) * 24 ≤ 140737488355328 then (s_ReadDeed_j1 y0 y2 y3 y4 (y5 ++ ([(0, r1, r2)] : List (Int × Int × Int)))) else none))) else none) else none) (s_ReadDeed_j1 y0 y2 y3 y4 y5)) := by
  kernel_rfl
theorem s_ReadDeed_j1_eq (y0 : ByteArray) (y1 : Int) (y2 : Int) (y3 : Int) (y4 : List (Int × Int × Int)) : s_ReadDeed_j1 y0 y1 y2 y3 y4 = (s_ReadDeed_l2 y0 0 y1 y2 y3 y4) := by
  kernel_rfl
theorem s_ReadDeed_l2_eq (y0 : ByteArray) (y1 : Int) (y2 : Int) (y3 : Int) (y4 : Int) (y5 : List (Int × Int × Int)) : s_ReadDeed_l2 y0 y1 y2 y3 y4 y5 = (cond ((decide (y1 < (List.length y5 : Int)))) (cond ((!(ByteArray.toList y0 == ByteArray.toList ByteArray.empty))) (if (0 : Int) ≤ y1 ∧ y1 < (List.length y5 : Int) then (Option.bind (s_DeedText_f ((List.getD y5 (y1 : Int).toNat (0, 0, 0)).1, (List.getD y5 (y1 : Int).toNat (0, 0, 0)).2.1, (List.getD y5 (y1 : Int).toNat (0, 0, 0)).2.2)) fun r1 => (cond ((ByteArray.toList r1 == ByteArray.toList y0)) (if (0 : Int) ≤ y1 ∧ y1 < (List.length y5 : Int) then (some ((List.getD y5 (y1 : Int).toNat (0, 0, 0)).1, (List.getD y5 (y1 : Int).toNat (0, 0, 0)).2.1, (List.getD y5 (y1 : Int).toNat (0, 0, 0)).2.2, true)) else none) (s_ReadDeed_l2 y0 (IntKind.i64.wrap (y1 + 1)) y2 y3 y4 y5))) else none) (s_ReadDeed_l2 y0 (IntKind.i64.wrap (y1 + 1)) y2 y3 y4 y5)) (some (0, 0, 0, false))) := by
  refine (loopK_eq Tryz.prog (s_ReadDeed_E) (sub (Tryz.f27.body.getD .skip) [1, 1, 1, 1, 1, 0, 1, 0, 0]) _ _).trans ?_
  kernel_rfl
theorem s_ReadDeed_ent : Entb Tryz.prog 27 := ⟨Tryz.f27, by kernel_rfl, by kernel_rfl, by kernel_rfl⟩
theorem s_ReadDeed_ok : CtrOk Tryz.prog 27 ⟨s_ReadDeed_sig, s_ReadDeed_f⟩ :=
  ctr_of (fn := Tryz.f27) (by kernel_rfl) (by kernel_rfl) (fun x : Ts s_ReadDeed_sig.pc => s_ReadDeed_E) (fun x => ⟨(fn_cons ⟨s_l1Cut_ok, s_l1Cut_ent⟩ (fn_cons ⟨s_l1Digits_ok, s_l1Digits_ent⟩ (fn_cons ⟨s_DeedText_ok, s_DeedText_ent⟩ fn_none))), clo_none, wr_none⟩) (fun h => by cases h) follows_ (fun _ _ => trivial)
end FN
set_option linter.unusedVariables false
namespace FN
open Go Go.Proofs
/-! loop.example/firingnets/spec.DeskOk -/
@[reducible] def s_DeskOk_sig : Sig := { ps := [some 4], pc := [.view .i64, .int .i64, .view .i64, .view .place], rs := [none], rc := [.bool] }
noncomputable def s_DeskOk_E : Env' := { fn := fun f => if f = 36 then some ⟨s_PlaceOk_sig, s_PlaceOk_f⟩ else none, ck := ckT, cuts := [(2, [1, 3]), (6, [1])], mine := fun i => false }
noncomputable def s_DeskOk_f (x : Ts s_DeskOk_sig.pc) : Option (Ts s_DeskOk_sig.rc) := runFn Tryz.prog (s_DeskOk_E) Tryz.f40 s_DeskOk_sig x
noncomputable def s_DeskOk_l0 (y0 : Int) (y1 : List (Int)) (y2 : Int) (y3 : List (Int)) (y4 : List (List Int × Int × List Int)) : Option ((Bool)) := from_ Tryz.prog (s_DeskOk_E) Tryz.f40 s_DeskOk_sig [1, 0, 1, 0] ⟨mkT 27 [(1, .ptr 0 0), (3, .int .i64 y0)], [some (.box 30 [.row false .i64 y1, .int .i64 y2, .row false .i64 y3, .row false .place y4])]⟩
noncomputable def s_DeskOk_j1 (y0 : List (Int)) (y1 : Int) (y2 : List (Int)) (y3 : List (List Int × Int × List Int)) : Option ((Bool)) := from_ Tryz.prog (s_DeskOk_E) Tryz.f40 s_DeskOk_sig [1, 1] ⟨mkT 27 [(1, .ptr 0 0)], [some (.box 30 [.row false .i64 y0, .int .i64 y1, .row false .i64 y2, .row false .place y3])]⟩
theorem s_DeskOk_f_eq (x0 : (List (Int))) (x1 : (Int)) (x2 : (List (Int))) (x3 : (List (List Int × Int × List Int))) : s_DeskOk_f (x0, x1, x2, x3) = (s_DeskOk_l0 0 x0 x1 x2 x3) := by
  kernel_rfl
theorem s_DeskOk_l0_eq (y0 : Int) (y1 : List (Int)) (y2 : Int) (y3 : List (Int)) (y4 : List (List Int × Int × List Int)) : s_DeskOk_l0 y0 y1 y2 y3 y4 = (cond ((decide (y0 < (List.length y4 : Int)))) (if (0 : Int) ≤ y0 ∧ y0 < (List.length y4 : Int) then (Option.bind (s_PlaceOk_f ((List.getD y4 (y0 : Int).toNat ([], 0, [])).1, (List.getD y4 (y0 : Int).toNat ([], 0, [])).2.1, (List.getD y4 (y0 : Int).toNat ([], 0, [])).2.2)) fun r1 => (cond ((!r1)) (some false) (s_DeskOk_l0 (IntKind.i64.wrap (y0 + 1)) y1 y2 y3 y4))) else none) (s_DeskOk_j1 y1 y2 y3 y4)) := by
  refine (loopK_eq Tryz.prog (s_DeskOk_E) (sub (Tryz.f40.body.getD .skip) [1, 0, 1, 0, 0]) _ _).trans ?_
  kernel_rfl
theorem s_DeskOk_j1_eq (y0 : List (Int)) (y1 : Int) (y2 : List (Int)) (y3 : List (List Int × Int × List Int)) : s_DeskOk_j1 y0 y1 y2 y3 = (Option.bind (s_PlaceOk_f (y0, y1, y2)) fun r1 => (cond (r1) (some (decide ((List.length y3 : Int) ≤ 8))) (some false))) := by
  kernel_rfl
theorem s_DeskOk_ent : Entb Tryz.prog 40 := ⟨Tryz.f40, by kernel_rfl, by kernel_rfl, by kernel_rfl⟩
theorem s_DeskOk_ok : CtrOk Tryz.prog 40 ⟨s_DeskOk_sig, s_DeskOk_f⟩ :=
  ctr_of (fn := Tryz.f40) (by kernel_rfl) (by kernel_rfl) (fun x : Ts s_DeskOk_sig.pc => s_DeskOk_E) (fun x => ⟨(fn_cons ⟨s_PlaceOk_ok, s_PlaceOk_ent⟩ fn_none), clo_none, wr_none⟩) (fun h => by cases h) follows_ (fun _ _ => trivial)
end FN
set_option linter.unusedVariables false
namespace FN
open Go Go.Proofs
/-! loop.example/firingnets/spec.l15Place -/
@[reducible] def s_l15Place_sig : Sig := { ps := [some 3], pc := [.view .i64, .int .i64, .view .i64], rs := [some 3], rc := [.row 3 .i64, .int .i64, .row 3 .i64] }
noncomputable def s_l15Place_E : Env' := { fn := fun f => none, ck := ckT, cuts := [], mine := fun i => false }
noncomputable def s_l15Place_f (x : Ts s_l15Place_sig.pc) : Option (Ts s_l15Place_sig.rc) := runFn Tryz.prog (s_l15Place_E) Tryz.f39 s_l15Place_sig x
theorem s_l15Place_f_eq (x0 : (List (Int))) (x1 : (Int)) (x2 : (List (Int))) : s_l15Place_f (x0, x1, x2) = (if (List.length ([] : List (Int)) + List.length x0) * 8 ≤ 140737488355328 then (if (List.length ([] : List (Int)) + List.length x2) * 8 ≤ 140737488355328 then (some ((([] : List (Int)) ++ x0), x1, (([] : List (Int)) ++ x2))) else none) else none) := by
  refine Eq.trans (b := (same [(same [(if (List.length ([] : List (Int)) + List.length x0) * 8 ≤ 140737488355328 then (if (List.length ([] : List (Int)) + List.length x2) * 8 ≤ 140737488355328 then (some ((([] : List (Int)) ++ x0), x1, (([] : List (Int)) ++ x2))) else none) else none), (if (List.length ([] : List (Int)) + List.length x0) * 8 ≤ 140737488355328 then (if (List.length ([] : List (Int)) + List.length x2) * 8 ≤ 140737488355328 then (some ((([] : List (Int)) ++ x0), x1, (([] : List (Int)) ++ x2))) else none) else none)]), (if (List.length ([] : List (Int)) + List.length x0) * 8 ≤ 140737488355328 then (if (List.length ([] : List (Int)) + List.length x2) * 8 ≤ 140737488355328 then (some ((([] : List (Int)) ++ x0), x1, (([] : List (Int)) ++ x2))) else none) else none)])) (by kernel_rfl) ?_
  simp only [same2, same3, same4, same5, same6, obind_ite]
theorem s_l15Place_ent : Entb Tryz.prog 39 := ⟨Tryz.f39, by kernel_rfl, by kernel_rfl, by kernel_rfl⟩
theorem s_l15Place_ok : CtrOk Tryz.prog 39 ⟨s_l15Place_sig, s_l15Place_f⟩ :=
  ctr_of (fn := Tryz.f39) (by kernel_rfl) (by kernel_rfl) (fun x : Ts s_l15Place_sig.pc => s_l15Place_E) (fun x => ⟨fn_none, clo_none, wr_none⟩) (fun h => by cases h) follows_ (fun _ _ => trivial)
end FN
set_option linter.unusedVariables false
namespace FN
open Go Go.Proofs
/-! loop.example/firingnets/spec.l15Copy -/
@[reducible] def s_l15Copy_sig : Sig := { ps := [some 4], pc := [.view .i64, .int .i64, .view .i64, .view .place], rs := [some 4], rc := [.row 3 .i64, .int .i64, .row 3 .i64, .row 27 .place] }
noncomputable def s_l15Copy_E : Env' := { fn := fun f => if f = 39 then some ⟨s_l15Place_sig, s_l15Place_f⟩ else none, ck := ckT, cuts := [(3, [1, 2, 3, 4])], mine := fun i => i == 7 || i == 23 }
noncomputable def s_l15Copy_f (x : Ts s_l15Copy_sig.pc) : Option (Ts s_l15Copy_sig.rc) := runFn Tryz.prog (s_l15Copy_E) Tryz.f28 s_l15Copy_sig x
noncomputable def s_l15Copy_l0 (y0 : Int) (y1 : List (Int)) (y2 : Int) (y3 : List (Int)) (y4 : List (List Int × Int × List Int)) (y5 : Int) (y6 : Int) (y7 : List (Int)) (y8 : List (Int)) : Option ((List (Int)) × (Int) × (List (Int)) × (List (List Int × Int × List Int))) := from_ Tryz.prog (s_l15Copy_E) Tryz.f28 s_l15Copy_sig [1, 1, 0, 1, 0] ⟨mkT 28 [(1, .ptr 0 0), (2, .ptr 1 0), (3, .ptr 2 0), (4, .int .i64 y0)], [some (.box 30 [.row false .i64 y1, .int .i64 y2, .row false .i64 y3, .row false .place y4]), some (.box 30 [.nilS, .int .i64 y5, .nilS, .nilS]), some (.box 30 [.own 3, .int .i64 y6, .own 4, .nilS]), some (.arr 3 true .i64 y7), some (.arr 3 true .i64 y8)]⟩
noncomputable def s_l15Copy_l1 (y0 : Int) (y1 : List (Int)) (y2 : Int) (y3 : List (Int)) (y4 : List (List Int × Int × List Int)) (y5 : Int) (y6 : Int) (y7 : List (Int)) (y8 : List (Int)) (y9 : List (List Int × Int × List Int)) : Option ((List (Int)) × (Int) × (List (Int)) × (List (List Int × Int × List Int))) := from_ Tryz.prog (s_l15Copy_E) Tryz.f28 s_l15Copy_sig [1, 1, 0, 1, 0] ⟨mkT 28 [(1, .ptr 0 0), (2, .ptr 1 0), (3, .ptr 2 0), (4, .int .i64 y0)], [some (.box 30 [.row false .i64 y1, .int .i64 y2, .row false .i64 y3, .row false .place y4]), some (.box 30 [.nilS, .int .i64 y5, .nilS, .nilS]), some (.box 30 [.own 3, .int .i64 y6, .own 4, .own 5]), some (.arr 3 true .i64 y7), some (.arr 3 true .i64 y8), some (.arr 27 true .place y9)]⟩
theorem s_l15Copy_f_eq (x0 : (List (Int))) (x1 : (Int)) (x2 : (List (Int))) (x3 : (List (List Int × Int × List Int))) : s_l15Copy_f (x0, x1, x2, x3) = (Option.bind (s_l15Place_f (x0, x1, x2)) fun r1 => (s_l15Copy_l0 0 x0 x1 x2 x3 0 r1.2.1 r1.1 r1.2.2)) := by
  kernel_rfl
theorem s_l15Copy_l0_eq (y0 : Int) (y1 : List (Int)) (y2 : Int) (y3 : List (Int)) (y4 : List (List Int × Int × List Int)) (y5 : Int) (y6 : Int) (y7 : List (Int)) (y8 : List (Int)) : s_l15Copy_l0 y0 y1 y2 y3 y4 y5 y6 y7 y8 = (cond ((decide (y0 < (List.length y4 : Int)))) (if (0 : Int) ≤ y0 ∧ y0 < (List.length y4 : Int) then (Option.bind (s_l15Place_f ((List.getD y4 (y0 : Int).toNat ([], 0, [])).1, (List.getD y4 (y0 : Int).toNat ([], 0, [])).2.1, (List.getD y4 (y0 : Int).toNat ([], 0, [])).2.2)) fun r1 => (if (List.length ([] : List (List Int × Int × List Int)) + List.length ([(r1.1, r1.2.1, r1.2.2)] : List (List Int × Int × List Int))) * 56 ≤ 140737488355328 then (s_l15Copy_l1 (IntKind.i64.wrap (y0 + 1)) y1 y2 y3 y4 y5 y6 y7 y8 (([] : List (List Int × Int × List Int)) ++ ([(r1.1, r1.2.1, r1.2.2)] : List (List Int × Int × List Int)))) else none)) else none) (some (y7, y6, y8, []))) := by
  refine (loopK_eq Tryz.prog (s_l15Copy_E) (sub (Tryz.f28.body.getD .skip) [1, 1, 0, 1, 0, 0]) _ _).trans ?_
  kernel_rfl
theorem s_l15Copy_l1_eq (y0 : Int) (y1 : List (Int)) (y2 : Int) (y3 : List (Int)) (y4 : List (List Int × Int × List Int)) (y5 : Int) (y6 : Int) (y7 : List (Int)) (y8 : List (Int)) (y9 : List (List Int × Int × List Int)) : s_l15Copy_l1 y0 y1 y2 y3 y4 y5 y6 y7 y8 y9 = (cond ((decide (y0 < (List.length y4 : Int)))) (if (0 : Int) ≤ y0 ∧ y0 < (List.length y4 : Int) then (Option.bind (s_l15Place_f ((List.getD y4 (y0 : Int).toNat ([], 0, [])).1, (List.getD y4 (y0 : Int).toNat ([], 0, [])).2.1, (List.getD y4 (y0 : Int).toNat ([], 0, [])).2.2)) fun r1 => (if (List.length y9 + List.length ([(r1.1, r1.2.1, r1.2.2)] : List (List Int × Int × List Int))) * 56 ≤ 140737488355328 then (s_l15Copy_l1 (IntKind.i64.wrap (y0 + 1)) y1 y2 y3 y4 y5 y6 y7 y8 (y9 ++ ([(r1.1, r1.2.1, r1.2.2)] : List (List Int × Int × List Int)))) else none)) else none) (some (y7, y6, y8, y9))) := by
  refine (loopK_eq Tryz.prog (s_l15Copy_E) (sub (Tryz.f28.body.getD .skip) [1, 1, 0, 1, 0, 0]) _ _).trans ?_
  kernel_rfl
theorem s_l15Copy_ent : Entb Tryz.prog 28 := ⟨Tryz.f28, by kernel_rfl, by kernel_rfl, by kernel_rfl⟩
theorem s_l15Copy_ok : CtrOk Tryz.prog 28 ⟨s_l15Copy_sig, s_l15Copy_f⟩ :=
  ctr_of (fn := Tryz.f28) (by kernel_rfl) (by kernel_rfl) (fun x : Ts s_l15Copy_sig.pc => s_l15Copy_E) (fun x => ⟨(fn_cons ⟨s_l15Place_ok, s_l15Place_ent⟩ fn_none), clo_none, wr_none⟩) (fun h => by cases h) follows_ (fun _ _ => trivial)
end FN
set_option linter.unusedVariables false
namespace FN
open Go Go.Proofs
/-! loop.example/firingnets/spec.l3Step -/
@[reducible] def s_l3Step_sig : Sig := { ps := [none, none, none], pc := [.view .i64, .int .i64, .view .i64], rs := [none], rc := [.row 3 .i64] }
noncomputable def s_l3Step_E : Env' := { fn := fun f => none, ck := ckT, cuts := [(3, [0, 1, 2, 7, 8]), (7, [0, 1, 2, 7]), (9, [0, 1, 2, 7, 9, 10])], mine := fun i => false }
noncomputable def s_l3Step_f (x : Ts s_l3Step_sig.pc) : Option (Ts s_l3Step_sig.rc) := runFn Tryz.prog (s_l3Step_E) Tryz.f49 s_l3Step_sig x
noncomputable def s_l3Step_l0 (y0 : List (Int)) (y1 : Int) (y2 : List (Int)) (y3 : Int) (y4 : Int) : Option ((List (Int))) := from_ Tryz.prog (s_l3Step_E) Tryz.f49 s_l3Step_sig [1, 1, 0, 1, 0] ⟨mkT 58 [(0, .row false .i64 y0), (1, .int .i64 y1), (2, .row false .i64 y2), (7, .int .i64 y3), (8, .int .i64 y4)], []⟩
noncomputable def s_l3Step_j1 (y0 : List (Int)) (y1 : Int) (y2 : List (Int)) (y3 : Int) : Option ((List (Int))) := from_ Tryz.prog (s_l3Step_E) Tryz.f49 s_l3Step_sig [1, 1, 1] ⟨mkT 58 [(0, .row false .i64 y0), (1, .int .i64 y1), (2, .row false .i64 y2), (7, .int .i64 y3)], []⟩
noncomputable def s_l3Step_l2 (y0 : List (Int)) (y1 : Int) (y2 : List (Int)) (y3 : Int) (y4 : Int) (y5 : List (Int)) : Option ((List (Int))) := from_ Tryz.prog (s_l3Step_E) Tryz.f49 s_l3Step_sig [1, 1, 1, 1, 0, 1, 0] ⟨mkT 58 [(0, .row false .i64 y0), (1, .int .i64 y1), (2, .row false .i64 y2), (7, .int .i64 y3), (9, .own 0), (10, .int .i64 y4)], [some (.arr 3 true .i64 y5)]⟩
theorem s_l3Step_f_eq (x0 : (List (Int))) (x1 : (Int)) (x2 : (List (Int))) : s_l3Step_f (x0, x1, x2) = (s_l3Step_l0 x0 x1 x2 0 0) := by
  kernel_rfl
theorem s_l3Step_l0_eq (y0 : List (Int)) (y1 : Int) (y2 : List (Int)) (y3 : Int) (y4 : Int) : s_l3Step_l0 y0 y1 y2 y3 y4 = (cond ((decide (y4 < (List.length y2 : Int)))) (if (0 : Int) ≤ y4 ∧ y4 < (List.length y2 : Int) then (cond (((List.getD y2 (y4 : Int).toNat 0) == 1)) (if y4 < 0 then none else (s_l3Step_l0 y0 y1 y2 (Go.bits .or IntKind.i64 y3 (IntKind.i64.wrap (1 * 2 ^ min (y4 : Int).toNat IntKind.i64.bits))) (IntKind.i64.wrap (y4 + 1)))) (s_l3Step_l0 y0 y1 y2 y3 (IntKind.i64.wrap (y4 + 1)))) else none) (s_l3Step_j1 y0 y1 y2 y3)) := by
  refine (loopK_eq Tryz.prog (s_l3Step_E) (sub (Tryz.f49.body.getD .skip) [1, 1, 0, 1, 0, 0]) _ _).trans ?_
  kernel_rfl
theorem s_l3Step_j1_eq (y0 : List (Int)) (y1 : Int) (y2 : List (Int)) (y3 : Int) : s_l3Step_j1 y0 y1 y2 y3 = (s_l3Step_l2 y0 y1 y2 y3 0 ([] : List (Int))) := by
  kernel_rfl
theorem s_l3Step_l2_eq (y0 : List (Int)) (y1 : Int) (y2 : List (Int)) (y3 : Int) (y4 : Int) (y5 : List (Int)) : s_l3Step_l2 y0 y1 y2 y3 y4 y5 = (cond ((decide (y4 < (List.length y2 : Int)))) (if (0 : Int) ≤ y4 ∧ y4 < (List.length y2 : Int) then (cond ((decide (0 < (List.getD y2 (y4 : Int).toNat 0)))) (if y1 = 0 then none else (if (List.length y5 + List.length ([(Int.tmod (IntKind.i64.wrap ((List.getD y2 (y4 : Int).toNat 0) + 1)) y1)] : List (Int))) * 8 ≤ 140737488355328 then (s_l3Step_l2 y0 y1 y2 y3 (IntKind.i64.wrap (y4 + 1)) (y5 ++ ([(Int.tmod (IntKind.i64.wrap ((List.getD y2 (y4 : Int).toNat 0) + 1)) y1)] : List (Int)))) else none)) (if (0 : Int) ≤ y4 ∧ y4 < (List.length y0 : Int) then (cond (((Go.bits .and IntKind.i64 (List.getD y0 (y4 : Int).toNat 0) y3) != 0)) (if (List.length y5 + List.length ([1] : List (Int))) * 8 ≤ 140737488355328 then (s_l3Step_l2 y0 y1 y2 y3 (IntKind.i64.wrap (y4 + 1)) (y5 ++ ([1] : List (Int)))) else none) (if (List.length y5 + List.length ([(List.getD y2 (y4 : Int).toNat 0)] : List (Int))) * 8 ≤ 140737488355328 then (s_l3Step_l2 y0 y1 y2 y3 (IntKind.i64.wrap (y4 + 1)) (y5 ++ ([(List.getD y2 (y4 : Int).toNat 0)] : List (Int)))) else none)) else none)) else none) (some y5)) := by
  refine (loopK_eq Tryz.prog (s_l3Step_E) (sub (Tryz.f49.body.getD .skip) [1, 1, 1, 1, 0, 1, 0, 0]) _ _).trans ?_
  kernel_rfl
theorem s_l3Step_ent : Entb Tryz.prog 49 := ⟨Tryz.f49, by kernel_rfl, by kernel_rfl, by kernel_rfl⟩
theorem s_l3Step_ok : CtrOk Tryz.prog 49 ⟨s_l3Step_sig, s_l3Step_f⟩ :=
  ctr_of (fn := Tryz.f49) (by kernel_rfl) (by kernel_rfl) (fun x : Ts s_l3Step_sig.pc => s_l3Step_E) (fun x => ⟨fn_none, clo_none, wr_none⟩) (fun h => by cases h) follows_ (fun _ _ => trivial)
end FN
set_option linter.unusedVariables false
namespace FN
open Go Go.Proofs
/-! loop.example/firingnets/spec.l15Made -/
@[reducible] def s_l15Made_sig : Sig := { ps := [some 3, some 3], pc := [.view .i64, .int .i64, .view .i64, .int .i64, .int .i64, .int .i64], rs := [some 3], rc := [.row 3 .i64, .int .i64, .row 3 .i64] }
noncomputable def s_l15Made_E : Env' := { fn := fun f => if f = 23 then some ⟨s_l1In_sig, s_l1In_f⟩ else if f = 39 then some ⟨s_l15Place_sig, s_l15Place_f⟩ else if f = 49 then some ⟨s_l3Step_sig, s_l3Step_f⟩ else none, ck := ckT, cuts := [], mine := fun i => i == 8 || i == 25 || i == 31 || i == 81 || i == 108 }
noncomputable def s_l15Made_f (x : Ts s_l15Made_sig.pc) : Option (Ts s_l15Made_sig.rc) := runFn Tryz.prog (s_l15Made_E) Tryz.f41 s_l15Made_sig x
theorem s_l15Made_f_eq (x0 : (List (Int))) (x1 : (Int)) (x2 : (List (Int))) (x3 : (Int)) (x4 : (Int)) (x5 : (Int)) : s_l15Made_f (x0, x1, x2, x3, x4, x5) = (Option.bind (s_l15Place_f (x0, x1, x2)) fun r1 => (cond (((x3 == 0) && ((x4 == x4) && ((x5 == x5) && true)))) (Option.bind (s_l1In_f (x4, 0, (IntKind.i64.wrap ((List.length x0 : Int) - 1)))) fun r2 => (cond (r2) (Option.bind (s_l1In_f (x5, 0, (IntKind.i64.wrap ((List.length x0 : Int) - 1)))) fun r3 => (cond (r3) (cond ((x4 != x5)) (if (0 : Int) ≤ x4 ∧ x4 < (List.length r1.1 : Int) then (if x5 < 0 then none else (if (0 : Int) ≤ x4 ∧ x4 < (List.length r1.1 : Int) then (if (0 : Int) ≤ x5 ∧ x5 < (List.length (List.set r1.1 (x4 : Int).toNat (Go.bits .xor IntKind.i64 (List.getD r1.1 (x4 : Int).toNat 0) (IntKind.i64.wrap (1 * 2 ^ min (x5 : Int).toNat IntKind.i64.bits)))) : Int) then (if x4 < 0 then none else (if (0 : Int) ≤ x5 ∧ x5 < (List.length (List.set r1.1 (x4 : Int).toNat (Go.bits .xor IntKind.i64 (List.getD r1.1 (x4 : Int).toNat 0) (IntKind.i64.wrap (1 * 2 ^ min (x5 : Int).toNat IntKind.i64.bits)))) : Int) then (some ((List.set (List.set r1.1 (x4 : Int).toNat (Go.bits .xor IntKind.i64 (List.getD r1.1 (x4 : Int).toNat 0) (IntKind.i64.wrap (1 * 2 ^ min (x5 : Int).toNat IntKind.i64.bits)))) (x5 : Int).toNat (Go.bits .xor IntKind.i64 (List.getD (List.set r1.1 (x4 : Int).toNat (Go.bits .xor IntKind.i64 (List.getD r1.1 (x4 : Int).toNat 0) (IntKind.i64.wrap (1 * 2 ^ min (x5 : Int).toNat IntKind.i64.bits)))) (x5 : Int).toNat 0) (IntKind.i64.wrap (1 * 2 ^ min (x4 : Int).toNat IntKind.i64.bits)))), r1.2.1, r1.2.2)) else none)) else none) else none)) else none) (cond (((x3 == 1) && ((x4 == x4) && ((x5 == 0) && true)))) (Option.bind (s_l1In_f (x4, 0, (IntKind.i64.wrap ((List.length x0 : Int) - 1)))) fun r4 => (cond (r4) (if (0 : Int) ≤ x4 ∧ x4 < (List.length x2 : Int) then (cond (((List.getD x2 (x4 : Int).toNat 0) == 0)) (if (0 : Int) ≤ x4 ∧ x4 < (List.length r1.2.2 : Int) then (some (r1.1, r1.2.1, (List.set r1.2.2 (x4 : Int).toNat 1))) else none) (cond (((x3 == 2) && ((x4 == 0) && ((x5 == 0) && true)))) (Option.bind (s_l3Step_f (x0, x1, x2)) fun r5 => (some (r1.1, r1.2.1, r5))) (cond (((x3 == 3) && ((x4 == x4) && ((x5 == 0) && true)))) (some (r1.1, x4, r1.2.2)) (some ([], 0, []))))) else none) (cond (((x3 == 2) && ((x4 == 0) && ((x5 == 0) && true)))) (Option.bind (s_l3Step_f (x0, x1, x2)) fun r6 => (some (r1.1, r1.2.1, r6))) (cond (((x3 == 3) && ((x4 == x4) && ((x5 == 0) && true)))) (some (r1.1, x4, r1.2.2)) (some ([], 0, [])))))) (cond (((x3 == 2) && ((x4 == 0) && ((x5 == 0) && true)))) (Option.bind (s_l3Step_f (x0, x1, x2)) fun r7 => (some (r1.1, r1.2.1, r7))) (cond (((x3 == 3) && ((x4 == x4) && ((x5 == 0) && true)))) (some (r1.1, x4, r1.2.2)) (some ([], 0, [])))))) (cond (((x3 == 1) && ((x4 == x4) && ((x5 == 0) && true)))) (Option.bind (s_l1In_f (x4, 0, (IntKind.i64.wrap ((List.length x0 : Int) - 1)))) fun r8 => (cond (r8) (if (0 : Int) ≤ x4 ∧ x4 < (List.length x2 : Int) then (cond (((List.getD x2 (x4 : Int).toNat 0) == 0)) (if (0 : Int) ≤ x4 ∧ x4 < (List.length r1.2.2 : Int) then (some (r1.1, r1.2.1, (List.set r1.2.2 (x4 : Int).toNat 1))) else none) (cond (((x3 == 2) && ((x4 == 0) && ((x5 == 0) && true)))) (Option.bind (s_l3Step_f (x0, x1, x2)) fun r9 => (some (r1.1, r1.2.1, r9))) (cond (((x3 == 3) && ((x4 == x4) && ((x5 == 0) && true)))) (some (r1.1, x4, r1.2.2)) (some ([], 0, []))))) else none) (cond (((x3 == 2) && ((x4 == 0) && ((x5 == 0) && true)))) (Option.bind (s_l3Step_f (x0, x1, x2)) fun r10 => (some (r1.1, r1.2.1, r10))) (cond (((x3 == 3) && ((x4 == x4) && ((x5 == 0) && true)))) (some (r1.1, x4, r1.2.2)) (some ([], 0, [])))))) (cond (((x3 == 2) && ((x4 == 0) && ((x5 == 0) && true)))) (Option.bind (s_l3Step_f (x0, x1, x2)) fun r11 => (some (r1.1, r1.2.1, r11))) (cond (((x3 == 3) && ((x4 == x4) && ((x5 == 0) && true)))) (some (r1.1, x4, r1.2.2)) (some ([], 0, []))))))) (cond (((x3 == 1) && ((x4 == x4) && ((x5 == 0) && true)))) (Option.bind (s_l1In_f (x4, 0, (IntKind.i64.wrap ((List.length x0 : Int) - 1)))) fun r12 => (cond (r12) (if (0 : Int) ≤ x4 ∧ x4 < (List.length x2 : Int) then (cond (((List.getD x2 (x4 : Int).toNat 0) == 0)) (if (0 : Int) ≤ x4 ∧ x4 < (List.length r1.2.2 : Int) then (some (r1.1, r1.2.1, (List.set r1.2.2 (x4 : Int).toNat 1))) else none) (cond (((x3 == 2) && ((x4 == 0) && ((x5 == 0) && true)))) (Option.bind (s_l3Step_f (x0, x1, x2)) fun r13 => (some (r1.1, r1.2.1, r13))) (cond (((x3 == 3) && ((x4 == x4) && ((x5 == 0) && true)))) (some (r1.1, x4, r1.2.2)) (some ([], 0, []))))) else none) (cond (((x3 == 2) && ((x4 == 0) && ((x5 == 0) && true)))) (Option.bind (s_l3Step_f (x0, x1, x2)) fun r14 => (some (r1.1, r1.2.1, r14))) (cond (((x3 == 3) && ((x4 == x4) && ((x5 == 0) && true)))) (some (r1.1, x4, r1.2.2)) (some ([], 0, [])))))) (cond (((x3 == 2) && ((x4 == 0) && ((x5 == 0) && true)))) (Option.bind (s_l3Step_f (x0, x1, x2)) fun r15 => (some (r1.1, r1.2.1, r15))) (cond (((x3 == 3) && ((x4 == x4) && ((x5 == 0) && true)))) (some (r1.1, x4, r1.2.2)) (some ([], 0, []))))))) (cond (((x3 == 1) && ((x4 == x4) && ((x5 == 0) && true)))) (Option.bind (s_l1In_f (x4, 0, (IntKind.i64.wrap ((List.length x0 : Int) - 1)))) fun r16 => (cond (r16) (if (0 : Int) ≤ x4 ∧ x4 < (List.length x2 : Int) then (cond (((List.getD x2 (x4 : Int).toNat 0) == 0)) (if (0 : Int) ≤ x4 ∧ x4 < (List.length r1.2.2 : Int) then (some (r1.1, r1.2.1, (List.set r1.2.2 (x4 : Int).toNat 1))) else none) (cond (((x3 == 2) && ((x4 == 0) && ((x5 == 0) && true)))) (Option.bind (s_l3Step_f (x0, x1, x2)) fun r17 => (some (r1.1, r1.2.1, r17))) (cond (((x3 == 3) && ((x4 == x4) && ((x5 == 0) && true)))) (some (r1.1, x4, r1.2.2)) (some ([], 0, []))))) else none) (cond (((x3 == 2) && ((x4 == 0) && ((x5 == 0) && true)))) (Option.bind (s_l3Step_f (x0, x1, x2)) fun r18 => (some (r1.1, r1.2.1, r18))) (cond (((x3 == 3) && ((x4 == x4) && ((x5 == 0) && true)))) (some (r1.1, x4, r1.2.2)) (some ([], 0, [])))))) (cond (((x3 == 2) && ((x4 == 0) && ((x5 == 0) && true)))) (Option.bind (s_l3Step_f (x0, x1, x2)) fun r19 => (some (r1.1, r1.2.1, r19))) (cond (((x3 == 3) && ((x4 == x4) && ((x5 == 0) && true)))) (some (r1.1, x4, r1.2.2)) (some ([], 0, []))))))) := by
  kernel_rfl
theorem s_l15Made_ent : Entb Tryz.prog 41 := ⟨Tryz.f41, by kernel_rfl, by kernel_rfl, by kernel_rfl⟩
theorem s_l15Made_ok : CtrOk Tryz.prog 41 ⟨s_l15Made_sig, s_l15Made_f⟩ :=
  ctr_of (fn := Tryz.f41) (by kernel_rfl) (by kernel_rfl) (fun x : Ts s_l15Made_sig.pc => s_l15Made_E) (fun x => ⟨(fn_cons ⟨s_l1In_ok, s_l1In_ent⟩ (fn_cons ⟨s_l15Place_ok, s_l15Place_ent⟩ (fn_cons ⟨s_l3Step_ok, s_l3Step_ent⟩ fn_none))), clo_none, wr_none⟩) (fun h => by cases h) follows_ (fun _ _ => trivial)
end FN
set_option linter.unusedVariables false
namespace FN
open Go Go.Proofs
/-! loop.example/firingnets/spec.DeskDo -/
@[reducible] def s_DeskDo_sig : Sig := { ps := [some 4, some 3], pc := [.view .i64, .int .i64, .view .i64, .view .place, .int .i64, .int .i64, .int .i64], rs := [some 4, none], rc := [.view .i64, .int .i64, .view .i64, .view .place, .bool] }
noncomputable def s_DeskDo_E : Env' := { fn := fun f => if f = 26 then some ⟨s_PlaceText_sig, s_PlaceText_f⟩ else if f = 28 then some ⟨s_l15Copy_sig, s_l15Copy_f⟩ else if f = 36 then some ⟨s_PlaceOk_sig, s_PlaceOk_f⟩ else if f = 40 then some ⟨s_DeskOk_sig, s_DeskOk_f⟩ else if f = 41 then some ⟨s_l15Made_sig, s_l15Made_f⟩ else none, ck := ckT, cuts := [(15, [4, 6, 8])], mine := fun i => i == 10 || i == 14 || i == 43 || i == 45 || i == 49 || i == 52 }
noncomputable def s_DeskDo_f (x : Ts s_DeskDo_sig.pc) : Option (Ts s_DeskDo_sig.rc) := runFn Tryz.prog (s_DeskDo_E) Tryz.f29 s_DeskDo_sig x
noncomputable def s_DeskDo_j0 (y0 : Int) (y1 : Int) (y2 : List (List Int × Int × List Int)) (y3 : Int) (y4 : List (Int)) (y5 : List (Int)) : Option ((List (Int)) × (Int) × (List (Int)) × (List (List Int × Int × List Int)) × (Bool)) := from_ Tryz.prog (s_DeskDo_E) Tryz.f29 s_DeskDo_sig [1, 1, 1, 1, 1, 1, 1, 1] ⟨mkT 74 [(4, .ptr 0 0), (6, .ptr 1 0), (8, .ptr 2 0)], [some (.box 30 [.nilS, .int .i64 y0, .nilS, .nilS]), some (.box 30 [.junk, .int .i64 y1, .junk, .row true .place y2]), some (.box 27 [.own 3, .int .i64 y3, .own 4]), some (.arr 3 true .i64 y4), some (.arr 3 true .i64 y5)]⟩
noncomputable def s_DeskDo_j1 (y0 : Int) (y1 : Int) (y2 : Int) (y3 : List (List Int × Int × List Int)) (y4 : List (Int)) (y5 : List (Int)) : Option ((List (Int)) × (Int) × (List (Int)) × (List (List Int × Int × List Int)) × (Bool)) := from_ Tryz.prog (s_DeskDo_E) Tryz.f29 s_DeskDo_sig [1, 1, 1, 1, 1, 1, 1, 1] ⟨mkT 74 [(4, .ptr 0 0), (6, .ptr 1 0), (8, .ptr 2 0)], [some (.box 30 [.nilS, .int .i64 y0, .nilS, .nilS]), some (.box 30 [.junk, .int .i64 y1, .junk, .own 3]), some (.box 27 [.own 4, .int .i64 y2, .own 5]), some (.arr 27 true .place y3), some (.arr 3 true .i64 y4), some (.arr 3 true .i64 y5)]⟩
theorem s_DeskDo_f_eq (x0 : (List (Int))) (x1 : (Int)) (x2 : (List (Int))) (x3 : (List (List Int × Int × List Int))) (x4 : (Int)) (x5 : (Int)) (x6 : (Int)) : s_DeskDo_f (x0, x1, x2, x3, x4, x5, x6) = (Option.bind (s_DeskOk_f (x0, x1, x2, x3)) fun r1 => (cond ((!r1)) (some ([], 0, [], [], false)) (Option.bind (s_l15Copy_f (x0, x1, x2, x3)) fun r2 => (cond (((x4 == 4) && ((x5 == 0) && ((x6 == 0) && true)))) (cond ((decide (0 < (List.length x3 : Int)))) (if (0 : Int) ≤ (IntKind.i64.wrap ((List.length r2.2.2.2 : Int) - 1)) ∧ (IntKind.i64.wrap ((List.length r2.2.2.2 : Int) - 1)) < (List.length r2.2.2.2 : Int) then (if (0 : Int) ≤ (IntKind.i64.wrap ((List.length r2.2.2.2 : Int) - 1)) ∧ (IntKind.i64.wrap ((List.length r2.2.2.2 : Int) - 1)) ≤ (List.length r2.2.2.2 : Int) then (some ((List.getD r2.2.2.2 ((IntKind.i64.wrap ((List.length r2.2.2.2 : Int) - 1)) : Int).toNat ([], 0, [])).1, (List.getD r2.2.2.2 ((IntKind.i64.wrap ((List.length r2.2.2.2 : Int) - 1)) : Int).toNat ([], 0, [])).2.1, (List.getD r2.2.2.2 ((IntKind.i64.wrap ((List.length r2.2.2.2 : Int) - 1)) : Int).toNat ([], 0, [])).2.2, (List.drop 0 (List.take (((IntKind.i64.wrap ((List.length r2.2.2.2 : Int) - 1)) : Int).toNat) r2.2.2.2)), true)) else none) else none) (Option.bind (s_l15Made_f (x0, x1, x2, x4, x5, x6)) fun r3 => (Option.bind (s_PlaceOk_f (r3.1, r3.2.1, r3.2.2)) fun r4 => (cond ((!r4)) (some (r2.1, r2.2.1, r2.2.2.1, r2.2.2.2, false)) (Option.bind (s_PlaceText_f (r3.1, r3.2.1, r3.2.2)) fun r5 => (Option.bind (s_PlaceText_f (x0, x1, x2)) fun r6 => (cond ((ByteArray.toList r5 == ByteArray.toList r6)) (some (r2.1, r2.2.1, r2.2.2.1, r2.2.2.2, false)) (if (List.length r2.2.2.2 + List.length ([(r2.1, r2.2.1, r2.2.2.1)] : List (List Int × Int × List Int))) * 56 ≤ 140737488355328 then (cond ((decide (8 < (List.length (r2.2.2.2 ++ ([(r2.1, r2.2.1, r2.2.2.1)] : List (List Int × Int × List Int))) : Int)))) (if (0 : Int) ≤ 1 ∧ 1 ≤ (List.length (r2.2.2.2 ++ ([(r2.1, r2.2.1, r2.2.2.1)] : List (List Int × Int × List Int))) : Int) then (s_DeskDo_j0 0 r2.2.1 (List.drop (1 : Int).toNat (List.take ((List.length (r2.2.2.2 ++ ([(r2.1, r2.2.1, r2.2.2.1)] : List (List Int × Int × List Int))))) (r2.2.2.2 ++ ([(r2.1, r2.2.1, r2.2.2.1)] : List (List Int × Int × List Int))))) r3.2.1 r3.1 r3.2.2) else none) (s_DeskDo_j1 0 r2.2.1 r3.2.1 (r2.2.2.2 ++ ([(r2.1, r2.2.1, r2.2.2.1)] : List (List Int × Int × List Int))) r3.1 r3.2.2)) else none)))))))) (Option.bind (s_l15Made_f (x0, x1, x2, x4, x5, x6)) fun r7 => (Option.bind (s_PlaceOk_f (r7.1, r7.2.1, r7.2.2)) fun r8 => (cond ((!r8)) (some (r2.1, r2.2.1, r2.2.2.1, r2.2.2.2, false)) (Option.bind (s_PlaceText_f (r7.1, r7.2.1, r7.2.2)) fun r9 => (Option.bind (s_PlaceText_f (x0, x1, x2)) fun r10 => (cond ((ByteArray.toList r9 == ByteArray.toList r10)) (some (r2.1, r2.2.1, r2.2.2.1, r2.2.2.2, false)) (if (List.length r2.2.2.2 + List.length ([(r2.1, r2.2.1, r2.2.2.1)] : List (List Int × Int × List Int))) * 56 ≤ 140737488355328 then (cond ((decide (8 < (List.length (r2.2.2.2 ++ ([(r2.1, r2.2.1, r2.2.2.1)] : List (List Int × Int × List Int))) : Int)))) (if (0 : Int) ≤ 1 ∧ 1 ≤ (List.length (r2.2.2.2 ++ ([(r2.1, r2.2.1, r2.2.2.1)] : List (List Int × Int × List Int))) : Int) then (s_DeskDo_j0 0 r2.2.1 (List.drop (1 : Int).toNat (List.take ((List.length (r2.2.2.2 ++ ([(r2.1, r2.2.1, r2.2.2.1)] : List (List Int × Int × List Int))))) (r2.2.2.2 ++ ([(r2.1, r2.2.1, r2.2.2.1)] : List (List Int × Int × List Int))))) r7.2.1 r7.1 r7.2.2) else none) (s_DeskDo_j1 0 r2.2.1 r7.2.1 (r2.2.2.2 ++ ([(r2.1, r2.2.1, r2.2.2.1)] : List (List Int × Int × List Int))) r7.1 r7.2.2)) else none))))))))))) := by
  kernel_rfl
theorem s_DeskDo_j0_eq (y0 : Int) (y1 : Int) (y2 : List (List Int × Int × List Int)) (y3 : Int) (y4 : List (Int)) (y5 : List (Int)) : s_DeskDo_j0 y0 y1 y2 y3 y4 y5 = (some (y4, y3, y5, y2, true)) := by
  kernel_rfl
theorem s_DeskDo_j1_eq (y0 : Int) (y1 : Int) (y2 : Int) (y3 : List (List Int × Int × List Int)) (y4 : List (Int)) (y5 : List (Int)) : s_DeskDo_j1 y0 y1 y2 y3 y4 y5 = (some (y4, y2, y5, y3, true)) := by
  kernel_rfl
theorem s_DeskDo_ent : Entb Tryz.prog 29 := ⟨Tryz.f29, by kernel_rfl, by kernel_rfl, by kernel_rfl⟩
theorem s_DeskDo_ok : CtrOk Tryz.prog 29 ⟨s_DeskDo_sig, s_DeskDo_f⟩ :=
  ctr_of (fn := Tryz.f29) (by kernel_rfl) (by kernel_rfl) (fun x : Ts s_DeskDo_sig.pc => s_DeskDo_E) (fun x => ⟨(fn_cons ⟨s_PlaceText_ok, s_PlaceText_ent⟩ (fn_cons ⟨s_l15Copy_ok, s_l15Copy_ent⟩ (fn_cons ⟨s_PlaceOk_ok, s_PlaceOk_ent⟩ (fn_cons ⟨s_DeskOk_ok, s_DeskOk_ent⟩ (fn_cons ⟨s_l15Made_ok, s_l15Made_ent⟩ fn_none))))), clo_none, wr_none⟩) (fun h => by cases h) follows_ (fun _ _ => trivial)
end FN
set_option linter.unusedVariables false
namespace FN
open Go Go.Proofs
/-! loop.example/firingnets/spec.l15Run -/
@[reducible] def s_l15Run_sig : Sig := { ps := [some 4, none], pc := [.view .i64, .int .i64, .view .i64, .view .place, .view .deed], rs := [some 4, none], rc := [.view .i64, .int .i64, .view .i64, .view .place, .int .i64] }
noncomputable def s_l15Run_E : Env' := { fn := fun f => if f = 28 then some ⟨s_l15Copy_sig, s_l15Copy_f⟩ else if f = 29 then some ⟨s_DeskDo_sig, s_DeskDo_f⟩ else none, ck := ckT, cuts := [(4, [1, 4, 6, 7, 8])], mine := fun i => false }
noncomputable def s_l15Run_f (x : Ts s_l15Run_sig.pc) : Option (Ts s_l15Run_sig.rc) := runFn Tryz.prog (s_l15Run_E) Tryz.f14 s_l15Run_sig x
noncomputable def s_l15Run_l0 (y0 : List (Int × Int × Int)) (y1 : Int) (y2 : Int) (y3 : Int) (y4 : List (Int)) (y5 : Int) (y6 : List (Int)) (y7 : List (List Int × Int × List Int)) : Option ((List (Int)) × (Int) × (List (Int)) × (List (List Int × Int × List Int)) × (Int)) := from_ Tryz.prog (s_l15Run_E) Tryz.f14 s_l15Run_sig [1, 1, 1, 0, 1, 0] ⟨mkT 34 [(1, .row false .deed y0), (4, .ptr 0 0), (6, .ptr 1 0), (7, .int .i64 y1), (8, .int .i64 y2)], [some (.box 30 [.nilS, .int .i64 y3, .nilS, .nilS]), some (.box 30 [.row true .i64 y4, .int .i64 y5, .row true .i64 y6, .row true .place y7])]⟩
noncomputable def s_l15Run_l1 (y0 : List (Int × Int × Int)) (y1 : Int) (y2 : Int) (y3 : Int) (y4 : List (Int)) (y5 : Int) (y6 : List (Int)) (y7 : List (List Int × Int × List Int)) : Option ((List (Int)) × (Int) × (List (Int)) × (List (List Int × Int × List Int)) × (Int)) := from_ Tryz.prog (s_l15Run_E) Tryz.f14 s_l15Run_sig [1, 1, 1, 0, 1, 0] ⟨mkT 34 [(1, .row false .deed y0), (4, .ptr 0 0), (6, .ptr 1 0), (7, .int .i64 y1), (8, .int .i64 y2)], [some (.box 30 [.nilS, .int .i64 y3, .nilS, .nilS]), some (.box 30 [.row false .i64 y4, .int .i64 y5, .row false .i64 y6, .row false .place y7])]⟩
theorem s_l15Run_f_eq (x0 : (List (Int))) (x1 : (Int)) (x2 : (List (Int))) (x3 : (List (List Int × Int × List Int))) (x4 : (List (Int × Int × Int))) : s_l15Run_f (x0, x1, x2, x3, x4) = (Option.bind (s_l15Copy_f (x0, x1, x2, x3)) fun r1 => (s_l15Run_l0 x4 0 0 0 r1.1 r1.2.1 r1.2.2.1 r1.2.2.2)) := by
  kernel_rfl
theorem s_l15Run_l0_eq (y0 : List (Int × Int × Int)) (y1 : Int) (y2 : Int) (y3 : Int) (y4 : List (Int)) (y5 : Int) (y6 : List (Int)) (y7 : List (List Int × Int × List Int)) : s_l15Run_l0 y0 y1 y2 y3 y4 y5 y6 y7 = (cond ((decide (y2 < (List.length y0 : Int)))) (if (0 : Int) ≤ y2 ∧ y2 < (List.length y0 : Int) then (Option.bind (s_DeskDo_f (y4, y5, y6, y7, (List.getD y0 (y2 : Int).toNat (0, 0, 0)).1, (List.getD y0 (y2 : Int).toNat (0, 0, 0)).2.1, (List.getD y0 (y2 : Int).toNat (0, 0, 0)).2.2)) fun r1 => (cond (r1.2.2.2.2) (s_l15Run_l1 y0 (IntKind.i64.wrap (y1 + 1)) (IntKind.i64.wrap (y2 + 1)) y3 r1.1 r1.2.1 r1.2.2.1 r1.2.2.2.1) (s_l15Run_l0 y0 y1 (IntKind.i64.wrap (y2 + 1)) y3 y4 y5 y6 y7))) else none) (some (y4, y5, y6, y7, y1))) := by
  refine (loopK_eq Tryz.prog (s_l15Run_E) (sub (Tryz.f14.body.getD .skip) [1, 1, 1, 0, 1, 0, 0]) _ _).trans ?_
  refine Eq.trans (b := (cond ((decide (y2 < (List.length y0 : Int)))) (if (0 : Int) ≤ y2 ∧ y2 < (List.length y0 : Int) then (same [(Option.bind (s_DeskDo_f (y4, y5, y6, y7, (List.getD y0 (y2 : Int).toNat (0, 0, 0)).1, (List.getD y0 (y2 : Int).toNat (0, 0, 0)).2.1, (List.getD y0 (y2 : Int).toNat (0, 0, 0)).2.2)) fun r1 => (cond (r1.2.2.2.2) (s_l15Run_l1 y0 (IntKind.i64.wrap (y1 + 1)) (IntKind.i64.wrap (y2 + 1)) y3 r1.1 r1.2.1 r1.2.2.1 r1.2.2.2.1) (s_l15Run_l0 y0 y1 (IntKind.i64.wrap (y2 + 1)) y3 y4 y5 y6 y7))), (Option.bind (s_DeskDo_f (y4, y5, y6, y7, (List.getD y0 (y2 : Int).toNat (0, 0, 0)).1, (List.getD y0 (y2 : Int).toNat (0, 0, 0)).2.1, (List.getD y0 (y2 : Int).toNat (0, 0, 0)).2.2)) fun r1 => (cond (r1.2.2.2.2) (s_l15Run_l1 y0 (IntKind.i64.wrap (y1 + 1)) (IntKind.i64.wrap (y2 + 1)) y3 r1.1 r1.2.1 r1.2.2.1 r1.2.2.2.1) (s_l15Run_l0 y0 y1 (IntKind.i64.wrap (y2 + 1)) y3 y4 y5 y6 y7)))]) else none) (some (y4, y5, y6, y7, y1)))) (by kernel_rfl) ?_
  simp only [same2, same3, same4, same5, same6, obind_ite]
theorem s_l15Run_l1_eq (y0 : List (Int × Int × Int)) (y1 : Int) (y2 : Int) (y3 : Int) (y4 : List (Int)) (y5 : Int) (y6 : List (Int)) (y7 : List (List Int × Int × List Int)) : s_l15Run_l1 y0 y1 y2 y3 y4 y5 y6 y7 = (cond ((decide (y2 < (List.length y0 : Int)))) (if (0 : Int) ≤ y2 ∧ y2 < (List.length y0 : Int) then (Option.bind (s_DeskDo_f (y4, y5, y6, y7, (List.getD y0 (y2 : Int).toNat (0, 0, 0)).1, (List.getD y0 (y2 : Int).toNat (0, 0, 0)).2.1, (List.getD y0 (y2 : Int).toNat (0, 0, 0)).2.2)) fun r1 => (cond (r1.2.2.2.2) (s_l15Run_l1 y0 (IntKind.i64.wrap (y1 + 1)) (IntKind.i64.wrap (y2 + 1)) y3 r1.1 r1.2.1 r1.2.2.1 r1.2.2.2.1) (s_l15Run_l1 y0 y1 (IntKind.i64.wrap (y2 + 1)) y3 y4 y5 y6 y7))) else none) (some (y4, y5, y6, y7, y1))) := by
  refine (loopK_eq Tryz.prog (s_l15Run_E) (sub (Tryz.f14.body.getD .skip) [1, 1, 1, 0, 1, 0, 0]) _ _).trans ?_
  refine Eq.trans (b := (cond ((decide (y2 < (List.length y0 : Int)))) (if (0 : Int) ≤ y2 ∧ y2 < (List.length y0 : Int) then (same [(Option.bind (s_DeskDo_f (y4, y5, y6, y7, (List.getD y0 (y2 : Int).toNat (0, 0, 0)).1, (List.getD y0 (y2 : Int).toNat (0, 0, 0)).2.1, (List.getD y0 (y2 : Int).toNat (0, 0, 0)).2.2)) fun r1 => (cond (r1.2.2.2.2) (s_l15Run_l1 y0 (IntKind.i64.wrap (y1 + 1)) (IntKind.i64.wrap (y2 + 1)) y3 r1.1 r1.2.1 r1.2.2.1 r1.2.2.2.1) (s_l15Run_l1 y0 y1 (IntKind.i64.wrap (y2 + 1)) y3 y4 y5 y6 y7))), (Option.bind (s_DeskDo_f (y4, y5, y6, y7, (List.getD y0 (y2 : Int).toNat (0, 0, 0)).1, (List.getD y0 (y2 : Int).toNat (0, 0, 0)).2.1, (List.getD y0 (y2 : Int).toNat (0, 0, 0)).2.2)) fun r1 => (cond (r1.2.2.2.2) (s_l15Run_l1 y0 (IntKind.i64.wrap (y1 + 1)) (IntKind.i64.wrap (y2 + 1)) y3 r1.1 r1.2.1 r1.2.2.1 r1.2.2.2.1) (s_l15Run_l1 y0 y1 (IntKind.i64.wrap (y2 + 1)) y3 y4 y5 y6 y7)))]) else none) (some (y4, y5, y6, y7, y1)))) (by kernel_rfl) ?_
  simp only [same2, same3, same4, same5, same6, obind_ite]
theorem s_l15Run_ent : Entb Tryz.prog 14 := ⟨Tryz.f14, by kernel_rfl, by kernel_rfl, by kernel_rfl⟩
theorem s_l15Run_ok : CtrOk Tryz.prog 14 ⟨s_l15Run_sig, s_l15Run_f⟩ :=
  ctr_of (fn := Tryz.f14) (by kernel_rfl) (by kernel_rfl) (fun x : Ts s_l15Run_sig.pc => s_l15Run_E) (fun x => ⟨(fn_cons ⟨s_l15Copy_ok, s_l15Copy_ent⟩ (fn_cons ⟨s_DeskDo_ok, s_DeskDo_ent⟩ fn_none)), clo_none, wr_none⟩) (fun h => by cases h) follows_ (fun _ _ => trivial)
end FN
set_option linter.unusedVariables false
namespace FN
open Go Go.Proofs
/-! loop.example/firingnets/impl.needStep -/
@[reducible] def i_needStep_sig : Sig := { ps := [none, none, none, none], pc := [.view .i64, .int .i64, .any, .view .i64], rs := [none], rc := [.row 3 .i64] }
noncomputable def i_needStep_E : Env' := { fn := fun f => none, ck := ckT, cuts := [(3, [0, 1, 2, 3, 9, 19, 20, 21]), (9, [0, 1, 2, 3, 9, 10, 12, 13, 19, 20, 21, 35, 36, 37]), (14, [0, 1, 2, 3, 9, 10, 12, 13, 19, 20, 21]), (16, [0, 1, 2, 3, 9, 10, 12, 13, 19, 20, 21])], mine := fun i => false }
noncomputable def i_needStep_f (x : Ts i_needStep_sig.pc) : Option (Ts i_needStep_sig.rc) := runFn Tryz.prog (i_needStep_E) Tryz.f60 i_needStep_sig x
noncomputable def i_needStep_l0 (y0 : List (Int)) (y1 : Int) (y2 : List (Int)) (y3 : List (Int)) (y4 : Int) (y5 : Int) (y6 : List (Int)) : Option ((List (Int))) := from_ Tryz.prog (i_needStep_E) Tryz.f60 i_needStep_sig [1, 1, 0, 1, 0] ⟨mkT 71 [(0, .row false .i64 y0), (1, .int .i64 y1), (2, .nilS), (3, .row false .i64 y2), (9, .own 0), (19, .row false .i64 y3), (20, .int .i64 y4), (21, .int .i64 y5)], [some (.arr 3 true .i64 y6)]⟩
noncomputable def i_needStep_l1 (y0 : List (Int)) (y1 : Int) (y2 : List (Int)) (y3 : Int) (y4 : Int) (y5 : Int) (y6 : List (Int)) (y7 : Int) (y8 : Int) (y9 : List (Int)) (y10 : Int) (y11 : Int) (y12 : List (Int)) : Option ((List (Int))) := from_ Tryz.prog (i_needStep_E) Tryz.f60 i_needStep_sig [1, 1, 0, 1, 0, 0, 1, 1, 0, 0, 1, 1, 1, 0, 1, 0] ⟨mkT 71 [(0, .row false .i64 y0), (1, .int .i64 y1), (2, .nilS), (3, .row false .i64 y2), (9, .own 0), (10, .int .i64 y3), (12, .int .i64 y4), (13, .int .i64 y5), (19, .row false .i64 y6), (20, .int .i64 y7), (21, .int .i64 y8), (35, .row false .i64 y9), (36, .int .i64 y10), (37, .int .i64 y11)], [some (.arr 3 true .i64 y12)]⟩
noncomputable def i_needStep_j2 (y0 : List (Int)) (y1 : Int) (y2 : List (Int)) (y3 : Int) (y4 : Int) (y5 : Int) (y6 : List (Int)) (y7 : Int) (y8 : Int) (y9 : List (Int)) : Option ((List (Int))) := from_ Tryz.prog (i_needStep_E) Tryz.f60 i_needStep_sig [1, 1, 0, 1, 0, 0, 1, 1, 0, 0, 1, 1, 1, 1] ⟨mkT 71 [(0, .row false .i64 y0), (1, .int .i64 y1), (2, .nilS), (3, .row false .i64 y2), (9, .own 0), (10, .int .i64 y3), (12, .int .i64 y4), (13, .int .i64 y5), (19, .row false .i64 y6), (20, .int .i64 y7), (21, .int .i64 y8)], [some (.arr 3 true .i64 y9)]⟩
noncomputable def i_needStep_j3 (y0 : List (Int)) (y1 : Int) (y2 : List (Int)) (y3 : Int) (y4 : Int) (y5 : Int) (y6 : List (Int)) (y7 : Int) (y8 : Int) (y9 : List (Int)) : Option ((List (Int))) := from_ Tryz.prog (i_needStep_E) Tryz.f60 i_needStep_sig [1, 1, 0, 1, 0, 0, 1, 1, 0, 0, 1, 1, 1, 1, 1] ⟨mkT 71 [(0, .row false .i64 y0), (1, .int .i64 y1), (2, .nilS), (3, .row false .i64 y2), (9, .own 0), (10, .int .i64 y3), (12, .int .i64 y4), (13, .int .i64 y5), (19, .row false .i64 y6), (20, .int .i64 y7), (21, .int .i64 y8)], [some (.arr 3 true .i64 y9)]⟩
theorem i_needStep_f_eq (x0 : (List (Int))) (x1 : (Int)) (x2 : (Unit)) (x3 : (List (Int))) : i_needStep_f (x0, x1, x2, x3) = (if (0 : Int) ≤ (List.length x3 : Int) ∧ (List.length x3 : Int) * 8 ≤ 140737488355328 ∧ (List.length x3 : Int) ≤ 140737488355328 then (i_needStep_l0 x0 x1 x3 x3 (List.length x3 : Int) 0 (List.replicate ((List.length x3 : Int) : Int).toNat 0 : List (Int))) else none) := by
  kernel_rfl
theorem i_needStep_l0_eq (y0 : List (Int)) (y1 : Int) (y2 : List (Int)) (y3 : List (Int)) (y4 : Int) (y5 : Int) (y6 : List (Int)) : i_needStep_l0 y0 y1 y2 y3 y4 y5 y6 = (cond ((decide (y5 < y4))) (if (0 : Int) ≤ y5 ∧ y5 < (List.length y3 : Int) then (cond ((decide (0 < (List.getD y3 (y5 : Int).toNat 0)))) (if y1 = 0 then none else (if (0 : Int) ≤ y5 ∧ y5 < (List.length y6 : Int) then (i_needStep_l0 y0 y1 y2 y3 y4 (IntKind.i64.wrap (y5 + 1)) (List.set y6 (y5 : Int).toNat (Int.tmod (IntKind.i64.wrap ((List.getD y3 (y5 : Int).toNat 0) + 1)) y1))) else none)) (i_needStep_l1 y0 y1 y2 y5 0 1 y3 y4 y5 y2 (List.length y2 : Int) 0 y6)) else none) (some y6)) := by
  refine (loopK_eq Tryz.prog (i_needStep_E) (sub (Tryz.f60.body.getD .skip) [1, 1, 0, 1, 0, 0]) _ _).trans ?_
  kernel_rfl
theorem i_needStep_l1_eq (y0 : List (Int)) (y1 : Int) (y2 : List (Int)) (y3 : Int) (y4 : Int) (y5 : Int) (y6 : List (Int)) (y7 : Int) (y8 : Int) (y9 : List (Int)) (y10 : Int) (y11 : Int) (y12 : List (Int)) : i_needStep_l1 y0 y1 y2 y3 y4 y5 y6 y7 y8 y9 y10 y11 y12 = (cond ((decide (y11 < y10))) (if (0 : Int) ≤ y11 ∧ y11 < (List.length y9 : Int) then (if (0 : Int) ≤ y3 ∧ y3 < (List.length y0 : Int) then (if y11 < 0 then none else (cond (((Go.bits .and IntKind.i64 (Int.fdiv (List.getD y0 (y3 : Int).toNat 0) (2 ^ min (y11 : Int).toNat IntKind.i64.bits)) 1) == 1)) (cond (((List.getD y9 (y11 : Int).toNat 0) == 1)) (i_needStep_l1 y0 y1 y2 y3 (IntKind.i64.wrap (y4 + 1)) y5 y6 y7 y8 y9 y10 (IntKind.i64.wrap (y11 + 1)) y12) (i_needStep_l1 y0 y1 y2 y3 y4 y5 y6 y7 y8 y9 y10 (IntKind.i64.wrap (y11 + 1)) y12)) (i_needStep_l1 y0 y1 y2 y3 y4 y5 y6 y7 y8 y9 y10 (IntKind.i64.wrap (y11 + 1)) y12))) else none) else none) (i_needStep_j2 y0 y1 y2 y3 y4 y5 y6 y7 y8 y12)) := by
  refine (loopK_eq Tryz.prog (i_needStep_E) (sub (Tryz.f60.body.getD .skip) [1, 1, 0, 1, 0, 0, 1, 1, 0, 0, 1, 1, 1, 0, 1, 0, 0]) _ _).trans ?_
  kernel_rfl
theorem i_needStep_j2_eq (y0 : List (Int)) (y1 : Int) (y2 : List (Int)) (y3 : Int) (y4 : Int) (y5 : Int) (y6 : List (Int)) (y7 : Int) (y8 : Int) (y9 : List (Int)) : i_needStep_j2 y0 y1 y2 y3 y4 y5 y6 y7 y8 y9 = (i_needStep_j3 y0 y1 y2 y3 y4 y5 y6 y7 y8 y9) := by
  kernel_rfl
theorem i_needStep_j3_eq (y0 : List (Int)) (y1 : Int) (y2 : List (Int)) (y3 : Int) (y4 : Int) (y5 : Int) (y6 : List (Int)) (y7 : Int) (y8 : Int) (y9 : List (Int)) : i_needStep_j3 y0 y1 y2 y3 y4 y5 y6 y7 y8 y9 = (cond ((decide (y5 ≤ y4))) (if (0 : Int) ≤ y3 ∧ y3 < (List.length y9 : Int) then (i_needStep_l0 y0 y1 y2 y6 y7 (IntKind.i64.wrap (y8 + 1)) (List.set y9 (y3 : Int).toNat 1)) else none) (i_needStep_l0 y0 y1 y2 y6 y7 (IntKind.i64.wrap (y8 + 1)) y9)) := by
  kernel_rfl
theorem i_needStep_ent : Entb Tryz.prog 60 := ⟨Tryz.f60, by kernel_rfl, by kernel_rfl, by kernel_rfl⟩
theorem i_needStep_ok : CtrOk Tryz.prog 60 ⟨i_needStep_sig, i_needStep_f⟩ :=
  ctr_of (fn := Tryz.f60) (by kernel_rfl) (by kernel_rfl) (fun x : Ts i_needStep_sig.pc => i_needStep_E) (fun x => ⟨fn_none, clo_none, wr_none⟩) (fun h => by cases h) follows_ (fun _ _ => trivial)
end FN
set_option linter.unusedVariables false
namespace FN
open Go Go.Proofs
/-! loop.example/firingnets/impl.DeskOk -/
@[reducible] def i_DeskOk_sig : Sig := { ps := [some 4], pc := [.view .i64, .int .i64, .view .i64, .view .place], rs := [none], rc := [.bool] }
noncomputable def i_DeskOk_E : Env' := { fn := fun f => if f = 51 then some ⟨i_PlaceOk_sig, i_PlaceOk_f⟩ else none, ck := ckT, cuts := [(2, [1, 6, 7, 8]), (7, [1])], mine := fun i => false }
noncomputable def i_DeskOk_f (x : Ts i_DeskOk_sig.pc) : Option (Ts i_DeskOk_sig.rc) := runFn Tryz.prog (i_DeskOk_E) Tryz.f59 i_DeskOk_sig x
noncomputable def i_DeskOk_l0 (y0 : List (List Int × Int × List Int)) (y1 : Int) (y2 : Int) (y3 : List (Int)) (y4 : Int) (y5 : List (Int)) (y6 : List (List Int × Int × List Int)) : Option ((Bool)) := from_ Tryz.prog (i_DeskOk_E) Tryz.f59 i_DeskOk_sig [1, 0, 1, 0] ⟨mkT 25 [(1, .ptr 0 0), (6, .row false .place y0), (7, .int .i64 y1), (8, .int .i64 y2)], [some (.box 30 [.row false .i64 y3, .int .i64 y4, .row false .i64 y5, .row false .place y6])]⟩
noncomputable def i_DeskOk_j1 (y0 : List (Int)) (y1 : Int) (y2 : List (Int)) (y3 : List (List Int × Int × List Int)) : Option ((Bool)) := from_ Tryz.prog (i_DeskOk_E) Tryz.f59 i_DeskOk_sig [1, 1] ⟨mkT 25 [(1, .ptr 0 0)], [some (.box 30 [.row false .i64 y0, .int .i64 y1, .row false .i64 y2, .row false .place y3])]⟩
theorem i_DeskOk_f_eq (x0 : (List (Int))) (x1 : (Int)) (x2 : (List (Int))) (x3 : (List (List Int × Int × List Int))) : i_DeskOk_f (x0, x1, x2, x3) = (i_DeskOk_l0 x3 (List.length x3 : Int) 0 x0 x1 x2 x3) := by
  kernel_rfl
theorem i_DeskOk_l0_eq (y0 : List (List Int × Int × List Int)) (y1 : Int) (y2 : Int) (y3 : List (Int)) (y4 : Int) (y5 : List (Int)) (y6 : List (List Int × Int × List Int)) : i_DeskOk_l0 y0 y1 y2 y3 y4 y5 y6 = (cond ((decide (y2 < y1))) (if (0 : Int) ≤ y2 ∧ y2 < (List.length y0 : Int) then (Option.bind (i_PlaceOk_f ((List.getD y0 (y2 : Int).toNat ([], 0, [])).1, (List.getD y0 (y2 : Int).toNat ([], 0, [])).2.1, (List.getD y0 (y2 : Int).toNat ([], 0, [])).2.2)) fun r1 => (cond ((!r1)) (some false) (i_DeskOk_l0 y0 y1 (IntKind.i64.wrap (y2 + 1)) y3 y4 y5 y6))) else none) (i_DeskOk_j1 y3 y4 y5 y6)) := by
  refine (loopK_eq Tryz.prog (i_DeskOk_E) (sub (Tryz.f59.body.getD .skip) [1, 0, 1, 0, 0]) _ _).trans ?_
  kernel_rfl
theorem i_DeskOk_j1_eq (y0 : List (Int)) (y1 : Int) (y2 : List (Int)) (y3 : List (List Int × Int × List Int)) : i_DeskOk_j1 y0 y1 y2 y3 = (Option.bind (i_PlaceOk_f (y0, y1, y2)) fun r1 => (cond (r1) (some (decide ((List.length y3 : Int) ≤ 8))) (some false))) := by
  kernel_rfl
theorem i_DeskOk_ent : Entb Tryz.prog 59 := ⟨Tryz.f59, by kernel_rfl, by kernel_rfl, by kernel_rfl⟩
theorem i_DeskOk_ok : CtrOk Tryz.prog 59 ⟨i_DeskOk_sig, i_DeskOk_f⟩ :=
  ctr_of (fn := Tryz.f59) (by kernel_rfl) (by kernel_rfl) (fun x : Ts i_DeskOk_sig.pc => i_DeskOk_E) (fun x => ⟨(fn_cons ⟨i_PlaceOk_ok, i_PlaceOk_ent⟩ fn_none), clo_none, wr_none⟩) (fun h => by cases h) follows_ (fun _ _ => trivial)
end FN
set_option linter.unusedVariables false
namespace FN
open Go Go.Proofs
/-! slices.Clone[[]int,int] -/
@[reducible] def x_slices_Clone_int_int_sig : Sig := { ps := [none], pc := [.view .i64], rs := [none], rc := [.row 3 .i64] }
noncomputable def x_slices_Clone_int_int_E : Env' := { fn := fun f => none, ck := ckT, cuts := [], mine := fun i => false }
noncomputable def x_slices_Clone_int_int_f (x : Ts x_slices_Clone_int_int_sig.pc) : Option (Ts x_slices_Clone_int_int_sig.rc) := runFn Tryz.prog (x_slices_Clone_int_int_E) Tryz.f75 x_slices_Clone_int_int_sig x
theorem x_slices_Clone_int_int_f_eq (x0 : (List (Int))) : x_slices_Clone_int_int_f x0 = (if true = true ∧ List.length x0 ≠ 0 then (if (List.length ([] : List (Int)) + List.length x0) * 8 ≤ 140737488355328 then (some (([] : List (Int)) ++ x0)) else none) else none) := by
  kernel_rfl
theorem x_slices_Clone_int_int_ent : Entb Tryz.prog 75 := ⟨Tryz.f75, by kernel_rfl, by kernel_rfl, by kernel_rfl⟩
theorem x_slices_Clone_int_int_ok : CtrOk Tryz.prog 75 ⟨x_slices_Clone_int_int_sig, x_slices_Clone_int_int_f⟩ :=
  ctr_of (fn := Tryz.f75) (by kernel_rfl) (by kernel_rfl) (fun x : Ts x_slices_Clone_int_int_sig.pc => x_slices_Clone_int_int_E) (fun x => ⟨fn_none, clo_none, wr_none⟩) (fun h => by cases h) follows_ (fun _ _ => trivial)
end FN
set_option linter.unusedVariables false
namespace FN
open Go Go.Proofs
/-! loop.example/firingnets/impl.copyPlace -/
@[reducible] def i_copyPlace_sig : Sig := { ps := [some 3], pc := [.view .i64, .int .i64, .view .i64], rs := [some 3], rc := [.row 3 .i64, .int .i64, .row 3 .i64] }
noncomputable def i_copyPlace_E : Env' := { fn := fun f => if f = 75 then some ⟨x_slices_Clone_int_int_sig, x_slices_Clone_int_int_f⟩ else none, ck := ckT, cuts := [], mine := fun i => i == 5 || i == 10 }
noncomputable def i_copyPlace_f (x : Ts i_copyPlace_sig.pc) : Option (Ts i_copyPlace_sig.rc) := runFn Tryz.prog (i_copyPlace_E) Tryz.f58 i_copyPlace_sig x
theorem i_copyPlace_f_eq (x0 : (List (Int))) (x1 : (Int)) (x2 : (List (Int))) : i_copyPlace_f (x0, x1, x2) = (Option.bind (x_slices_Clone_int_int_f x0) fun r1 => (Option.bind (x_slices_Clone_int_int_f x2) fun r2 => (some (r1, x1, r2)))) := by
  kernel_rfl
theorem i_copyPlace_ent : Entb Tryz.prog 58 := ⟨Tryz.f58, by kernel_rfl, by kernel_rfl, by kernel_rfl⟩
theorem i_copyPlace_ok : CtrOk Tryz.prog 58 ⟨i_copyPlace_sig, i_copyPlace_f⟩ :=
  ctr_of (fn := Tryz.f58) (by kernel_rfl) (by kernel_rfl) (fun x : Ts i_copyPlace_sig.pc => i_copyPlace_E) (fun x => ⟨(fn_cons ⟨x_slices_Clone_int_int_ok, x_slices_Clone_int_int_ent⟩ fn_none), clo_none, wr_none⟩) (fun h => by cases h) follows_ (fun _ _ => trivial)
end FN
set_option linter.unusedVariables false
namespace FN
open Go Go.Proofs
/-! loop.example/firingnets/impl.copyDesk -/
@[reducible] def i_copyDesk_sig : Sig := { ps := [some 4], pc := [.view .i64, .int .i64, .view .i64, .view .place], rs := [some 4], rc := [.row 3 .i64, .int .i64, .row 3 .i64, .drow true 27 3] }
noncomputable def i_copyDesk_E : Env' := { fn := fun f => if f = 58 then some ⟨i_copyPlace_sig, i_copyPlace_f⟩ else none, ck := ckT, cuts := [(3, [2, 3, 11, 12, 13])], mine := fun i => i == 8 || i == 20 || i == 21 }
noncomputable def i_copyDesk_f (x : Ts i_copyDesk_sig.pc) : Option (Ts i_copyDesk_sig.rc) := runFn Tryz.prog (i_copyDesk_E) Tryz.f46 i_copyDesk_sig x
noncomputable def i_copyDesk_l0 (y0 : List (List Int × Int × List Int)) (y1 : Int) (y2 : Int) (y3 : Int) (y4 : Int) (y5 : List (Int)) (y6 : List (Int)) : Option ((List (Int)) × (Int) × (List (Int)) × (List (List Int × Int × List Int))) := from_ Tryz.prog (i_copyDesk_E) Tryz.f46 i_copyDesk_sig [1, 1, 0, 1, 0] ⟨mkT 26 [(2, .ptr 0 0), (3, .ptr 1 0), (11, .row false .place y0), (12, .int .i64 y1), (13, .int .i64 y2)], [some (.box 30 [.nilS, .int .i64 y3, .nilS, .nilS]), some (.box 30 [.own 2, .int .i64 y4, .own 3, .nilS]), some (.arr 3 true .i64 y5), some (.arr 3 true .i64 y6)]⟩
noncomputable def i_copyDesk_l1 (y0 : List (List Int × Int × List Int)) (y1 : Int) (y2 : Int) (y3 : Int) (y4 : Int) (y5 : List (Int)) (y6 : List (Int)) (y7 : List (List Int × Int × List Int)) : Option ((List (Int)) × (Int) × (List (Int)) × (List (List Int × Int × List Int))) := from_ Tryz.prog (i_copyDesk_E) Tryz.f46 i_copyDesk_sig [1, 1, 0, 1, 0] ⟨mkT 26 [(2, .ptr 0 0), (3, .ptr 1 0), (11, .row false .place y0), (12, .int .i64 y1), (13, .int .i64 y2)], [some (.box 30 [.nilS, .int .i64 y3, .nilS, .nilS]), some (.box 30 [.own 2, .int .i64 y4, .own 3, .own 4]), some (.arr 3 true .i64 y5), some (.arr 3 true .i64 y6), some (.dp true 27 3 y7)]⟩
theorem i_copyDesk_f_eq (x0 : (List (Int))) (x1 : (Int)) (x2 : (List (Int))) (x3 : (List (List Int × Int × List Int))) : i_copyDesk_f (x0, x1, x2, x3) = (Option.bind (i_copyPlace_f (x0, x1, x2)) fun r1 => (i_copyDesk_l0 x3 (List.length x3 : Int) 0 0 r1.2.1 r1.1 r1.2.2)) := by
  kernel_rfl
theorem i_copyDesk_l0_eq (y0 : List (List Int × Int × List Int)) (y1 : Int) (y2 : Int) (y3 : Int) (y4 : Int) (y5 : List (Int)) (y6 : List (Int)) : i_copyDesk_l0 y0 y1 y2 y3 y4 y5 y6 = (cond ((decide (y2 < y1))) (if (0 : Int) ≤ y2 ∧ y2 < (List.length y0 : Int) then (Option.bind (i_copyPlace_f ((List.getD y0 (y2 : Int).toNat ([], 0, [])).1, (List.getD y0 (y2 : Int).toNat ([], 0, [])).2.1, (List.getD y0 (y2 : Int).toNat ([], 0, [])).2.2)) fun r1 => (if List.length ([(r1.1, r1.2.1, r1.2.2)] : List (List Int × Int × List Int)) * 56 ≤ 140737488355328 then (i_copyDesk_l1 y0 y1 (IntKind.i64.wrap (y2 + 1)) y3 y4 y5 y6 ([(r1.1, r1.2.1, r1.2.2)] : List (List Int × Int × List Int))) else none)) else none) (some (y5, y4, y6, []))) := by
  refine (loopK_eq Tryz.prog (i_copyDesk_E) (sub (Tryz.f46.body.getD .skip) [1, 1, 0, 1, 0, 0]) _ _).trans ?_
  kernel_rfl
theorem i_copyDesk_l1_eq (y0 : List (List Int × Int × List Int)) (y1 : Int) (y2 : Int) (y3 : Int) (y4 : Int) (y5 : List (Int)) (y6 : List (Int)) (y7 : List (List Int × Int × List Int)) : i_copyDesk_l1 y0 y1 y2 y3 y4 y5 y6 y7 = (cond ((decide (y2 < y1))) (if (0 : Int) ≤ y2 ∧ y2 < (List.length y0 : Int) then (Option.bind (i_copyPlace_f ((List.getD y0 (y2 : Int).toNat ([], 0, [])).1, (List.getD y0 (y2 : Int).toNat ([], 0, [])).2.1, (List.getD y0 (y2 : Int).toNat ([], 0, [])).2.2)) fun r1 => (if (List.length y7 + List.length ([(r1.1, r1.2.1, r1.2.2)] : List (List Int × Int × List Int))) * 56 ≤ 140737488355328 then (i_copyDesk_l1 y0 y1 (IntKind.i64.wrap (y2 + 1)) y3 y4 y5 y6 (y7 ++ ([(r1.1, r1.2.1, r1.2.2)] : List (List Int × Int × List Int)))) else none)) else none) (some (y5, y4, y6, y7))) := by
  refine (loopK_eq Tryz.prog (i_copyDesk_E) (sub (Tryz.f46.body.getD .skip) [1, 1, 0, 1, 0, 0]) _ _).trans ?_
  kernel_rfl
theorem i_copyDesk_ent : Entb Tryz.prog 46 := ⟨Tryz.f46, by kernel_rfl, by kernel_rfl, by kernel_rfl⟩
theorem i_copyDesk_ok : CtrOk Tryz.prog 46 ⟨i_copyDesk_sig, i_copyDesk_f⟩ :=
  ctr_of (fn := Tryz.f46) (by kernel_rfl) (by kernel_rfl) (fun x : Ts i_copyDesk_sig.pc => i_copyDesk_E) (fun x => ⟨(fn_cons ⟨i_copyPlace_ok, i_copyPlace_ent⟩ fn_none), clo_none, wr_none⟩) (fun h => by cases h) follows_ (fun _ _ => trivial)
end FN
/-! slices.Clip of the first places of a row of its own. -/
namespace FN
open Go Go.Proofs Go.RowKit
set_option maxRecDepth 100000 in
theorem clipC (W : World) (A : Option Addr) (n c : Nat) (h : n ≤ c) : Calls Tryz.prog 61 #[.slice A n c] W fun e W' => (∃ c', e = .returned (.slice A n c') ∧ n ≤ c' ∧ c' ≤ c) ∧ W' = W := by
  go_enter Tryz.func61, Tryz.ntmps61
  go_wp2
  go_ret
  exact ⟨⟨n, rfl, Nat.le_refl _, h⟩, rfl⟩
theorem x_impl_Place_mk : MkOk Tryz.prog 61 .clip := by
  intro ps h h' p pin base w ρ us hk hI hH hus
  refine ⟨⟨Tryz.f61, by kernel_rfl, by kernel_rfl, by kernel_rfl⟩, ?_⟩
  unfold markK at hk
  split at hk
  case h_5 id n hm =>
    injection hk with hk
    injection hk with h1 h2
    subst h1; subst h2
    have one : ∃ u, us = [u] ∧ V (vw w base ρ h) (.pre id n) u := by
      cases hus with
      | cons h1 h2 => cases h2; exact ⟨_, rfl, h1⟩
    obtain ⟨u, rfl, hu⟩ := one
    obtain ⟨hid, A, m, cp, cp', a1, a2, a3, a4, a5⟩ := (show id < (vw w base ρ h).N ∧ ∃ A m cp cp', (vw w base ρ h).ρ id = .slice A m cp ∧ u = .slice A n cp' ∧ n ≤ m ∧ n ≤ cp' ∧ cp' ≤ cp from hu)
    subst a2
    refine (clipC w A n cp' a4).mono ?_
    rintro e w' ⟨⟨c', rfl, b1, b2⟩, rfl⟩
    exact ⟨_, rfl, ρ, hH, Vw.Le.refl _, ⟨hid, A, m, cp, c', a1, rfl, a3, b1, Nat.le_trans b2 a5⟩, Kp.refl _ _ _⟩
  all_goals first | (rename_i hm _; cases hm; done) | (rename_i hm; cases hm; done) | (cases hk; done) | contradiction
end FN
set_option linter.unusedVariables false
namespace FN
open Go Go.Proofs
/-! loop.example/firingnets/impl.DeskDo -/
@[reducible] def i_DeskDo_sig : Sig := { ps := [some 4, some 3], pc := [.view .i64, .int .i64, .view .i64, .view .place, .int .i64, .int .i64, .int .i64], rs := [some 4, none], rc := [.row 3 .i64, .int .i64, .row 3 .i64, .drow false 27 3, .bool] }
noncomputable def i_DeskDo_E : Env' := withWr { fn := fun f => if f = 43 then some ⟨i_PlaceText_sig, i_PlaceText_f⟩ else if f = 46 then some ⟨i_copyDesk_sig, i_copyDesk_f⟩ else if f = 51 then some ⟨i_PlaceOk_sig, i_PlaceOk_f⟩ else if f = 58 then some ⟨i_copyPlace_sig, i_copyPlace_f⟩ else if f = 59 then some ⟨i_DeskOk_sig, i_DeskOk_f⟩ else if f = 60 then some ⟨i_needStep_sig, i_needStep_f⟩ else none, ck := ckT, cuts := [(5, [2, 3, 4, 6, 7, 8]), (7, [2, 3, 4, 6, 7, 8]), (13, [2, 3, 4, 6, 7, 8]), (14, [2, 3, 4, 6, 7, 8]), (18, [2, 3, 4, 6, 7, 8]), (25, [4, 6, 7, 10]), (27, [4, 7, 10]), (28, [2, 4, 6, 7, 8])], mine := fun i => i == 12 || i == 16 || i == 18 || i == 153 || i == 176 || i == 180 || i == 181 || i == 186 || i == 192 || i == 195 || i == 203 || i == 204 || i == 213 || i == 216 } (fun f => if f = 61 then some (.clip) else none)
noncomputable def i_DeskDo_f (x : Ts i_DeskDo_sig.pc) : Option (Ts i_DeskDo_sig.rc) := runFn Tryz.prog (i_DeskDo_E) Tryz.f47 i_DeskDo_sig x
noncomputable def i_DeskDo_j0 (y0 : List (Int)) (y1 : Int) (y2 : List (Int)) (y3 : List (List Int × Int × List Int)) (y4 : Int) (y5 : Int) (y6 : Int) (y7 : Int) (y8 : Int) (y9 : Int) (y10 : List (Int)) (y11 : List (Int)) (y12 : List (List Int × Int × List Int)) (y13 : List (Int)) (y14 : List (Int)) (y15 : List (List Int × Int × List Int)) : Option ((List (Int)) × (Int) × (List (Int)) × (List (List Int × Int × List Int)) × (Bool)) := from_ Tryz.prog (i_DeskDo_E) Tryz.f47 i_DeskDo_sig [1, 1, 1, 1] ⟨mkT 217 [(2, .ptr 0 0), (3, .ptr 1 0), (4, .ptr 2 0), (6, .ptr 3 0), (7, .ptr 4 0), (8, .ptr 4 0)], [some (.box 30 [.row false .i64 y0, .int .i64 y1, .row false .i64 y2, .row false .place y3]), some (.box 57 [.int .i64 y4, .int .i64 y5, .int .i64 y6]), some (.box 30 [.nilS, .int .i64 y7, .nilS, .nilS]), some (.box 30 [.own 5, .int .i64 y8, .own 6, .own 7]), some (.box 30 [.own 8, .int .i64 y9, .own 9, .own 10]), some (.arr 3 true .i64 y10), some (.arr 3 true .i64 y11), some (.dp true 27 3 y12), some (.arr 3 true .i64 y13), some (.arr 3 true .i64 y14), some (.dp true 27 3 y15)]⟩
noncomputable def i_DeskDo_j1 (y0 : List (Int)) (y1 : Int) (y2 : List (Int)) (y3 : List (List Int × Int × List Int)) (y4 : Int) (y5 : Int) (y6 : Int) (y7 : Int) (y8 : Int) (y9 : Int) (y10 : List (Int)) (y11 : List (Int)) (y12 : List (List Int × Int × List Int)) (y13 : List (Int)) (y14 : List (Int)) (y15 : List (List Int × Int × List Int)) : Option ((List (Int)) × (Int) × (List (Int)) × (List (List Int × Int × List Int)) × (Bool)) := from_ Tryz.prog (i_DeskDo_E) Tryz.f47 i_DeskDo_sig [1, 1, 1, 1, 1] ⟨mkT 217 [(2, .ptr 0 0), (3, .ptr 1 0), (4, .ptr 2 0), (6, .ptr 3 0), (7, .ptr 4 0), (8, .ptr 4 0)], [some (.box 30 [.row false .i64 y0, .int .i64 y1, .row false .i64 y2, .row false .place y3]), some (.box 57 [.int .i64 y4, .int .i64 y5, .int .i64 y6]), some (.box 30 [.nilS, .int .i64 y7, .nilS, .nilS]), some (.box 30 [.own 5, .int .i64 y8, .own 6, .own 7]), some (.box 30 [.own 8, .int .i64 y9, .own 9, .own 10]), some (.arr 3 true .i64 y10), some (.arr 3 true .i64 y11), some (.dp true 27 3 y12), some (.arr 3 true .i64 y13), some (.arr 3 true .i64 y14), some (.dp true 27 3 y15)]⟩
noncomputable def i_DeskDo_j2 (y0 : List (Int)) (y1 : Int) (y2 : List (Int)) (y3 : List (List Int × Int × List Int)) (y4 : Int) (y5 : Int) (y6 : Int) (y7 : Int) (y8 : Int) (y9 : Int) (y10 : List (Int)) (y11 : List (Int)) (y12 : List (List Int × Int × List Int)) (y13 : List (Int)) (y14 : List (Int)) (y15 : List (List Int × Int × List Int)) : Option ((List (Int)) × (Int) × (List (Int)) × (List (List Int × Int × List Int)) × (Bool)) := from_ Tryz.prog (i_DeskDo_E) Tryz.f47 i_DeskDo_sig [1, 1, 1, 1, 1, 1, 0, 1, 0, 1, 0, 1] ⟨mkT 217 [(2, .ptr 0 0), (3, .ptr 1 0), (4, .ptr 2 0), (6, .ptr 3 0), (7, .ptr 4 0), (8, .ptr 4 0)], [some (.box 30 [.row false .i64 y0, .int .i64 y1, .row false .i64 y2, .row false .place y3]), some (.box 57 [.int .i64 y4, .int .i64 y5, .int .i64 y6]), some (.box 30 [.nilS, .int .i64 y7, .nilS, .nilS]), some (.box 30 [.own 5, .int .i64 y8, .own 6, .own 7]), some (.box 30 [.own 8, .int .i64 y9, .own 9, .own 10]), some (.arr 3 true .i64 y10), some (.arr 3 true .i64 y11), some (.dp true 27 3 y12), some (.arr 3 true .i64 y13), some (.arr 3 true .i64 y14), some (.dp true 27 3 y15)]⟩
noncomputable def i_DeskDo_j3 (y0 : List (Int)) (y1 : Int) (y2 : List (Int)) (y3 : List (List Int × Int × List Int)) (y4 : Int) (y5 : Int) (y6 : Int) (y7 : Int) (y8 : Int) (y9 : Int) (y10 : List (Int)) (y11 : List (Int)) (y12 : List (List Int × Int × List Int)) (y13 : List (Int)) (y14 : List (Int)) (y15 : List (List Int × Int × List Int)) : Option ((List (Int)) × (Int) × (List (Int)) × (List (List Int × Int × List Int)) × (Bool)) := from_ Tryz.prog (i_DeskDo_E) Tryz.f47 i_DeskDo_sig [1, 1, 1, 1, 1, 1, 0, 1, 0, 1, 1, 1, 0, 1] ⟨mkT 217 [(2, .ptr 0 0), (3, .ptr 1 0), (4, .ptr 2 0), (6, .ptr 3 0), (7, .ptr 4 0), (8, .ptr 4 0)], [some (.box 30 [.row false .i64 y0, .int .i64 y1, .row false .i64 y2, .row false .place y3]), some (.box 57 [.int .i64 y4, .int .i64 y5, .int .i64 y6]), some (.box 30 [.nilS, .int .i64 y7, .nilS, .nilS]), some (.box 30 [.own 5, .int .i64 y8, .own 6, .own 7]), some (.box 30 [.own 8, .int .i64 y9, .own 9, .own 10]), some (.arr 3 true .i64 y10), some (.arr 3 true .i64 y11), some (.dp true 27 3 y12), some (.arr 3 true .i64 y13), some (.arr 3 true .i64 y14), some (.dp true 27 3 y15)]⟩
noncomputable def i_DeskDo_j4 (y0 : List (Int)) (y1 : Int) (y2 : List (Int)) (y3 : List (List Int × Int × List Int)) (y4 : Int) (y5 : Int) (y6 : Int) (y7 : List (Int)) (y8 : List (Int)) (y9 : List (List Int × Int × List Int)) (y10 : List (Int)) (y11 : List (Int)) (y12 : List (List Int × Int × List Int)) : Option ((List (Int)) × (Int) × (List (Int)) × (List (List Int × Int × List Int)) × (Bool)) := from_ Tryz.prog (i_DeskDo_E) Tryz.f47 i_DeskDo_sig [1, 1, 1, 1, 1, 1, 1] ⟨mkT 217 [(2, .ptr 0 0), (4, .ptr 1 0), (6, .ptr 2 0), (7, .ptr 3 0), (8, .ptr 3 0)], [some (.box 30 [.row false .i64 y0, .int .i64 y1, .row false .i64 y2, .row false .place y3]), some (.box 30 [.nilS, .int .i64 y4, .nilS, .nilS]), some (.box 30 [.own 4, .int .i64 y5, .own 5, .own 6]), some (.box 30 [.own 7, .int .i64 y6, .own 8, .own 9]), some (.arr 3 true .i64 y7), some (.arr 3 true .i64 y8), some (.dp true 27 3 y9), some (.arr 3 true .i64 y10), some (.arr 3 true .i64 y11), some (.dp true 27 3 y12)]⟩
noncomputable def i_DeskDo_j5 (y0 : Int) (y1 : Int) (y2 : Int) (y3 : Int) (y4 : List (Int)) (y5 : List (Int)) (y6 : List (List Int × Int × List Int)) (y7 : List (Int)) (y8 : List (Int)) (y9 : List (List Int × Int × List Int)) : Option ((List (Int)) × (Int) × (List (Int)) × (List (List Int × Int × List Int)) × (Bool)) := from_ Tryz.prog (i_DeskDo_E) Tryz.f47 i_DeskDo_sig [1, 1, 1, 1, 1, 1, 0, 1, 0, 1, 1, 1, 1, 1, 1, 1, 1, 1, 0, 1] ⟨mkT 217 [(4, .ptr 0 0), (6, .ptr 1 0), (7, .ptr 2 0), (10, .int .i64 y0)], [some (.box 30 [.nilS, .int .i64 y1, .nilS, .nilS]), some (.box 30 [.own 3, .int .i64 y2, .own 4, .own 5]), some (.box 30 [.own 6, .int .i64 y3, .own 7, .own 8]), some (.arr 3 true .i64 y4), some (.arr 3 true .i64 y5), some (.dp true 27 3 y6), some (.arr 3 true .i64 y7), some (.arr 3 true .i64 y8), some (.dp true 27 3 y9)]⟩
noncomputable def i_DeskDo_j6 (y0 : List (Int)) (y1 : Int) (y2 : List (Int)) (y3 : List (List Int × Int × List Int)) (y4 : Int) (y5 : Int) (y6 : Int) (y7 : Int) (y8 : Int) (y9 : Int) (y10 : List (Int)) (y11 : List (Int)) (y12 : List (List Int × Int × List Int)) (y13 : List (Int)) (y14 : List (Int)) (y15 : List (List Int × Int × List Int)) : Option ((List (Int)) × (Int) × (List (Int)) × (List (List Int × Int × List Int)) × (Bool)) := from_ Tryz.prog (i_DeskDo_E) Tryz.f47 i_DeskDo_sig [1, 1, 1, 1, 1, 1, 0, 1, 0, 1, 0, 1, 1] ⟨mkT 217 [(2, .ptr 0 0), (3, .ptr 1 0), (4, .ptr 2 0), (6, .ptr 3 0), (7, .ptr 4 0), (8, .ptr 4 0)], [some (.box 30 [.row false .i64 y0, .int .i64 y1, .row false .i64 y2, .row false .place y3]), some (.box 57 [.int .i64 y4, .int .i64 y5, .int .i64 y6]), some (.box 30 [.nilS, .int .i64 y7, .nilS, .nilS]), some (.box 30 [.own 5, .int .i64 y8, .own 6, .own 7]), some (.box 30 [.own 8, .int .i64 y9, .own 9, .own 10]), some (.arr 3 true .i64 y10), some (.arr 3 true .i64 y11), some (.dp true 27 3 y12), some (.arr 3 true .i64 y13), some (.arr 3 true .i64 y14), some (.dp true 27 3 y15)]⟩
noncomputable def i_DeskDo_j7 (y0 : Int) (y1 : Int) (y2 : Int) (y3 : List (Int)) (y4 : List (Int)) (y5 : List (List Int × Int × List Int)) : Option ((List (Int)) × (Int) × (List (Int)) × (List (List Int × Int × List Int)) × (Bool)) := from_ Tryz.prog (i_DeskDo_E) Tryz.f47 i_DeskDo_sig [1, 1, 1, 1, 1, 1, 0, 1, 0, 1, 1, 1, 1, 1, 1, 1, 1, 1, 0, 1, 1] ⟨mkT 217 [(4, .ptr 0 0), (7, .ptr 1 0), (10, .int .i64 y0)], [some (.box 30 [.nilS, .int .i64 y1, .nilS, .nilS]), some (.box 30 [.own 2, .int .i64 y2, .own 3, .own 4]), some (.arr 3 true .i64 y3), some (.arr 3 true .i64 y4), some (.dp true 27 3 y5)]⟩
theorem i_DeskDo_f_eq (x0 : (List (Int))) (x1 : (Int)) (x2 : (List (Int))) (x3 : (List (List Int × Int × List Int))) (x4 : (Int)) (x5 : (Int)) (x6 : (Int)) : i_DeskDo_f (x0, x1, x2, x3, x4, x5, x6) = (Option.bind (i_DeskOk_f (x0, x1, x2, x3)) fun r1 => (cond ((!r1)) (some ([], 0, [], [], false)) (Option.bind (i_copyDesk_f (x0, x1, x2, x3)) fun r2 => (Option.bind (i_copyDesk_f (x0, x1, x2, x3)) fun r3 => (i_DeskDo_j0 x0 x1 x2 x3 x4 x5 x6 0 r2.2.1 r3.2.1 r2.1 r2.2.2.1 r2.2.2.2 r3.1 r3.2.2.1 r3.2.2.2))))) := by
  refine Eq.trans (b := (Option.bind (i_DeskOk_f (x0, x1, x2, x3)) fun r1 => (cond ((!r1)) (some ([], 0, [], [], false)) (same [(Option.bind (i_copyDesk_f (x0, x1, x2, x3)) fun r2 => (same [(Option.bind (i_copyDesk_f (x0, x1, x2, x3)) fun r3 => (same [(i_DeskDo_j0 x0 x1 x2 x3 x4 x5 x6 0 r2.2.1 r3.2.1 r2.1 r2.2.2.1 r2.2.2.2 r3.1 r3.2.2.1 r3.2.2.2), (i_DeskDo_j0 x0 x1 x2 x3 x4 x5 x6 0 r2.2.1 r3.2.1 r2.1 r2.2.2.1 r2.2.2.2 r3.1 r3.2.2.1 r3.2.2.2)])), (same [(Option.bind (i_copyDesk_f (x0, x1, x2, x3)) fun r3 => (i_DeskDo_j0 x0 x1 x2 x3 x4 x5 x6 0 r2.2.1 r3.2.1 r2.1 r2.2.2.1 r2.2.2.2 r3.1 r3.2.2.1 r3.2.2.2)), (Option.bind (i_copyDesk_f (x0, x1, x2, x3)) fun r3 => (i_DeskDo_j0 x0 x1 x2 x3 x4 x5 x6 0 r2.2.1 r3.2.1 r2.1 r2.2.2.1 r2.2.2.2 r3.1 r3.2.2.1 r3.2.2.2))]), (same [(Option.bind (i_copyDesk_f (x0, x1, x2, x3)) fun r3 => (i_DeskDo_j0 x0 x1 x2 x3 x4 x5 x6 0 r2.2.1 r3.2.1 r2.1 r2.2.2.1 r2.2.2.2 r3.1 r3.2.2.1 r3.2.2.2)), (Option.bind (i_copyDesk_f (x0, x1, x2, x3)) fun r3 => (i_DeskDo_j0 x0 x1 x2 x3 x4 x5 x6 0 r2.2.1 r3.2.1 r2.1 r2.2.2.1 r2.2.2.2 r3.1 r3.2.2.1 r3.2.2.2))])])), (same [(Option.bind (i_copyDesk_f (x0, x1, x2, x3)) fun r2 => (same [(Option.bind (i_copyDesk_f (x0, x1, x2, x3)) fun r3 => (i_DeskDo_j0 x0 x1 x2 x3 x4 x5 x6 0 r2.2.1 r3.2.1 r2.1 r2.2.2.1 r2.2.2.2 r3.1 r3.2.2.1 r3.2.2.2)), (Option.bind (i_copyDesk_f (x0, x1, x2, x3)) fun r3 => (i_DeskDo_j0 x0 x1 x2 x3 x4 x5 x6 0 r2.2.1 r3.2.1 r2.1 r2.2.2.1 r2.2.2.2 r3.1 r3.2.2.1 r3.2.2.2))])), (Option.bind (i_copyDesk_f (x0, x1, x2, x3)) fun r2 => (Option.bind (i_copyDesk_f (x0, x1, x2, x3)) fun r3 => (i_DeskDo_j0 x0 x1 x2 x3 x4 x5 x6 0 r2.2.1 r3.2.1 r2.1 r2.2.2.1 r2.2.2.2 r3.1 r3.2.2.1 r3.2.2.2)))]), (same [(Option.bind (i_copyDesk_f (x0, x1, x2, x3)) fun r2 => (same [(Option.bind (i_copyDesk_f (x0, x1, x2, x3)) fun r3 => (i_DeskDo_j0 x0 x1 x2 x3 x4 x5 x6 0 r2.2.1 r3.2.1 r2.1 r2.2.2.1 r2.2.2.2 r3.1 r3.2.2.1 r3.2.2.2)), (Option.bind (i_copyDesk_f (x0, x1, x2, x3)) fun r3 => (i_DeskDo_j0 x0 x1 x2 x3 x4 x5 x6 0 r2.2.1 r3.2.1 r2.1 r2.2.2.1 r2.2.2.2 r3.1 r3.2.2.1 r3.2.2.2))])), (Option.bind (i_copyDesk_f (x0, x1, x2, x3)) fun r2 => (Option.bind (i_copyDesk_f (x0, x1, x2, x3)) fun r3 => (i_DeskDo_j0 x0 x1 x2 x3 x4 x5 x6 0 r2.2.1 r3.2.1 r2.1 r2.2.2.1 r2.2.2.2 r3.1 r3.2.2.1 r3.2.2.2)))])])))) (by kernel_rfl) ?_
  simp only [same2, same3, same4, same5, same6, obind_ite]
theorem i_DeskDo_j0_eq (y0 : List (Int)) (y1 : Int) (y2 : List (Int)) (y3 : List (List Int × Int × List Int)) (y4 : Int) (y5 : Int) (y6 : Int) (y7 : Int) (y8 : Int) (y9 : Int) (y10 : List (Int)) (y11 : List (Int)) (y12 : List (List Int × Int × List Int)) (y13 : List (Int)) (y14 : List (Int)) (y15 : List (List Int × Int × List Int)) : i_DeskDo_j0 y0 y1 y2 y3 y4 y5 y6 y7 y8 y9 y10 y11 y12 y13 y14 y15 = (cond ((y4 != 0)) (cond ((y6 != 0)) (some (y10, y8, y11, y12, false)) (cond ((y4 == 2)) (cond ((y5 != 0)) (some (y10, y8, y11, y12, false)) (i_DeskDo_j1 y0 y1 y2 y3 y4 y5 y6 y7 y8 y9 y10 y11 y12 y13 y14 y15)) (cond ((y4 == 4)) (cond ((y5 != 0)) (some (y10, y8, y11, y12, false)) (i_DeskDo_j1 y0 y1 y2 y3 y4 y5 y6 y7 y8 y9 y10 y11 y12 y13 y14 y15)) (i_DeskDo_j1 y0 y1 y2 y3 y4 y5 y6 y7 y8 y9 y10 y11 y12 y13 y14 y15)))) (cond ((y4 == 2)) (cond ((y5 != 0)) (some (y10, y8, y11, y12, false)) (i_DeskDo_j1 y0 y1 y2 y3 y4 y5 y6 y7 y8 y9 y10 y11 y12 y13 y14 y15)) (cond ((y4 == 4)) (cond ((y5 != 0)) (some (y10, y8, y11, y12, false)) (i_DeskDo_j1 y0 y1 y2 y3 y4 y5 y6 y7 y8 y9 y10 y11 y12 y13 y14 y15)) (i_DeskDo_j1 y0 y1 y2 y3 y4 y5 y6 y7 y8 y9 y10 y11 y12 y13 y14 y15)))) := by
  kernel_rfl
theorem i_DeskDo_j1_eq (y0 : List (Int)) (y1 : Int) (y2 : List (Int)) (y3 : List (List Int × Int × List Int)) (y4 : Int) (y5 : Int) (y6 : Int) (y7 : Int) (y8 : Int) (y9 : Int) (y10 : List (Int)) (y11 : List (Int)) (y12 : List (List Int × Int × List Int)) (y13 : List (Int)) (y14 : List (Int)) (y15 : List (List Int × Int × List Int)) : i_DeskDo_j1 y0 y1 y2 y3 y4 y5 y6 y7 y8 y9 y10 y11 y12 y13 y14 y15 = (cond ((y4 == 0)) (cond ((decide (y5 < 0))) (some (y10, y8, y11, y12, false)) (cond ((decide ((List.length y13 : Int) ≤ y5))) (some (y10, y8, y11, y12, false)) (cond ((decide (y6 < 0))) (some (y10, y8, y11, y12, false)) (cond ((decide ((List.length y13 : Int) ≤ y6))) (some (y10, y8, y11, y12, false)) (cond ((y5 == y6)) (some (y10, y8, y11, y12, false)) (i_DeskDo_j2 y0 y1 y2 y3 y4 y5 y6 y7 y8 y9 y10 y11 y12 y13 y14 y15)))))) (cond ((y4 == 1)) (cond ((decide (y5 < 0))) (some (y10, y8, y11, y12, false)) (cond ((decide ((List.length y13 : Int) ≤ y5))) (some (y10, y8, y11, y12, false)) (if (0 : Int) ≤ y5 ∧ y5 < (List.length y14 : Int) then (cond (((List.getD y14 (y5 : Int).toNat 0) != 0)) (some (y10, y8, y11, y12, false)) (i_DeskDo_j3 y0 y1 y2 y3 y4 y5 y6 y7 y8 y9 y10 y11 y12 y13 y14 y15)) else none))) (cond ((y4 == 2)) (Option.bind (i_needStep_f (y13, y9, (), y14)) fun r1 => (i_DeskDo_j4 y0 y1 y2 y3 y7 y8 y9 y10 y11 y12 y13 r1 y15)) (cond ((y4 == 3)) (i_DeskDo_j4 y0 y1 y2 y3 y7 y8 y5 y10 y11 y12 y13 y14 y15) (cond ((y4 == 4)) (i_DeskDo_j5 (IntKind.i64.wrap ((List.length y15 : Int) - 1)) y7 y8 y9 y10 y11 y12 y13 y14 y15) (some (y10, y8, y11, y12, false))))))) := by
  kernel_rfl
theorem i_DeskDo_j2_eq (y0 : List (Int)) (y1 : Int) (y2 : List (Int)) (y3 : List (List Int × Int × List Int)) (y4 : Int) (y5 : Int) (y6 : Int) (y7 : Int) (y8 : Int) (y9 : Int) (y10 : List (Int)) (y11 : List (Int)) (y12 : List (List Int × Int × List Int)) (y13 : List (Int)) (y14 : List (Int)) (y15 : List (List Int × Int × List Int)) : i_DeskDo_j2 y0 y1 y2 y3 y4 y5 y6 y7 y8 y9 y10 y11 y12 y13 y14 y15 = (if (0 : Int) ≤ y5 ∧ y5 < (List.length y13 : Int) then (if y6 < 0 then none else (if (0 : Int) ≤ y5 ∧ y5 < (List.length y13 : Int) then (i_DeskDo_j6 y0 y1 y2 y3 y4 y5 y6 y7 y8 y9 y10 y11 y12 (List.set y13 (y5 : Int).toNat (Go.bits .xor IntKind.i64 (List.getD y13 (y5 : Int).toNat 0) (IntKind.i64.wrap (1 * 2 ^ min (y6 : Int).toNat IntKind.i64.bits)))) y14 y15) else none)) else none) := by
  kernel_rfl
theorem i_DeskDo_j3_eq (y0 : List (Int)) (y1 : Int) (y2 : List (Int)) (y3 : List (List Int × Int × List Int)) (y4 : Int) (y5 : Int) (y6 : Int) (y7 : Int) (y8 : Int) (y9 : Int) (y10 : List (Int)) (y11 : List (Int)) (y12 : List (List Int × Int × List Int)) (y13 : List (Int)) (y14 : List (Int)) (y15 : List (List Int × Int × List Int)) : i_DeskDo_j3 y0 y1 y2 y3 y4 y5 y6 y7 y8 y9 y10 y11 y12 y13 y14 y15 = (if (0 : Int) ≤ y5 ∧ y5 < (List.length y14 : Int) then (i_DeskDo_j4 y0 y1 y2 y3 y7 y8 y9 y10 y11 y12 y13 (List.set y14 (y5 : Int).toNat 1) y15) else none) := by
  kernel_rfl
theorem i_DeskDo_j4_eq (y0 : List (Int)) (y1 : Int) (y2 : List (Int)) (y3 : List (List Int × Int × List Int)) (y4 : Int) (y5 : Int) (y6 : Int) (y7 : List (Int)) (y8 : List (Int)) (y9 : List (List Int × Int × List Int)) (y10 : List (Int)) (y11 : List (Int)) (y12 : List (List Int × Int × List Int)) : i_DeskDo_j4 y0 y1 y2 y3 y4 y5 y6 y7 y8 y9 y10 y11 y12 = (Option.bind (i_PlaceOk_f (y10, y6, y11)) fun r1 => (cond ((!r1)) (some (y7, y5, y8, y9, false)) (Option.bind (i_PlaceText_f (y10, y6, y11)) fun r2 => (Option.bind (i_PlaceText_f (y0, y1, y2)) fun r3 => (cond ((ByteArray.toList r2 == ByteArray.toList r3)) (some (y7, y5, y8, y9, false)) (Option.bind (i_copyPlace_f (y0, y1, y2)) fun r4 => (if (List.length y12 + List.length ([(r4.1, r4.2.1, r4.2.2)] : List (List Int × Int × List Int))) * 56 ≤ 140737488355328 then (cond ((decide (8 < (List.length (y12 ++ ([(r4.1, r4.2.1, r4.2.2)] : List (List Int × Int × List Int))) : Int)))) (if (0 : Int) ≤ 1 ∧ 1 ≤ (List.length (y12 ++ ([(r4.1, r4.2.1, r4.2.2)] : List (List Int × Int × List Int))) : Int) then (Option.bind (i_copyDesk_f (y10, y6, y11, (List.drop (1 : Int).toNat (List.take ((List.length (y12 ++ ([(r4.1, r4.2.1, r4.2.2)] : List (List Int × Int × List Int))))) (y12 ++ ([(r4.1, r4.2.1, r4.2.2)] : List (List Int × Int × List Int))))))) fun r5 => (some (r5.1, r5.2.1, r5.2.2.1, r5.2.2.2, true))) else none) (Option.bind (i_copyDesk_f (y10, y6, y11, (y12 ++ ([(r4.1, r4.2.1, r4.2.2)] : List (List Int × Int × List Int))))) fun r6 => (some (r6.1, r6.2.1, r6.2.2.1, r6.2.2.2, true)))) else none))))))) := by
  kernel_rfl
theorem i_DeskDo_j5_eq (y0 : Int) (y1 : Int) (y2 : Int) (y3 : Int) (y4 : List (Int)) (y5 : List (Int)) (y6 : List (List Int × Int × List Int)) (y7 : List (Int)) (y8 : List (Int)) (y9 : List (List Int × Int × List Int)) : i_DeskDo_j5 y0 y1 y2 y3 y4 y5 y6 y7 y8 y9 = (cond ((decide (y0 < 0))) (some (y4, y2, y5, y6, false)) (i_DeskDo_j7 y0 y1 y3 y7 y8 y9)) := by
  kernel_rfl
theorem i_DeskDo_j6_eq (y0 : List (Int)) (y1 : Int) (y2 : List (Int)) (y3 : List (List Int × Int × List Int)) (y4 : Int) (y5 : Int) (y6 : Int) (y7 : Int) (y8 : Int) (y9 : Int) (y10 : List (Int)) (y11 : List (Int)) (y12 : List (List Int × Int × List Int)) (y13 : List (Int)) (y14 : List (Int)) (y15 : List (List Int × Int × List Int)) : i_DeskDo_j6 y0 y1 y2 y3 y4 y5 y6 y7 y8 y9 y10 y11 y12 y13 y14 y15 = (if (0 : Int) ≤ y6 ∧ y6 < (List.length y13 : Int) then (if y5 < 0 then none else (if (0 : Int) ≤ y6 ∧ y6 < (List.length y13 : Int) then (i_DeskDo_j4 y0 y1 y2 y3 y7 y8 y9 y10 y11 y12 (List.set y13 (y6 : Int).toNat (Go.bits .xor IntKind.i64 (List.getD y13 (y6 : Int).toNat 0) (IntKind.i64.wrap (1 * 2 ^ min (y5 : Int).toNat IntKind.i64.bits)))) y14 y15) else none)) else none) := by
  kernel_rfl
theorem i_DeskDo_j7_eq (y0 : Int) (y1 : Int) (y2 : Int) (y3 : List (Int)) (y4 : List (Int)) (y5 : List (List Int × Int × List Int)) : i_DeskDo_j7 y0 y1 y2 y3 y4 y5 = (if (0 : Int) ≤ y0 ∧ y0 ≤ (List.length y5 : Int) then (if (0 : Int) ≤ y0 ∧ y0 < (List.length y5 : Int) then (if (y0 : Int).toNat < List.length y5 then (Option.bind (Option.bind (Option.bind (Option.bind (if (y0 : Int).toNat ≤ List.length (List.take (y0 : Int).toNat y5) then (some (List.take (y0 : Int).toNat (List.take (y0 : Int).toNat y5))) else none) fun q => (some (q, true))) fun q => (some ((List.getD y5 (y0 : Int).toNat ([], 0, [])).2.2, q))) fun q => (some ((List.getD y5 (y0 : Int).toNat ([], 0, [])).2.1, q))) fun q => (some ((List.getD y5 (y0 : Int).toNat ([], 0, [])).1, q))) else none) else none) else none) := by
  refine Eq.trans (b := (same [(same [(if (0 : Int) ≤ y0 ∧ y0 < (List.length y5 : Int) then (same [(if (y0 : Int).toNat < List.length y5 then (if (0 : Int) ≤ y0 ∧ y0 ≤ (List.length (List.take (y0 : Int).toNat y5) : Int) then (Option.bind (Option.bind (Option.bind (Option.bind (if (y0 : Int).toNat ≤ List.length (List.take (y0 : Int).toNat y5) then (some (List.take (y0 : Int).toNat (List.take (y0 : Int).toNat y5))) else none) fun q => (some (q, true))) fun q => (some ((List.getD y5 (y0 : Int).toNat ([], 0, [])).2.2, q))) fun q => (some ((List.getD y5 (y0 : Int).toNat ([], 0, [])).2.1, q))) fun q => (some ((List.getD y5 (y0 : Int).toNat ([], 0, [])).1, q))) else none) else none), (if (0 : Int) ≤ y0 ∧ y0 ≤ (List.length y5 : Int) then (same [(if (y0 : Int).toNat < List.length y5 then (Option.bind (Option.bind (Option.bind (Option.bind (if (y0 : Int).toNat ≤ List.length (List.take (y0 : Int).toNat y5) then (some (List.take (y0 : Int).toNat (List.take (y0 : Int).toNat y5))) else none) fun q => (some (q, true))) fun q => (some ((List.getD y5 (y0 : Int).toNat ([], 0, [])).2.2, q))) fun q => (some ((List.getD y5 (y0 : Int).toNat ([], 0, [])).2.1, q))) fun q => (some ((List.getD y5 (y0 : Int).toNat ([], 0, [])).1, q))) else none), (if (y0 : Int).toNat < List.length y5 then (Option.bind (Option.bind (Option.bind (Option.bind (if (y0 : Int).toNat ≤ List.length (List.take (y0 : Int).toNat y5) then (some (List.take (y0 : Int).toNat (List.take (y0 : Int).toNat y5))) else none) fun q => (some (q, true))) fun q => (some ((List.getD y5 (y0 : Int).toNat ([], 0, [])).2.2, q))) fun q => (some ((List.getD y5 (y0 : Int).toNat ([], 0, [])).2.1, q))) fun q => (some ((List.getD y5 (y0 : Int).toNat ([], 0, [])).1, q))) else none)]) else none)]) else none), (if (0 : Int) ≤ y0 ∧ y0 ≤ (List.length y5 : Int) then (same [(if (0 : Int) ≤ y0 ∧ y0 < (List.length y5 : Int) then (same [(if (y0 : Int).toNat < List.length y5 then (Option.bind (Option.bind (Option.bind (Option.bind (if (y0 : Int).toNat ≤ List.length (List.take (y0 : Int).toNat y5) then (some (List.take (y0 : Int).toNat (List.take (y0 : Int).toNat y5))) else none) fun q => (some (q, true))) fun q => (some ((List.getD y5 (y0 : Int).toNat ([], 0, [])).2.2, q))) fun q => (some ((List.getD y5 (y0 : Int).toNat ([], 0, [])).2.1, q))) fun q => (some ((List.getD y5 (y0 : Int).toNat ([], 0, [])).1, q))) else none), (if (y0 : Int).toNat < List.length y5 then (Option.bind (Option.bind (Option.bind (Option.bind (if (y0 : Int).toNat ≤ List.length (List.take (y0 : Int).toNat y5) then (some (List.take (y0 : Int).toNat (List.take (y0 : Int).toNat y5))) else none) fun q => (some (q, true))) fun q => (some ((List.getD y5 (y0 : Int).toNat ([], 0, [])).2.2, q))) fun q => (some ((List.getD y5 (y0 : Int).toNat ([], 0, [])).2.1, q))) fun q => (some ((List.getD y5 (y0 : Int).toNat ([], 0, [])).1, q))) else none)]) else none), (if (0 : Int) ≤ y0 ∧ y0 < (List.length y5 : Int) then (if (y0 : Int).toNat < List.length y5 then (Option.bind (Option.bind (Option.bind (Option.bind (if (y0 : Int).toNat ≤ List.length (List.take (y0 : Int).toNat y5) then (some (List.take (y0 : Int).toNat (List.take (y0 : Int).toNat y5))) else none) fun q => (some (q, true))) fun q => (some ((List.getD y5 (y0 : Int).toNat ([], 0, [])).2.2, q))) fun q => (some ((List.getD y5 (y0 : Int).toNat ([], 0, [])).2.1, q))) fun q => (some ((List.getD y5 (y0 : Int).toNat ([], 0, [])).1, q))) else none) else none)]) else none)]), (if (0 : Int) ≤ y0 ∧ y0 ≤ (List.length y5 : Int) then (same [(same [(if (0 : Int) ≤ y0 ∧ y0 < (List.length y5 : Int) then (same [(if (y0 : Int).toNat < List.length y5 then (Option.bind (Option.bind (Option.bind (Option.bind (if (y0 : Int).toNat ≤ List.length (List.take (y0 : Int).toNat y5) then (some (List.take (y0 : Int).toNat (List.take (y0 : Int).toNat y5))) else none) fun q => (some (q, true))) fun q => (some ((List.getD y5 (y0 : Int).toNat ([], 0, [])).2.2, q))) fun q => (some ((List.getD y5 (y0 : Int).toNat ([], 0, [])).2.1, q))) fun q => (some ((List.getD y5 (y0 : Int).toNat ([], 0, [])).1, q))) else none), (if (y0 : Int).toNat < List.length y5 then (Option.bind (Option.bind (Option.bind (Option.bind (if (y0 : Int).toNat ≤ List.length (List.take (y0 : Int).toNat y5) then (some (List.take (y0 : Int).toNat (List.take (y0 : Int).toNat y5))) else none) fun q => (some (q, true))) fun q => (some ((List.getD y5 (y0 : Int).toNat ([], 0, [])).2.2, q))) fun q => (some ((List.getD y5 (y0 : Int).toNat ([], 0, [])).2.1, q))) fun q => (some ((List.getD y5 (y0 : Int).toNat ([], 0, [])).1, q))) else none)]) else none), (if (0 : Int) ≤ y0 ∧ y0 < (List.length y5 : Int) then (if (y0 : Int).toNat < List.length y5 then (Option.bind (Option.bind (Option.bind (Option.bind (if (y0 : Int).toNat ≤ List.length (List.take (y0 : Int).toNat y5) then (some (List.take (y0 : Int).toNat (List.take (y0 : Int).toNat y5))) else none) fun q => (some (q, true))) fun q => (some ((List.getD y5 (y0 : Int).toNat ([], 0, [])).2.2, q))) fun q => (some ((List.getD y5 (y0 : Int).toNat ([], 0, [])).2.1, q))) fun q => (some ((List.getD y5 (y0 : Int).toNat ([], 0, [])).1, q))) else none) else none)]), (if (0 : Int) ≤ y0 ∧ y0 < (List.length y5 : Int) then (if (y0 : Int).toNat < List.length y5 then (Option.bind (Option.bind (Option.bind (Option.bind (if (y0 : Int).toNat ≤ List.length (List.take (y0 : Int).toNat y5) then (some (List.take (y0 : Int).toNat (List.take (y0 : Int).toNat y5))) else none) fun q => (some (q, true))) fun q => (some ((List.getD y5 (y0 : Int).toNat ([], 0, [])).2.2, q))) fun q => (some ((List.getD y5 (y0 : Int).toNat ([], 0, [])).2.1, q))) fun q => (some ((List.getD y5 (y0 : Int).toNat ([], 0, [])).1, q))) else none) else none)]) else none)])) (by kernel_rfl) ?_
  by_cases h0 : (0 : Int) ≤ y0
  · by_cases h1 : y0 < (List.length y5 : Int)
    · have c1 : (0 : Int) ≤ y0 ∧ y0 < (List.length y5 : Int) := ⟨h0, h1⟩
      have c2 : (0 : Int) ≤ y0 ∧ y0 ≤ (List.length y5 : Int) := ⟨h0, by omega⟩
      have c3 : (y0 : Int).toNat < List.length y5 := by omega
      have c4 : (0 : Int) ≤ y0 ∧ y0 ≤ (List.length (List.take (y0 : Int).toNat y5) : Int) := ⟨h0, by rw [List.length_take]; omega⟩
      simp only [if_pos c1, if_pos c2, if_pos c3, if_pos c4, same2, same3, same4, same5, same6, ite_self]
    · have c1 : ¬ ((0 : Int) ≤ y0 ∧ y0 < (List.length y5 : Int)) := fun h => h1 h.2
      have c3 : ¬ ((y0 : Int).toNat < List.length y5) := by omega
      simp only [if_neg c1, if_neg c3, same2, same3, same4, same5, same6, ite_self]
  · have c1 : ¬ ((0 : Int) ≤ y0 ∧ y0 < (List.length y5 : Int)) := fun h => h0 h.1
    have c2 : ¬ ((0 : Int) ≤ y0 ∧ y0 ≤ (List.length y5 : Int)) := fun h => h0 h.1
    have c4 : ¬ ((0 : Int) ≤ y0 ∧ y0 ≤ (List.length (List.take (y0 : Int).toNat y5) : Int)) := fun h => h0 h.1
    simp only [if_neg c1, if_neg c2, if_neg c4, same2, same3, same4, same5, same6, ite_self]
theorem i_DeskDo_ent : Entb Tryz.prog 47 := ⟨Tryz.f47, by kernel_rfl, by kernel_rfl, by kernel_rfl⟩
theorem i_DeskDo_ok : CtrOk Tryz.prog 47 ⟨i_DeskDo_sig, i_DeskDo_f⟩ :=
  ctr_of (fn := Tryz.f47) (by kernel_rfl) (by kernel_rfl) (fun x : Ts i_DeskDo_sig.pc => i_DeskDo_E) (fun x => withWr_ok ⟨(fn_cons ⟨i_PlaceText_ok, i_PlaceText_ent⟩ (fn_cons ⟨i_copyDesk_ok, i_copyDesk_ent⟩ (fn_cons ⟨i_PlaceOk_ok, i_PlaceOk_ent⟩ (fn_cons ⟨i_copyPlace_ok, i_copyPlace_ent⟩ (fn_cons ⟨i_DeskOk_ok, i_DeskOk_ent⟩ (fn_cons ⟨i_needStep_ok, i_needStep_ent⟩ fn_none)))))), clo_none, wr_none⟩ (tab_cons x_impl_Place_mk (tab_none))) (fun h => by cases h) follows_ (fun _ _ => trivial)
end FN
set_option linter.unusedVariables false
namespace FN
open Go Go.Proofs
/-! loop.example/firingnets/impl.doAll -/
@[reducible] def i_doAll_sig : Sig := { ps := [some 4, none], pc := [.view .i64, .int .i64, .view .i64, .view .place, .view .deed], rs := [some 4, none], rc := [.row 3 .i64, .int .i64, .row 3 .i64, .drow false 27 3, .int .i64] }
noncomputable def i_doAll_E : Env' := { fn := fun f => if f = 46 then some ⟨i_copyDesk_sig, i_copyDesk_f⟩ else if f = 47 then some ⟨i_DeskDo_sig, i_DeskDo_f⟩ else none, ck := ckT, cuts := [(4, [2, 4, 6, 13, 14, 15])], mine := fun i => i == 12 || i == 22 }
noncomputable def i_doAll_f (x : Ts i_doAll_sig.pc) : Option (Ts i_doAll_sig.rc) := runFn Tryz.prog (i_doAll_E) Tryz.f32 i_doAll_sig x
noncomputable def i_doAll_l0 (y0 : Int) (y1 : List (Int × Int × Int)) (y2 : Int) (y3 : Int) (y4 : Int) (y5 : Int) (y6 : List (Int)) (y7 : List (Int)) (y8 : List (List Int × Int × List Int)) : Option ((List (Int)) × (Int) × (List (Int)) × (List (List Int × Int × List Int)) × (Int)) := from_ Tryz.prog (i_doAll_E) Tryz.f32 i_doAll_sig [1, 1, 1, 0, 1, 0] ⟨mkT 32 [(2, .ptr 0 0), (4, .ptr 1 0), (6, .int .i64 y0), (13, .row false .deed y1), (14, .int .i64 y2), (15, .int .i64 y3)], [some (.box 30 [.own 2, .int .i64 y4, .own 3, .own 4]), some (.box 30 [.nilS, .int .i64 y5, .nilS, .nilS]), some (.arr 3 true .i64 y6), some (.arr 3 true .i64 y7), some (.dp true 27 3 y8)]⟩
noncomputable def i_doAll_l1 (y0 : Int) (y1 : List (Int × Int × Int)) (y2 : Int) (y3 : Int) (y4 : Int) (y5 : Int) (y6 : List (Int)) (y7 : List (Int)) (y8 : List (List Int × Int × List Int)) : Option ((List (Int)) × (Int) × (List (Int)) × (List (List Int × Int × List Int)) × (Int)) := from_ Tryz.prog (i_doAll_E) Tryz.f32 i_doAll_sig [1, 1, 1, 0, 1, 0] ⟨mkT 32 [(2, .ptr 0 0), (4, .ptr 1 0), (6, .int .i64 y0), (13, .row false .deed y1), (14, .int .i64 y2), (15, .int .i64 y3)], [some (.box 30 [.own 2, .int .i64 y4, .own 3, .own 4]), some (.box 30 [.nilS, .int .i64 y5, .nilS, .nilS]), some (.arr 3 true .i64 y6), some (.arr 3 true .i64 y7), some (.dp false 27 3 y8)]⟩
theorem i_doAll_f_eq (x0 : (List (Int))) (x1 : (Int)) (x2 : (List (Int))) (x3 : (List (List Int × Int × List Int))) (x4 : (List (Int × Int × Int))) : i_doAll_f (x0, x1, x2, x3, x4) = (Option.bind (i_copyDesk_f (x0, x1, x2, x3)) fun r1 => (i_doAll_l0 0 x4 (List.length x4 : Int) 0 r1.2.1 0 r1.1 r1.2.2.1 r1.2.2.2)) := by
  kernel_rfl
theorem i_doAll_l0_eq (y0 : Int) (y1 : List (Int × Int × Int)) (y2 : Int) (y3 : Int) (y4 : Int) (y5 : Int) (y6 : List (Int)) (y7 : List (Int)) (y8 : List (List Int × Int × List Int)) : i_doAll_l0 y0 y1 y2 y3 y4 y5 y6 y7 y8 = (cond ((decide (y3 < y2))) (if (0 : Int) ≤ y3 ∧ y3 < (List.length y1 : Int) then (Option.bind (i_DeskDo_f (y6, y4, y7, y8, (List.getD y1 (y3 : Int).toNat (0, 0, 0)).1, (List.getD y1 (y3 : Int).toNat (0, 0, 0)).2.1, (List.getD y1 (y3 : Int).toNat (0, 0, 0)).2.2)) fun r1 => (cond (r1.2.2.2.2) (i_doAll_l1 (IntKind.i64.wrap (y0 + 1)) y1 y2 (IntKind.i64.wrap (y3 + 1)) r1.2.1 y5 r1.1 r1.2.2.1 r1.2.2.2.1) (i_doAll_l0 y0 y1 y2 (IntKind.i64.wrap (y3 + 1)) y4 y5 y6 y7 y8))) else none) (some (y6, y4, y7, y8, y0))) := by
  refine (loopK_eq Tryz.prog (i_doAll_E) (sub (Tryz.f32.body.getD .skip) [1, 1, 1, 0, 1, 0, 0]) _ _).trans ?_
  kernel_rfl
theorem i_doAll_l1_eq (y0 : Int) (y1 : List (Int × Int × Int)) (y2 : Int) (y3 : Int) (y4 : Int) (y5 : Int) (y6 : List (Int)) (y7 : List (Int)) (y8 : List (List Int × Int × List Int)) : i_doAll_l1 y0 y1 y2 y3 y4 y5 y6 y7 y8 = (cond ((decide (y3 < y2))) (if (0 : Int) ≤ y3 ∧ y3 < (List.length y1 : Int) then (Option.bind (i_DeskDo_f (y6, y4, y7, y8, (List.getD y1 (y3 : Int).toNat (0, 0, 0)).1, (List.getD y1 (y3 : Int).toNat (0, 0, 0)).2.1, (List.getD y1 (y3 : Int).toNat (0, 0, 0)).2.2)) fun r1 => (cond (r1.2.2.2.2) (i_doAll_l1 (IntKind.i64.wrap (y0 + 1)) y1 y2 (IntKind.i64.wrap (y3 + 1)) r1.2.1 y5 r1.1 r1.2.2.1 r1.2.2.2.1) (i_doAll_l1 y0 y1 y2 (IntKind.i64.wrap (y3 + 1)) y4 y5 y6 y7 y8))) else none) (some (y6, y4, y7, y8, y0))) := by
  refine (loopK_eq Tryz.prog (i_doAll_E) (sub (Tryz.f32.body.getD .skip) [1, 1, 1, 0, 1, 0, 0]) _ _).trans ?_
  kernel_rfl
theorem i_doAll_ent : Entb Tryz.prog 32 := ⟨Tryz.f32, by kernel_rfl, by kernel_rfl, by kernel_rfl⟩
theorem i_doAll_ok : CtrOk Tryz.prog 32 ⟨i_doAll_sig, i_doAll_f⟩ :=
  ctr_of (fn := Tryz.f32) (by kernel_rfl) (by kernel_rfl) (fun x : Ts i_doAll_sig.pc => i_doAll_E) (fun x => ⟨(fn_cons ⟨i_copyDesk_ok, i_copyDesk_ent⟩ (fn_cons ⟨i_DeskDo_ok, i_DeskDo_ent⟩ fn_none)), clo_none, wr_none⟩) (fun h => by cases h) follows_ (fun _ _ => trivial)
end FN
set_option linter.unusedVariables false
namespace FN
open Go Go.Proofs
/-! loop.example/firingnets/impl.StoreOk -/
@[reducible] def i_StoreOk_sig : Sig := { ps := [some 3], pc := [.str, .str, .int .i64], rs := [none], rc := [.bool] }
noncomputable def i_StoreOk_E : Env' := { fn := fun f => if f = 30 then some ⟨i_ReadPlace_sig, i_ReadPlace_f⟩ else none, ck := ckT, cuts := [], mine := fun i => false }
noncomputable def i_StoreOk_f (x : Ts i_StoreOk_sig.pc) : Option (Ts i_StoreOk_sig.rc) := runFn Tryz.prog (i_StoreOk_E) Tryz.f15 i_StoreOk_sig x
theorem i_StoreOk_f_eq (x0 : (ByteArray)) (x1 : (ByteArray)) (x2 : (Int)) : i_StoreOk_f (x0, x1, x2) = (Option.bind (i_ReadPlace_f x0) fun r1 => (cond (r1.2.2.2) (cond ((decide ((ByteArray.size x1 : Int) ≤ 1000))) (cond ((decide (0 ≤ x2))) (some (decide (x2 ≤ (ByteArray.size x1 : Int)))) (some false)) (some false)) (some false))) := by
  kernel_rfl
theorem i_StoreOk_ent : Entb Tryz.prog 15 := ⟨Tryz.f15, by kernel_rfl, by kernel_rfl, by kernel_rfl⟩
theorem i_StoreOk_ok : CtrOk Tryz.prog 15 ⟨i_StoreOk_sig, i_StoreOk_f⟩ :=
  ctr_of (fn := Tryz.f15) (by kernel_rfl) (by kernel_rfl) (fun x : Ts i_StoreOk_sig.pc => i_StoreOk_E) (fun x => ⟨(fn_cons ⟨i_ReadPlace_ok, i_ReadPlace_ent⟩ fn_none), clo_none, wr_none⟩) (fun h => by cases h) follows_ (fun _ _ => trivial)
end FN
set_option linter.unusedVariables false
namespace FN
open Go Go.Proofs
/-! loop.example/firingnets/spec.StoreOk -/
@[reducible] def s_StoreOk_sig : Sig := { ps := [some 3], pc := [.str, .str, .int .i64], rs := [none], rc := [.bool] }
noncomputable def s_StoreOk_E : Env' := { fn := fun f => if f = 12 then some ⟨s_ReadPlace_sig, s_ReadPlace_f⟩ else if f = 23 then some ⟨s_l1In_sig, s_l1In_f⟩ else none, ck := ckT, cuts := [], mine := fun i => false }
noncomputable def s_StoreOk_f (x : Ts s_StoreOk_sig.pc) : Option (Ts s_StoreOk_sig.rc) := runFn Tryz.prog (s_StoreOk_E) Tryz.f11 s_StoreOk_sig x
theorem s_StoreOk_f_eq (x0 : (ByteArray)) (x1 : (ByteArray)) (x2 : (Int)) : s_StoreOk_f (x0, x1, x2) = (Option.bind (s_ReadPlace_f x0) fun r1 => (cond (r1.2.2.2) (cond ((decide ((ByteArray.size x1 : Int) ≤ 1000))) (Option.bind (s_l1In_f (x2, 0, (ByteArray.size x1 : Int))) fun r2 => (some r2)) (some false)) (some false))) := by
  kernel_rfl
theorem s_StoreOk_ent : Entb Tryz.prog 11 := ⟨Tryz.f11, by kernel_rfl, by kernel_rfl, by kernel_rfl⟩
theorem s_StoreOk_ok : CtrOk Tryz.prog 11 ⟨s_StoreOk_sig, s_StoreOk_f⟩ :=
  ctr_of (fn := Tryz.f11) (by kernel_rfl) (by kernel_rfl) (fun x : Ts s_StoreOk_sig.pc => s_StoreOk_E) (fun x => ⟨(fn_cons ⟨s_ReadPlace_ok, s_ReadPlace_ent⟩ (fn_cons ⟨s_l1In_ok, s_l1In_ent⟩ fn_none)), clo_none, wr_none⟩) (fun h => by cases h) follows_ (fun _ _ => trivial)
end FN
set_option linter.unusedVariables false
namespace FN
open Go Go.Proofs
/-! loop.example/firingnets/laws.szStore -/
@[reducible] def w_szStore_sig : Sig := { ps := [some 3, none], pc := [.str, .str, .int .i64, .int .i64], rs := [none], rc := [.int .i64] }
noncomputable def w_szStore_E : Env' := { fn := fun f => none, ck := ckT, cuts := [], mine := fun i => false }
noncomputable def w_szStore_f (x : Ts w_szStore_sig.pc) : Option (Ts w_szStore_sig.rc) := runFn Tryz.prog (w_szStore_E) Tryz.f4 w_szStore_sig x
theorem w_szStore_f_eq (x0 : (ByteArray)) (x1 : (ByteArray)) (x2 : (Int)) (x3 : (Int)) : w_szStore_f (x0, x1, x2, x3) = (cond ((decide ((IntKind.i64.wrap (x3 - (ByteArray.size x0 : Int))) < 0))) (some (-1)) (cond ((decide ((IntKind.i64.wrap ((IntKind.i64.wrap (x3 - (ByteArray.size x0 : Int))) - (ByteArray.size x1 : Int))) < 0))) (some (-1)) (some (IntKind.i64.wrap ((IntKind.i64.wrap (x3 - (ByteArray.size x0 : Int))) - (ByteArray.size x1 : Int)))))) := by
  kernel_rfl
theorem w_szStore_ent : Entb Tryz.prog 4 := ⟨Tryz.f4, by kernel_rfl, by kernel_rfl, by kernel_rfl⟩
theorem w_szStore_ok : CtrOk Tryz.prog 4 ⟨w_szStore_sig, w_szStore_f⟩ :=
  ctr_of (fn := Tryz.f4) (by kernel_rfl) (by kernel_rfl) (fun x : Ts w_szStore_sig.pc => w_szStore_E) (fun x => ⟨fn_none, clo_none, wr_none⟩) (fun h => by cases h) follows_ (fun _ _ => trivial)
end FN
set_option linter.unusedVariables false
namespace FN
open Go Go.Proofs
/-! loop.example/firingnets/laws.toStore -/
@[reducible] def w_toStore_sig : Sig := { ps := [some 3], pc := [.str, .str, .int .i64], rs := [some 3], rc := [.str, .str, .int .i64] }
noncomputable def w_toStore_E : Env' := { fn := fun f => none, ck := ckT, cuts := [], mine := fun i => false }
noncomputable def w_toStore_f (x : Ts w_toStore_sig.pc) : Option (Ts w_toStore_sig.rc) := runFn Tryz.prog (w_toStore_E) Tryz.f6 w_toStore_sig x
theorem w_toStore_f_eq (x0 : (ByteArray)) (x1 : (ByteArray)) (x2 : (Int)) : w_toStore_f (x0, x1, x2) = (some (x0, x1, x2)) := by
  kernel_rfl
theorem w_toStore_ent : Entb Tryz.prog 6 := ⟨Tryz.f6, by kernel_rfl, by kernel_rfl, by kernel_rfl⟩
theorem w_toStore_ok : CtrOk Tryz.prog 6 ⟨w_toStore_sig, w_toStore_f⟩ :=
  ctr_of (fn := Tryz.f6) (by kernel_rfl) (by kernel_rfl) (fun x : Ts w_toStore_sig.pc => w_toStore_E) (fun x => ⟨fn_none, clo_none, wr_none⟩) (fun h => by cases h) follows_ (fun _ _ => trivial)
end FN
/-! strings.Cut: the shelf's contract, as one of ours. -/
namespace FN
open Go Go.Proofs Go.RowKit
def cut3 (s sep : ByteArray) : ByteArray × ByteArray × Bool := (⟨(Lib.cut s.data.toList sep.data.toList).1.toArray⟩, ⟨(Lib.cut s.data.toList sep.data.toList).2.1.toArray⟩, (Lib.cut s.data.toList sep.data.toList).2.2)
@[reducible] def x_strings_Cut_sig : Sig := { ps := [none, none], pc := [.str, .str], rs := [none, none, none], rc := [.str, .str, .bool] }
def x_strings_Cut_f (x : Ts x_strings_Cut_sig.pc) : Option (Ts x_strings_Cut_sig.rc) := if x.1.size < 4294967281 then some (cut3 x.1 x.2) else none
theorem x_strings_Cut_ent : Entb Tryz.prog 44 := ⟨Tryz.f44, by kernel_rfl, by kernel_rfl, by kernel_rfl⟩
theorem x_strings_Cut_ok : CtrOk Tryz.prog 44 ⟨x_strings_Cut_sig, x_strings_Cut_f⟩ := by
  intro w okc args bx x r hI hA hr
  obtain ⟨rfl, fl, h1, h2⟩ := (show bx = none ∧ ∃ fl, flatV [none, none] args.toList = some fl ∧ F2 (V1 (av w okc)) [PV.str x.1, PV.str x.2] fl from hA)
  obtain ⟨p, q, h3, rfl⟩ := flatV_two h1
  obtain ⟨m, hm⟩ := gl_cell hI
  have hx : (if x.1.size < 4294967281 then some (cut3 x.1 x.2) else none) = some r := hr
  split at hx
  · rename_i hc
    injection hx with hx
    subst hx
    cases h2 with
    | cons hp h2 => cases h2 with
      | cons hq _ =>
        have hp : p = .string x.1 := hp
        have hq : q = .string x.2 := hq
        subst hp; subst hq
        have hargs : args = #[.string x.1, .string x.2] := by apply Array.ext'; rw [h3]
        rw [hargs]
        refine (Tryz.strings_Cut x.1 x.2 m w hc hm).mono ?_
        rintro e w' ⟨rfl, n, rfl⟩
        exact ⟨_, rfl, ⟨[.string (cut3 x.1 x.2).1, .string (cut3 x.1 x.2).2.1, .bool (cut3 x.1 x.2).2.2], fun _ => False, fun _ _ => False, HidI.none, ⟨_, _, rfl, rfl, ⟨_, _, rfl, rfl, ⟨_, rfl, rfl⟩⟩⟩, fun i j u u' g hu => by simp [rowsV] at hu, fun k h => h, (fun h => Bool.noConfusion (show (false : Bool) = true from h)), [.string (cut3 x.1 x.2).1, .string (cut3 x.1 x.2).2.1, .bool (cut3 x.1 x.2).2.2], rfl, rfl⟩, ⟨rfl, rfl, rfl, Nat.le_refl _, fun _ _ _ => rfl⟩⟩
  · cases hx
end FN
set_option linter.unusedVariables false
namespace FN
open Go Go.Proofs
/-! loop.example/firingnets/impl.ReadJournal -/
@[reducible] def i_ReadJournal_sig : Sig := { ps := [none], pc := [.str], rs := [none, none], rc := [.row 57 .deed, .int .i64] }
noncomputable def i_ReadJournal_E : Env' := { fn := fun f => if f = 44 then some ⟨x_strings_Cut_sig, x_strings_Cut_f⟩ else if f = 45 then some ⟨i_ReadDeed_sig, i_ReadDeed_f⟩ else none, ck := ckT, cuts := [(3, [0, 4, 5])], mine := fun i => false }
noncomputable def i_ReadJournal_f (x : Ts i_ReadJournal_sig.pc) : Option (Ts i_ReadJournal_sig.rc) := runFn Tryz.prog (i_ReadJournal_E) Tryz.f31 i_ReadJournal_sig x
noncomputable def i_ReadJournal_l0 (y0 : ByteArray) (y1 : Int) (y2 : List (Int × Int × Int)) : Option ((List (Int × Int × Int)) × (Int)) := from_ Tryz.prog (i_ReadJournal_E) Tryz.f31 i_ReadJournal_sig [1, 1, 1, 0] ⟨mkT 42 [(0, .str y0), (4, .own 0), (5, .int .i64 y1)], [some (.arr 57 true .deed y2)]⟩
theorem i_ReadJournal_f_eq (x0 : (ByteArray)) : i_ReadJournal_f x0 = (i_ReadJournal_l0 x0 0 ([] : List (Int × Int × Int))) := by
  kernel_rfl
theorem i_ReadJournal_l0_eq (y0 : ByteArray) (y1 : Int) (y2 : List (Int × Int × Int)) : i_ReadJournal_l0 y0 y1 y2 = (if (0 : Int) ≤ y1 ∧ y1 ≤ (ByteArray.size y0 : Int) then (Option.bind (x_strings_Cut_f ((ByteArray.extract y0 (y1 : Int).toNat (ByteArray.size y0)), str13)) fun r1 => (Option.bind (i_ReadDeed_f r1.1) fun r2 => (cond ((!r1.2.2)) (some (y2, y1)) (cond ((!r2.2.2.2)) (some (y2, y1)) (if (List.length y2 + List.length ([(r2.1, r2.2.1, r2.2.2.1)] : List (Int × Int × Int))) * 24 ≤ 140737488355328 then (i_ReadJournal_l0 y0 (IntKind.i64.wrap (y1 + (IntKind.i64.wrap ((ByteArray.size r1.1 : Int) + 1)))) (y2 ++ ([(r2.1, r2.2.1, r2.2.2.1)] : List (Int × Int × Int)))) else none))))) else none) := by
  refine (loopK_eq Tryz.prog (i_ReadJournal_E) (sub (Tryz.f31.body.getD .skip) [1, 1, 1, 0, 0]) _ _).trans ?_
  kernel_rfl
theorem i_ReadJournal_ent : Entb Tryz.prog 31 := ⟨Tryz.f31, by kernel_rfl, by kernel_rfl, by kernel_rfl⟩
theorem i_ReadJournal_ok : CtrOk Tryz.prog 31 ⟨i_ReadJournal_sig, i_ReadJournal_f⟩ :=
  ctr_of (fn := Tryz.f31) (by kernel_rfl) (by kernel_rfl) (fun x : Ts i_ReadJournal_sig.pc => i_ReadJournal_E) (fun x => ⟨(fn_cons ⟨x_strings_Cut_ok, x_strings_Cut_ent⟩ (fn_cons ⟨i_ReadDeed_ok, i_ReadDeed_ent⟩ fn_none)), clo_none, wr_none⟩) (fun h => by cases h) follows_ (fun _ _ => trivial)
end FN
set_option linter.unusedVariables false
namespace FN
open Go Go.Proofs
/-! loop.example/firingnets/spec.ReadJournal -/
@[reducible] def s_ReadJournal_sig : Sig := { ps := [none], pc := [.str], rs := [none, none], rc := [.row 57 .deed, .int .i64] }
noncomputable def s_ReadJournal_E : Env' := { fn := fun f => if f = 27 then some ⟨s_ReadDeed_sig, s_ReadDeed_f⟩ else none, ck := ckT, cuts := [(4, [0, 4, 5, 6])], mine := fun i => false }
noncomputable def s_ReadJournal_f (x : Ts s_ReadJournal_sig.pc) : Option (Ts s_ReadJournal_sig.rc) := runFn Tryz.prog (s_ReadJournal_E) Tryz.f13 s_ReadJournal_sig x
noncomputable def s_ReadJournal_l0 (y0 : ByteArray) (y1 : Int) (y2 : Int) (y3 : List (Int × Int × Int)) : Option ((List (Int × Int × Int)) × (Int)) := from_ Tryz.prog (s_ReadJournal_E) Tryz.f13 s_ReadJournal_sig [1, 1, 1, 0, 1, 0] ⟨mkT 40 [(0, .str y0), (4, .own 0), (5, .int .i64 y1), (6, .int .i64 y2)], [some (.arr 57 true .deed y3)]⟩
theorem s_ReadJournal_f_eq (x0 : (ByteArray)) : s_ReadJournal_f x0 = (s_ReadJournal_l0 x0 0 0 ([] : List (Int × Int × Int))) := by
  kernel_rfl
theorem s_ReadJournal_l0_eq (y0 : ByteArray) (y1 : Int) (y2 : Int) (y3 : List (Int × Int × Int)) : s_ReadJournal_l0 y0 y1 y2 y3 = (cond ((decide (y2 < (ByteArray.size y0 : Int)))) (if (0 : Int) ≤ y2 ∧ y2 < (ByteArray.size y0 : Int) then (cond ((((List.getD (ByteArray.data y0).toList (y2 : Int).toNat 0).toNat : Int) == 10)) (if (0 : Int) ≤ y2 ∧ y2 ≤ (ByteArray.size y0 : Int) then (if (0 : Int) ≤ y1 ∧ y1 ≤ y2 then (Option.bind (s_ReadDeed_f (ByteArray.extract y0 (y1 : Int).toNat (y2 : Int).toNat)) fun r1 => (cond ((!r1.2.2.2)) (some (y3, y1)) (if (List.length y3 + List.length ([(r1.1, r1.2.1, r1.2.2.1)] : List (Int × Int × Int))) * 24 ≤ 140737488355328 then (s_ReadJournal_l0 y0 (IntKind.i64.wrap (y2 + 1)) (IntKind.i64.wrap (y2 + 1)) (y3 ++ ([(r1.1, r1.2.1, r1.2.2.1)] : List (Int × Int × Int)))) else none))) else none) else none) (s_ReadJournal_l0 y0 y1 (IntKind.i64.wrap (y2 + 1)) y3)) else none) (some (y3, y1))) := by
  refine (loopK_eq Tryz.prog (s_ReadJournal_E) (sub (Tryz.f13.body.getD .skip) [1, 1, 1, 0, 1, 0, 0]) _ _).trans ?_
  kernel_rfl
theorem s_ReadJournal_ent : Entb Tryz.prog 13 := ⟨Tryz.f13, by kernel_rfl, by kernel_rfl, by kernel_rfl⟩
theorem s_ReadJournal_ok : CtrOk Tryz.prog 13 ⟨s_ReadJournal_sig, s_ReadJournal_f⟩ :=
  ctr_of (fn := Tryz.f13) (by kernel_rfl) (by kernel_rfl) (fun x : Ts s_ReadJournal_sig.pc => s_ReadJournal_E) (fun x => ⟨(fn_cons ⟨s_ReadDeed_ok, s_ReadDeed_ent⟩ fn_none), clo_none, wr_none⟩) (fun h => by cases h) follows_ (fun _ _ => trivial)
end FN
set_option linter.unusedVariables false
namespace FN
open Go Go.Proofs
/-! loop.example/firingnets/laws.eqIntS -/
@[reducible] def w_eqIntS_sig : Sig := { ps := [none, none], pc := [.view .i64, .view .i64], rs := [none], rc := [.bool] }
noncomputable def w_eqIntS_E : Env' := { fn := fun f => none, ck := ckT, cuts := [(4, [0, 1, 5])], mine := fun i => false }
noncomputable def w_eqIntS_f (x : Ts w_eqIntS_sig.pc) : Option (Ts w_eqIntS_sig.rc) := runFn Tryz.prog (w_eqIntS_E) Tryz.f33 w_eqIntS_sig x
noncomputable def w_eqIntS_l0 (y0 : List (Int)) (y1 : List (Int)) (y2 : Int) : Option ((Bool)) := from_ Tryz.prog (w_eqIntS_E) Tryz.f33 w_eqIntS_sig [1, 1, 0, 1, 0] ⟨mkT 26 [(0, .row false .i64 y0), (1, .row false .i64 y1), (5, .int .i64 y2)], []⟩
theorem w_eqIntS_f_eq (x0 : (List (Int))) (x1 : (List (Int))) : w_eqIntS_f (x0, x1) = (cond (((List.length x0 : Int) != (List.length x1 : Int))) (some false) (w_eqIntS_l0 x0 x1 0)) := by
  kernel_rfl
theorem w_eqIntS_l0_eq (y0 : List (Int)) (y1 : List (Int)) (y2 : Int) : w_eqIntS_l0 y0 y1 y2 = (cond ((decide (y2 < (List.length y0 : Int)))) (if (0 : Int) ≤ y2 ∧ y2 < (List.length y0 : Int) then (if (0 : Int) ≤ y2 ∧ y2 < (List.length y1 : Int) then (cond (((List.getD y0 (y2 : Int).toNat 0) != (List.getD y1 (y2 : Int).toNat 0))) (some false) (w_eqIntS_l0 y0 y1 (IntKind.i64.wrap (y2 + 1)))) else none) else none) (some true)) := by
  refine (loopK_eq Tryz.prog (w_eqIntS_E) (sub (Tryz.f33.body.getD .skip) [1, 1, 0, 1, 0, 0]) _ _).trans ?_
  kernel_rfl
theorem w_eqIntS_ent : Entb Tryz.prog 33 := ⟨Tryz.f33, by kernel_rfl, by kernel_rfl, by kernel_rfl⟩
theorem w_eqIntS_ok : CtrOk Tryz.prog 33 ⟨w_eqIntS_sig, w_eqIntS_f⟩ :=
  ctr_of (fn := Tryz.f33) (by kernel_rfl) (by kernel_rfl) (fun x : Ts w_eqIntS_sig.pc => w_eqIntS_E) (fun x => ⟨fn_none, clo_none, wr_none⟩) (fun h => by cases h) follows_ (fun _ _ => trivial)
end FN
set_option linter.unusedVariables false
namespace FN
open Go Go.Proofs
/-! loop.example/firingnets/laws.eqPlace -/
@[reducible] def w_eqPlace_sig : Sig := { ps := [some 3, some 3], pc := [.view .i64, .int .i64, .view .i64, .view .i64, .int .i64, .view .i64], rs := [none], rc := [.bool] }
noncomputable def w_eqPlace_E : Env' := { fn := fun f => if f = 33 then some ⟨w_eqIntS_sig, w_eqIntS_f⟩ else none, ck := ckT, cuts := [], mine := fun i => false }
noncomputable def w_eqPlace_f (x : Ts w_eqPlace_sig.pc) : Option (Ts w_eqPlace_sig.rc) := runFn Tryz.prog (w_eqPlace_E) Tryz.f17 w_eqPlace_sig x
theorem w_eqPlace_f_eq (x0 : (List (Int))) (x1 : (Int)) (x2 : (List (Int))) (x3 : (List (Int))) (x4 : (Int)) (x5 : (List (Int))) : w_eqPlace_f (x0, x1, x2, x3, x4, x5) = (Option.bind (w_eqIntS_f (x0, x3)) fun r1 => (cond ((!r1)) (some false) (cond ((x1 != x4)) (some false) (Option.bind (w_eqIntS_f (x2, x5)) fun r2 => (cond ((!r2)) (some false) (some true)))))) := by
  kernel_rfl
theorem w_eqPlace_ent : Entb Tryz.prog 17 := ⟨Tryz.f17, by kernel_rfl, by kernel_rfl, by kernel_rfl⟩
theorem w_eqPlace_ok : CtrOk Tryz.prog 17 ⟨w_eqPlace_sig, w_eqPlace_f⟩ :=
  ctr_of (fn := Tryz.f17) (by kernel_rfl) (by kernel_rfl) (fun x : Ts w_eqPlace_sig.pc => w_eqPlace_E) (fun x => ⟨(fn_cons ⟨w_eqIntS_ok, w_eqIntS_ent⟩ fn_none), clo_none, wr_none⟩) (fun h => by cases h) follows_ (fun _ _ => trivial)
end FN
set_option linter.unusedVariables false
namespace FN
open Go Go.Proofs
/-! loop.example/firingnets/laws.heldIntS -/
@[reducible] def w_heldIntS_sig : Sig := { ps := [none, none], pc := [.view .i64, .int .i64], rs := [none], rc := [.int .i64] }
noncomputable def w_heldIntS_E : Env' := { fn := fun f => none, ck := ckT, cuts := [(2, [0, 1, 5])], mine := fun i => false }
noncomputable def w_heldIntS_f (x : Ts w_heldIntS_sig.pc) : Option (Ts w_heldIntS_sig.rc) := runFn Tryz.prog (w_heldIntS_E) Tryz.f35 w_heldIntS_sig x
noncomputable def w_heldIntS_l0 (y0 : List (Int)) (y1 : Int) (y2 : Int) : Option ((Int)) := from_ Tryz.prog (w_heldIntS_E) Tryz.f35 w_heldIntS_sig [1, 0, 1, 0] ⟨mkT 21 [(0, .row false .i64 y0), (1, .int .i64 y1), (5, .int .i64 y2)], []⟩
theorem w_heldIntS_f_eq (x0 : (List (Int))) (x1 : (Int)) : w_heldIntS_f (x0, x1) = (w_heldIntS_l0 x0 x1 0) := by
  kernel_rfl
theorem w_heldIntS_l0_eq (y0 : List (Int)) (y1 : Int) (y2 : Int) : w_heldIntS_l0 y0 y1 y2 = (cond ((decide (y2 < (List.length y0 : Int)))) (if (0 : Int) ≤ y2 ∧ y2 < (List.length y0 : Int) then (cond (((List.getD y0 (y2 : Int).toNat 0) != y1)) (some (-1)) (w_heldIntS_l0 y0 (IntKind.i64.wrap (y1 + 1)) (IntKind.i64.wrap (y2 + 1)))) else none) (some y1)) := by
  refine (loopK_eq Tryz.prog (w_heldIntS_E) (sub (Tryz.f35.body.getD .skip) [1, 0, 1, 0, 0]) _ _).trans ?_
  kernel_rfl
theorem w_heldIntS_ent : Entb Tryz.prog 35 := ⟨Tryz.f35, by kernel_rfl, by kernel_rfl, by kernel_rfl⟩
theorem w_heldIntS_ok : CtrOk Tryz.prog 35 ⟨w_heldIntS_sig, w_heldIntS_f⟩ :=
  ctr_of (fn := Tryz.f35) (by kernel_rfl) (by kernel_rfl) (fun x : Ts w_heldIntS_sig.pc => w_heldIntS_E) (fun x => ⟨fn_none, clo_none, wr_none⟩) (fun h => by cases h) follows_ (fun _ _ => trivial)
end FN
set_option linter.unusedVariables false
namespace FN
open Go Go.Proofs
/-! loop.example/firingnets/laws.heldPlace -/
@[reducible] def w_heldPlace_sig : Sig := { ps := [some 3, none], pc := [.view .i64, .int .i64, .view .i64, .int .i64], rs := [none], rc := [.int .i64] }
noncomputable def w_heldPlace_E : Env' := { fn := fun f => if f = 35 then some ⟨w_heldIntS_sig, w_heldIntS_f⟩ else none, ck := ckT, cuts := [], mine := fun i => false }
noncomputable def w_heldPlace_f (x : Ts w_heldPlace_sig.pc) : Option (Ts w_heldPlace_sig.rc) := runFn Tryz.prog (w_heldPlace_E) Tryz.f21 w_heldPlace_sig x
theorem w_heldPlace_f_eq (x0 : (List (Int))) (x1 : (Int)) (x2 : (List (Int))) (x3 : (Int)) : w_heldPlace_f (x0, x1, x2, x3) = (Option.bind (w_heldIntS_f (x0, x3)) fun r1 => (cond ((decide (r1 < 0))) (some (-1)) (Option.bind (w_heldIntS_f (x2, r1)) fun r2 => (cond ((decide (r2 < 0))) (some (-1)) (some r2))))) := by
  kernel_rfl
theorem w_heldPlace_ent : Entb Tryz.prog 21 := ⟨Tryz.f21, by kernel_rfl, by kernel_rfl, by kernel_rfl⟩
theorem w_heldPlace_ok : CtrOk Tryz.prog 21 ⟨w_heldPlace_sig, w_heldPlace_f⟩ :=
  ctr_of (fn := Tryz.f21) (by kernel_rfl) (by kernel_rfl) (fun x : Ts w_heldPlace_sig.pc => w_heldPlace_E) (fun x => ⟨(fn_cons ⟨w_heldIntS_ok, w_heldIntS_ent⟩ fn_none), clo_none, wr_none⟩) (fun h => by cases h) follows_ (fun _ _ => trivial)
end FN
set_option linter.unusedVariables false
namespace FN
open Go Go.Proofs
/-! loop.example/firingnets/laws.eqPlaceS -/
@[reducible] def w_eqPlaceS_sig : Sig := { ps := [none, none], pc := [.view .place, .view .place], rs := [none], rc := [.bool] }
noncomputable def w_eqPlaceS_E : Env' := { fn := fun f => if f = 17 then some ⟨w_eqPlace_sig, w_eqPlace_f⟩ else none, ck := ckT, cuts := [(4, [0, 1, 5])], mine := fun i => false }
noncomputable def w_eqPlaceS_f (x : Ts w_eqPlaceS_sig.pc) : Option (Ts w_eqPlaceS_sig.rc) := runFn Tryz.prog (w_eqPlaceS_E) Tryz.f18 w_eqPlaceS_sig x
noncomputable def w_eqPlaceS_l0 (y0 : List (List Int × Int × List Int)) (y1 : List (List Int × Int × List Int)) (y2 : Int) : Option ((Bool)) := from_ Tryz.prog (w_eqPlaceS_E) Tryz.f18 w_eqPlaceS_sig [1, 1, 0, 1, 0] ⟨mkT 27 [(0, .row false .place y0), (1, .row false .place y1), (5, .int .i64 y2)], []⟩
theorem w_eqPlaceS_f_eq (x0 : (List (List Int × Int × List Int))) (x1 : (List (List Int × Int × List Int))) : w_eqPlaceS_f (x0, x1) = (cond (((List.length x0 : Int) != (List.length x1 : Int))) (some false) (w_eqPlaceS_l0 x0 x1 0)) := by
  kernel_rfl
theorem w_eqPlaceS_l0_eq (y0 : List (List Int × Int × List Int)) (y1 : List (List Int × Int × List Int)) (y2 : Int) : w_eqPlaceS_l0 y0 y1 y2 = (cond ((decide (y2 < (List.length y0 : Int)))) (if (0 : Int) ≤ y2 ∧ y2 < (List.length y0 : Int) then (if (0 : Int) ≤ y2 ∧ y2 < (List.length y1 : Int) then (Option.bind (w_eqPlace_f ((List.getD y0 (y2 : Int).toNat ([], 0, [])).1, (List.getD y0 (y2 : Int).toNat ([], 0, [])).2.1, (List.getD y0 (y2 : Int).toNat ([], 0, [])).2.2, (List.getD y1 (y2 : Int).toNat ([], 0, [])).1, (List.getD y1 (y2 : Int).toNat ([], 0, [])).2.1, (List.getD y1 (y2 : Int).toNat ([], 0, [])).2.2)) fun r1 => (cond ((!r1)) (some false) (w_eqPlaceS_l0 y0 y1 (IntKind.i64.wrap (y2 + 1))))) else none) else none) (some true)) := by
  refine (loopK_eq Tryz.prog (w_eqPlaceS_E) (sub (Tryz.f18.body.getD .skip) [1, 1, 0, 1, 0, 0]) _ _).trans ?_
  kernel_rfl
theorem w_eqPlaceS_ent : Entb Tryz.prog 18 := ⟨Tryz.f18, by kernel_rfl, by kernel_rfl, by kernel_rfl⟩
theorem w_eqPlaceS_ok : CtrOk Tryz.prog 18 ⟨w_eqPlaceS_sig, w_eqPlaceS_f⟩ :=
  ctr_of (fn := Tryz.f18) (by kernel_rfl) (by kernel_rfl) (fun x : Ts w_eqPlaceS_sig.pc => w_eqPlaceS_E) (fun x => ⟨(fn_cons ⟨w_eqPlace_ok, w_eqPlace_ent⟩ fn_none), clo_none, wr_none⟩) (fun h => by cases h) follows_ (fun _ _ => trivial)
end FN
set_option linter.unusedVariables false
namespace FN
open Go Go.Proofs
/-! loop.example/firingnets/laws.eqDesk -/
@[reducible] def w_eqDesk_sig : Sig := { ps := [some 4, some 4], pc := [.view .i64, .int .i64, .view .i64, .view .place, .view .i64, .int .i64, .view .i64, .view .place], rs := [none], rc := [.bool] }
noncomputable def w_eqDesk_E : Env' := { fn := fun f => if f = 17 then some ⟨w_eqPlace_sig, w_eqPlace_f⟩ else if f = 18 then some ⟨w_eqPlaceS_sig, w_eqPlaceS_f⟩ else none, ck := ckT, cuts := [], mine := fun i => false }
noncomputable def w_eqDesk_f (x : Ts w_eqDesk_sig.pc) : Option (Ts w_eqDesk_sig.rc) := runFn Tryz.prog (w_eqDesk_E) Tryz.f8 w_eqDesk_sig x
theorem w_eqDesk_f_eq (x0 : (List (Int))) (x1 : (Int)) (x2 : (List (Int))) (x3 : (List (List Int × Int × List Int))) (x4 : (List (Int))) (x5 : (Int)) (x6 : (List (Int))) (x7 : (List (List Int × Int × List Int))) : w_eqDesk_f (x0, x1, x2, x3, x4, x5, x6, x7) = (Option.bind (w_eqPlace_f (x0, x1, x2, x4, x5, x6)) fun r1 => (cond ((!r1)) (some false) (Option.bind (w_eqPlaceS_f (x3, x7)) fun r2 => (cond ((!r2)) (some false) (some true))))) := by
  kernel_rfl
theorem w_eqDesk_ent : Entb Tryz.prog 8 := ⟨Tryz.f8, by kernel_rfl, by kernel_rfl, by kernel_rfl⟩
theorem w_eqDesk_ok : CtrOk Tryz.prog 8 ⟨w_eqDesk_sig, w_eqDesk_f⟩ :=
  ctr_of (fn := Tryz.f8) (by kernel_rfl) (by kernel_rfl) (fun x : Ts w_eqDesk_sig.pc => w_eqDesk_E) (fun x => ⟨(fn_cons ⟨w_eqPlace_ok, w_eqPlace_ent⟩ (fn_cons ⟨w_eqPlaceS_ok, w_eqPlaceS_ent⟩ fn_none)), clo_none, wr_none⟩) (fun h => by cases h) follows_ (fun _ _ => trivial)
end FN
set_option linter.unusedVariables false
namespace FN
open Go Go.Proofs
/-! loop.example/firingnets/laws.heldPlaceS -/
@[reducible] def w_heldPlaceS_sig : Sig := { ps := [none, none], pc := [.view .place, .int .i64], rs := [none], rc := [.int .i64] }
noncomputable def w_heldPlaceS_E : Env' := { fn := fun f => if f = 35 then some ⟨w_heldIntS_sig, w_heldIntS_f⟩ else none, ck := ckT, cuts := [(2, [0, 1, 5])], mine := fun i => false }
noncomputable def w_heldPlaceS_f (x : Ts w_heldPlaceS_sig.pc) : Option (Ts w_heldPlaceS_sig.rc) := runFn Tryz.prog (w_heldPlaceS_E) Tryz.f22 w_heldPlaceS_sig x
noncomputable def w_heldPlaceS_l0 (y0 : List (List Int × Int × List Int)) (y1 : Int) (y2 : Int) : Option ((Int)) := from_ Tryz.prog (w_heldPlaceS_E) Tryz.f22 w_heldPlaceS_sig [1, 0, 1, 0] ⟨mkT 40 [(0, .row false .place y0), (1, .int .i64 y1), (5, .int .i64 y2)], []⟩
theorem w_heldPlaceS_f_eq (x0 : (List (List Int × Int × List Int))) (x1 : (Int)) : w_heldPlaceS_f (x0, x1) = (w_heldPlaceS_l0 x0 x1 0) := by
  kernel_rfl
theorem w_heldPlaceS_l0_eq (y0 : List (List Int × Int × List Int)) (y1 : Int) (y2 : Int) : w_heldPlaceS_l0 y0 y1 y2 = (cond ((decide (y2 < (List.length y0 : Int)))) (if (0 : Int) ≤ y2 ∧ y2 < (List.length y0 : Int) then (Option.bind (w_heldIntS_f ((List.getD y0 (y2 : Int).toNat ([], 0, [])).1, y1)) fun r1 => (cond ((decide (r1 < 0))) (some (-1)) (if (0 : Int) ≤ y2 ∧ y2 < (List.length y0 : Int) then (cond (((List.getD y0 (y2 : Int).toNat ([], 0, [])).2.1 != r1)) (some (-1)) (if (0 : Int) ≤ y2 ∧ y2 < (List.length y0 : Int) then (Option.bind (w_heldIntS_f ((List.getD y0 (y2 : Int).toNat ([], 0, [])).2.2, (IntKind.i64.wrap (r1 + 1)))) fun r2 => (cond ((decide (r2 < 0))) (some (-1)) (w_heldPlaceS_l0 y0 r2 (IntKind.i64.wrap (y2 + 1))))) else none)) else none))) else none) (some y1)) := by
  refine (loopK_eq Tryz.prog (w_heldPlaceS_E) (sub (Tryz.f22.body.getD .skip) [1, 0, 1, 0, 0]) _ _).trans ?_
  kernel_rfl
theorem w_heldPlaceS_ent : Entb Tryz.prog 22 := ⟨Tryz.f22, by kernel_rfl, by kernel_rfl, by kernel_rfl⟩
theorem w_heldPlaceS_ok : CtrOk Tryz.prog 22 ⟨w_heldPlaceS_sig, w_heldPlaceS_f⟩ :=
  ctr_of (fn := Tryz.f22) (by kernel_rfl) (by kernel_rfl) (fun x : Ts w_heldPlaceS_sig.pc => w_heldPlaceS_E) (fun x => ⟨(fn_cons ⟨w_heldIntS_ok, w_heldIntS_ent⟩ fn_none), clo_none, wr_none⟩) (fun h => by cases h) follows_ (fun _ _ => trivial)
end FN
set_option linter.unusedVariables false
namespace FN
open Go Go.Proofs
/-! loop.example/firingnets/laws.heldDesk -/
@[reducible] def w_heldDesk_sig : Sig := { ps := [some 4, none], pc := [.view .i64, .int .i64, .view .i64, .view .place, .int .i64], rs := [none], rc := [.int .i64] }
noncomputable def w_heldDesk_E : Env' := { fn := fun f => if f = 21 then some ⟨w_heldPlace_sig, w_heldPlace_f⟩ else if f = 22 then some ⟨w_heldPlaceS_sig, w_heldPlaceS_f⟩ else none, ck := ckT, cuts := [], mine := fun i => false }
noncomputable def w_heldDesk_f (x : Ts w_heldDesk_sig.pc) : Option (Ts w_heldDesk_sig.rc) := runFn Tryz.prog (w_heldDesk_E) Tryz.f10 w_heldDesk_sig x
theorem w_heldDesk_f_eq (x0 : (List (Int))) (x1 : (Int)) (x2 : (List (Int))) (x3 : (List (List Int × Int × List Int))) (x4 : (Int)) : w_heldDesk_f (x0, x1, x2, x3, x4) = (Option.bind (w_heldPlace_f (x0, x1, x2, x4)) fun r1 => (cond ((decide (r1 < 0))) (some (-1)) (Option.bind (w_heldPlaceS_f (x3, r1)) fun r2 => (cond ((decide (r2 < 0))) (some (-1)) (some r2))))) := by
  kernel_rfl
theorem w_heldDesk_ent : Entb Tryz.prog 10 := ⟨Tryz.f10, by kernel_rfl, by kernel_rfl, by kernel_rfl⟩
theorem w_heldDesk_ok : CtrOk Tryz.prog 10 ⟨w_heldDesk_sig, w_heldDesk_f⟩ :=
  ctr_of (fn := Tryz.f10) (by kernel_rfl) (by kernel_rfl) (fun x : Ts w_heldDesk_sig.pc => w_heldDesk_E) (fun x => ⟨(fn_cons ⟨w_heldPlace_ok, w_heldPlace_ent⟩ (fn_cons ⟨w_heldPlaceS_ok, w_heldPlaceS_ent⟩ fn_none)), clo_none, wr_none⟩) (fun h => by cases h) follows_ (fun _ _ => trivial)
end FN
set_option linter.unusedVariables false
namespace FN
open Go Go.Proofs
/-! loop.example/firingnets/impl.opened -/
@[reducible] def i_opened_sig : Sig := { ps := [some 3], pc := [.str, .str, .int .i64], rs := [some 4], rc := [.row 3 .i64, .int .i64, .row 3 .i64, .drow false 27 3] }
noncomputable def i_opened_E : Env' := { fn := fun f => if f = 30 then some ⟨i_ReadPlace_sig, i_ReadPlace_f⟩ else if f = 31 then some ⟨i_ReadJournal_sig, i_ReadJournal_f⟩ else if f = 32 then some ⟨i_doAll_sig, i_doAll_f⟩ else none, ck := ckT, cuts := [], mine := fun i => i == 12 || i == 18 || i == 25 }
noncomputable def i_opened_f (x : Ts i_opened_sig.pc) : Option (Ts i_opened_sig.rc) := runFn Tryz.prog (i_opened_E) Tryz.f16 i_opened_sig x
theorem i_opened_f_eq (x0 : (ByteArray)) (x1 : (ByteArray)) (x2 : (Int)) : i_opened_f (x0, x1, x2) = (Option.bind (i_ReadPlace_f x0) fun r1 => (Option.bind (i_ReadJournal_f x1) fun r2 => (Option.bind (i_doAll_f (r1.1, r1.2.1, r1.2.2.1, [], r2.1)) fun r3 => (some (r3.1, r3.2.1, r3.2.2.1, r3.2.2.2.1))))) := by
  kernel_rfl
theorem i_opened_ent : Entb Tryz.prog 16 := ⟨Tryz.f16, by kernel_rfl, by kernel_rfl, by kernel_rfl⟩
theorem i_opened_ok : CtrOk Tryz.prog 16 ⟨i_opened_sig, i_opened_f⟩ :=
  ctr_of (fn := Tryz.f16) (by kernel_rfl) (by kernel_rfl) (fun x : Ts i_opened_sig.pc => i_opened_E) (fun x => ⟨(fn_cons ⟨i_ReadPlace_ok, i_ReadPlace_ent⟩ (fn_cons ⟨i_ReadJournal_ok, i_ReadJournal_ent⟩ (fn_cons ⟨i_doAll_ok, i_doAll_ent⟩ fn_none))), clo_none, wr_none⟩) (fun h => by cases h) follows_ (fun _ _ => trivial)
end FN
set_option linter.unusedVariables false
namespace FN
open Go Go.Proofs
/-! loop.example/firingnets/impl.StoreOpen -/
@[reducible] def i_StoreOpen_sig : Sig := { ps := [some 3], pc := [.str, .str, .int .i64], rs := [some 4, none], rc := [.row 3 .i64, .int .i64, .row 3 .i64, .drow false 27 3, .bool] }
noncomputable def i_StoreOpen_E : Env' := { fn := fun f => if f = 15 then some ⟨i_StoreOk_sig, i_StoreOk_f⟩ else if f = 16 then some ⟨i_opened_sig, i_opened_f⟩ else none, ck := ckT, cuts := [], mine := fun i => i == 5 || i == 9 }
noncomputable def i_StoreOpen_f (x : Ts i_StoreOpen_sig.pc) : Option (Ts i_StoreOpen_sig.rc) := runFn Tryz.prog (i_StoreOpen_E) Tryz.f7 i_StoreOpen_sig x
theorem i_StoreOpen_f_eq (x0 : (ByteArray)) (x1 : (ByteArray)) (x2 : (Int)) : i_StoreOpen_f (x0, x1, x2) = (Option.bind (i_StoreOk_f (x0, x1, x2)) fun r1 => (cond ((!r1)) (some ([], 0, [], [], false)) (Option.bind (i_opened_f (x0, x1, x2)) fun r2 => (some (r2.1, r2.2.1, r2.2.2.1, r2.2.2.2, true))))) := by
  kernel_rfl
theorem i_StoreOpen_ent : Entb Tryz.prog 7 := ⟨Tryz.f7, by kernel_rfl, by kernel_rfl, by kernel_rfl⟩
theorem i_StoreOpen_ok : CtrOk Tryz.prog 7 ⟨i_StoreOpen_sig, i_StoreOpen_f⟩ :=
  ctr_of (fn := Tryz.f7) (by kernel_rfl) (by kernel_rfl) (fun x : Ts i_StoreOpen_sig.pc => i_StoreOpen_E) (fun x => ⟨(fn_cons ⟨i_StoreOk_ok, i_StoreOk_ent⟩ (fn_cons ⟨i_opened_ok, i_opened_ent⟩ fn_none)), clo_none, wr_none⟩) (fun h => by cases h) follows_ (fun _ _ => trivial)
end FN
set_option linter.unusedVariables false
namespace FN
open Go Go.Proofs
/-! loop.example/firingnets/spec.StoreOpen -/
@[reducible] def s_StoreOpen_sig : Sig := { ps := [some 3], pc := [.str, .str, .int .i64], rs := [some 4, none], rc := [.view .i64, .int .i64, .view .i64, .view .place, .bool] }
noncomputable def s_StoreOpen_E : Env' := { fn := fun f => if f = 11 then some ⟨s_StoreOk_sig, s_StoreOk_f⟩ else if f = 12 then some ⟨s_ReadPlace_sig, s_ReadPlace_f⟩ else if f = 13 then some ⟨s_ReadJournal_sig, s_ReadJournal_f⟩ else if f = 14 then some ⟨s_l15Run_sig, s_l15Run_f⟩ else none, ck := ckT, cuts := [], mine := fun i => false }
noncomputable def s_StoreOpen_f (x : Ts s_StoreOpen_sig.pc) : Option (Ts s_StoreOpen_sig.rc) := runFn Tryz.prog (s_StoreOpen_E) Tryz.f5 s_StoreOpen_sig x
theorem s_StoreOpen_f_eq (x0 : (ByteArray)) (x1 : (ByteArray)) (x2 : (Int)) : s_StoreOpen_f (x0, x1, x2) = (Option.bind (s_StoreOk_f (x0, x1, x2)) fun r1 => (cond ((!r1)) (some ([], 0, [], [], false)) (Option.bind (s_ReadPlace_f x0) fun r2 => (Option.bind (s_ReadJournal_f x1) fun r3 => (Option.bind (s_l15Run_f (r2.1, r2.2.1, r2.2.2.1, [], r3.1)) fun r4 => (some (r4.1, r4.2.1, r4.2.2.1, r4.2.2.2.1, true))))))) := by
  kernel_rfl
theorem s_StoreOpen_ent : Entb Tryz.prog 5 := ⟨Tryz.f5, by kernel_rfl, by kernel_rfl, by kernel_rfl⟩
theorem s_StoreOpen_ok : CtrOk Tryz.prog 5 ⟨s_StoreOpen_sig, s_StoreOpen_f⟩ :=
  ctr_of (fn := Tryz.f5) (by kernel_rfl) (by kernel_rfl) (fun x : Ts s_StoreOpen_sig.pc => s_StoreOpen_E) (fun x => ⟨(fn_cons ⟨s_StoreOk_ok, s_StoreOk_ent⟩ (fn_cons ⟨s_ReadPlace_ok, s_ReadPlace_ent⟩ (fn_cons ⟨s_ReadJournal_ok, s_ReadJournal_ent⟩ (fn_cons ⟨s_l15Run_ok, s_l15Run_ent⟩ fn_none)))), clo_none, wr_none⟩) (fun h => by cases h) follows_ (fun _ _ => trivial)
end FN
/-! What writes one number behind the other into a row. -/
namespace FN
open Go Go.Proofs
noncomputable def E0 : Env' := { fn := fun _ => none, ck := ckT, cuts := [], mine := fun _ => false }
theorem E0c : E0.cuts = [] := rfl
theorem E0_ok : EnvOk Tryz.prog E0 := ⟨fn_none, clo_none, wr_none⟩
noncomputable def mB : Code := sub (Tryz.f34.body.getD .skip) [1, 0, 1, 0, 0]
theorem m_el : elemT Tryz.prog 25 = some 3 := by kernel_rfl
theorem m_sz : szOf Tryz.prog 3 = 1 := by kernel_rfl
theorem m_info : (Tryz.prog.info? 3).isSome = true := by kernel_rfl
section
variable {R : Type} {id : Nat} {e : TypeId} {f : Bool}
theorem m_store {h : Hp} {xs : List Int} (hg : h.get id = some (.arr e f .i64 xs)) (n : Nat) (k : Int) (K : Hp → Option R) :
    storeK Tryz.prog 3 (.ep id .i64 n 0) (.int .i64 k) h K = K (h.set id (some (.arr e f .i64 (xs.set n k)))) := by
  simp only [storeK, cellsOf, frzs, frz, hg, m_sz, m_info]
  simp [CK.sz, oneP, CK.flds, decE]
theorem m_iter {h : Hp} {xs : List Int} (hg : h.get id = some (.arr e f .i64 xs)) (hl : xs.length ≤ 4611686018427387904) {i k : Int} (hi : 0 ≤ i) (hi' : i ≤ xs.length) (hk : 0 ≤ k) (hk' : k ≤ 4611686018427387904) (a2 a3 a4 a6 a7 a8 a9 a10 a11 a12 a13 a14 a15 a16 a17 a18 : PV) (K : AX → St → Option R) :
    exCode Tryz.prog E0 mB ⟨[.own id, .int .i64 k, a2, a3, a4, .int .i64 i, a6, a7, a8, a9, a10, a11, a12, a13, a14, a15, a16, a17, a18], h⟩ K =
      if i < xs.length then K .norm ⟨[.own id, .int .i64 (k + 1), a2, a3, a4, .int .i64 (i + 1), .int .i64 i, .own id, .int .i64 xs.length, .bool true, .int .i64 i, .int .i64 (i + 1), .own id, .int .i64 i, .int .i64 k, .ep id .i64 i.toNat 0, .int .i64 k, .int .i64 (k + 1), a18], h.set id (some (.arr e f .i64 (xs.set i.toNat k)))⟩
      else K (.ex 0) ⟨[.own id, .int .i64 k, a2, a3, a4, .int .i64 i, .int .i64 i, .own id, .int .i64 xs.length, .bool false, a10, a11, a12, a13, a14, a15, a16, a17, a18], h⟩ := by
  have w1 : IntKind.i64.wrap (k + 1) = k + 1 := by simp [IntKind.wrap, IntKind.bits, IntKind.signed]; split <;> omega
  have w2 : IntKind.i64.wrap (i + 1) = i + 1 := by simp [IntKind.wrap, IntKind.bits, IntKind.signed]; split <;> omega
  simp only [mB, sub, Tryz.f34, Option.getD_some, exCode, cutS0 E0c]
  simp only [regOrd, Bool.false_eq_true, if_false, exOps, opK, ev, ofVal, List.getD_cons_zero, List.getD_cons_succ, putT, List.set_cons_zero, List.set_cons_succ]
  simp only [lenK, hg, m_el, Option.isSome_some, if_true, binK]
  by_cases c : i < xs.length
  · rw [if_pos c]
    simp only [decide_eq_true c, cond_true, m_sz, CK.sz, if_true]
    rw [if_pos ⟨hi, c⟩, m_store hg]
    simp only [w1, w2]
  · rw [if_neg c]
    simp only [decide_eq_false c, cond_false]
theorem get_set {h : Hp} {b b' : Blk} (hg : h.get id = some b) : Hp.get (h.set id (some b')) id = some b' := by
  have hl : id < h.length := by
    rcases Nat.lt_or_ge id h.length with hh | hh
    · exact hh
    · simp [Hp.get, List.getElem?_eq_none hh] at hg
  simp [Hp.get, hl]
theorem hset_same {h : Hp} {b : Blk} (hg : h.get id = some b) : h.set id (some b) = h := by
  apply List.ext_getElem?
  intro j
  rw [List.getElem?_set]
  split
  · rename_i e
    subst e
    split
    · rename_i hl
      simp only [Hp.get] at hg
      rw [List.getElem?_eq_getElem hl] at hg ⊢
      simp only [Option.getD_some] at hg
      rw [hg]
    · rename_i hl
      rw [List.getElem?_eq_none (by omega)]
  · rfl
theorem m_loop (r : Option R) (K : AX → St → Option R) : ∀ (n : Nat) {h : Hp} {xs : List Int} (_ : h.get id = some (.arr e f .i64 xs)) (_ : xs.length ≤ 4611686018427387904) {i k : Int} (_ : 0 ≤ i) (_ : i + n = xs.length) (_ : 0 ≤ k) (_ : k + n ≤ 4611686018427387904) (a2 a3 a4 a6 a7 a8 a9 a10 a11 a12 a13 a14 a15 a16 a17 a18 : PV),
    (∀ c6 c7 c8 c9 c10 c11 c12 c13 c14 c15 c16 c17 : PV, K (.ex 0) ⟨[.own id, .int .i64 (k + n), a2, a3, a4, .int .i64 (i + n), c6, c7, c8, c9, c10, c11, c12, c13, c14, c15, c16, c17, a18], h.set id (some (.arr e f .i64 (xs.take i.toNat ++ markL k (xs.drop i.toNat))))⟩ = r) →
    loopK E0 (exCode Tryz.prog E0 mB) mB ⟨[.own id, .int .i64 k, a2, a3, a4, .int .i64 i, a6, a7, a8, a9, a10, a11, a12, a13, a14, a15, a16, a17, a18], h⟩ K = r := by
  intro n
  induction n with
  | zero =>
    intro h xs hg hl i k hi hn hk hk' a2 a3 a4 a6 a7 a8 a9 a10 a11 a12 a13 a14 a15 a16 a17 a18 hr
    rw [loopK_eq, m_iter hg hl hi (by omega) hk (by omega), if_neg (by omega)]
    simp only
    have e1 : xs.take i.toNat ++ markL k (xs.drop i.toNat) = xs := by
      rw [List.drop_eq_nil_of_le (by omega), List.take_of_length_le (by omega)]
      simp [markL]
    rw [e1, hset_same hg] at hr
    have := hr (.int .i64 i) (.own id) (.int .i64 xs.length) (.bool false) a10 a11 a12 a13 a14 a15 a16 a17
    simpa using this
  | succ n ih =>
    intro h xs hg hl i k hi hn hk hk' a2 a3 a4 a6 a7 a8 a9 a10 a11 a12 a13 a14 a15 a16 a17 a18 hr
    rw [loopK_eq, m_iter hg hl hi (by omega) hk (by omega), if_pos (by omega)]
    simp only
    rw [cutK0 E0c]
    refine ih (get_set hg) (by rw [List.length_set]; exact hl) (by omega) (by rw [List.length_set]; omega) (by omega) (by omega) a2 a3 a4 _ _ _ _ _ _ _ _ _ _ _ _ a18 fun c6 c7 c8 c9 c10 c11 c12 c13 c14 c15 c16 c17 => ?_
    have := hr c6 c7 c8 c9 c10 c11 c12 c13 c14 c15 c16 c17
    rw [List.set_set]
    have hlt : i.toNat < xs.length := by omega
    have e1 : (xs.set i.toNat k).take (i + 1).toNat ++ markL (k + 1) ((xs.set i.toNat k).drop (i + 1).toNat) = xs.take i.toNat ++ markL k (xs.drop i.toNat) := by
      rw [show (i + 1).toNat = i.toNat + 1 by omega, List.drop_eq_getElem_cons hlt, markL, List.take_succ_eq_append_getElem (by simpa using hlt), List.append_assoc]
      congr 1
      · rw [List.take_set_of_le (Nat.le_refl _)]
      · rw [List.getElem_set_self, List.drop_set_of_lt (Nat.lt_succ_self _)]
        rfl
    rw [e1, show k + 1 + (n : Int) = k + ((n + 1 : Nat) : Int) by omega, show i + 1 + (n : Int) = i + ((n + 1 : Nat) : Int) by omega]
    exact this
end
noncomputable def mR0 : Code := sub (Tryz.f34.body.getD .skip) [0]
noncomputable def mR1 : Code := sub (Tryz.f34.body.getD .skip) [1, 0, 0]
noncomputable def mR6 : Code := sub (Tryz.f34.body.getD .skip) [1, 1, 0]
theorem m_body : Tryz.f34.body.getD .skip = .seq mR0 (.seq (.seq mR1 (.block 0 (.loop mB))) (.seq mR6 .ret)) := by kernel_rfl
theorem m_r0 {R : Type} (p0 p1 p2 p3 p4 p5 p6 p7 p8 p9 p10 p11 p12 p13 p14 p15 p16 p17 p18 : PV) (h : Hp) (K : AX → St → Option R) :
    exCode Tryz.prog E0 mR0 ⟨[p0, p1, p2, p3, p4, p5, p6, p7, p8, p9, p10, p11, p12, p13, p14, p15, p16, p17, p18], h⟩ K = K .norm ⟨[p0, p1, p2, p3, .int .i64 0, p5, p6, p7, p8, p9, p10, p11, p12, p13, p14, p15, p16, p17, p18], h⟩ := by kernel_rfl
theorem m_r1 {R : Type} (p0 p1 p2 p3 p4 p5 p6 p7 p8 p9 p10 p11 p12 p13 p14 p15 p16 p17 p18 : PV) (h : Hp) (K : AX → St → Option R) :
    exCode Tryz.prog E0 mR1 ⟨[p0, p1, p2, p3, p4, p5, p6, p7, p8, p9, p10, p11, p12, p13, p14, p15, p16, p17, p18], h⟩ K = K .norm ⟨[p0, p1, p2, p3, p4, .int .i64 0, p6, p7, p8, p9, p10, p11, p12, p13, p14, p15, p16, p17, p18], h⟩ := by kernel_rfl
theorem m_r6 {R : Type} (p0 p1 p2 p3 p4 p5 p6 p7 p8 p9 p10 p11 p12 p13 p14 p15 p16 p17 p18 : PV) (h : Hp) (K : AX → St → Option R) :
    exCode Tryz.prog E0 mR6 ⟨[p0, p1, p2, p3, p4, p5, p6, p7, p8, p9, p10, p11, p12, p13, p14, p15, p16, p17, p18], h⟩ K = K .norm ⟨[p0, p1, p2, p3, p1, p5, p6, p7, p8, p9, p10, p11, p12, p13, p14, p15, p16, p17, p1], h⟩ := by kernel_rfl
theorem m_end (p0 p1 p2 p3 p4 p5 p6 p7 p8 p9 p10 p11 p12 p13 p14 p15 p16 p17 p18 : PV) (h : Hp) :
    endW Tryz.prog Tryz.f34 .ret ⟨[p0, p1, p2, p3, p4, p5, p6, p7, p8, p9, p10, p11, p12, p13, p14, p15, p16, p17, p18], h⟩ = some (p4, h) := by kernel_rfl
theorem exSeq {R : Type} {x y : Code} {s : St} {K : AX → St → Option R} : exCode Tryz.prog E0 (.seq x y) s K = exCode Tryz.prog E0 x s (fun e s' => match e with | .norm => exCode Tryz.prog E0 y s' K | e => K e s') := by
  rw [exCode]
  congr 1
  funext e s'
  cases e <;> first | rfl | exact cutS0 E0c
theorem exBlock {R : Type} {i : Nat} {b : Code} {s : St} {K : AX → St → Option R} : exCode Tryz.prog E0 (.block i b) s K = exCode Tryz.prog E0 b s (fun e s' => match e with | .ex j => if j = i then K .norm s' else K (.ex j) s' | e => K e s') := by
  rw [exCode]
  congr 1
theorem exLoop {R : Type} {b : Code} {s : St} {K : AX → St → Option R} : exCode Tryz.prog E0 (.loop b) s K = loopK E0 (exCode Tryz.prog E0 b) b s K := by
  rw [exCode, cutK0 E0c]
theorem exRet {R : Type} {s : St} {K : AX → St → Option R} : exCode Tryz.prog E0 .ret s K = K .ret s := by rw [exCode]
theorem m_whole {p0 p1 : PV} {h : Hp} {r : Option (PV × Hp)} (hl : ∀ K : AX → St → Option (PV × Hp), (∀ c2 c3 c4 c6 c7 c8 c9 c10 c11 c12 c13 c14 c15 c16 c17 c18 k i q g, K (.ex 0) ⟨[q, k, c2, c3, c4, i, c6, c7, c8, c9, c10, c11, c12, c13, c14, c15, c16, c17, c18], g⟩ = some (k, g)) → loopK E0 (exCode Tryz.prog E0 mB) mB ⟨[p0, p1, .junk, .junk, .int .i64 0, .int .i64 0, .junk, .junk, .junk, .junk, .junk, .junk, .junk, .junk, .junk, .junk, .junk, .junk, .junk], h⟩ K = r) :
    exCode Tryz.prog E0 (Tryz.f34.body.getD .skip) ⟨[p0, p1] ++ List.replicate (Tryz.f34.ntmps - 2) .junk, h⟩ (endW Tryz.prog Tryz.f34) = r := by
  have e : List.replicate (Tryz.f34.ntmps - 2) PV.junk = [.junk, .junk, .junk, .junk, .junk, .junk, .junk, .junk, .junk, .junk, .junk, .junk, .junk, .junk, .junk, .junk, .junk] := by kernel_rfl
  rw [m_body, e, exSeq, List.cons_append, List.cons_append, List.nil_append, m_r0]
  simp only
  rw [exSeq, exSeq, m_r1]
  simp only
  rw [exBlock, exLoop]
  refine hl _ fun c2 c3 c4 c6 c7 c8 c9 c10 c11 c12 c13 c14 c15 c16 c17 c18 k i q g => ?_
  simp only [if_true]
  rw [exSeq, m_r6]
  simp only
  rw [exRet]
  exact m_end _ _ _ _ _ _ _ _ _ _ _ _ _ _ _ _ _ _ _ g
theorem ints_run {id : Nat} {e : TypeId} {f : Bool} {h : Hp} {xs : List Int} (hg : h.get id = some (.arr e f .i64 xs)) {k : Int} (hk : 0 ≤ k) (hk' : k + xs.length ≤ 4611686018427387904) :
    exCode Tryz.prog E0 (Tryz.f34.body.getD .skip) ⟨[.own id, .int .i64 k] ++ List.replicate (Tryz.f34.ntmps - 2) .junk, h⟩ (endW Tryz.prog Tryz.f34) = some (.int .i64 (k + xs.length), h.set id (some (.arr e f .i64 (markL k xs)))) :=
  m_whole fun K hK => m_loop _ K xs.length hg (by omega) (by omega) (by omega) hk hk' _ _ _ _ _ _ _ _ _ _ _ _ _ _ _ _ fun c6 c7 c8 c9 c10 c11 c12 c13 c14 c15 c16 c17 => hK _ _ _ _ _ _ _ _ _ _ _ _ _ _ _ _ _ _ _ _
theorem m_nil {R : Type} (h : Hp) (p1 : PV) (K : AX → St → Option R) : exCode Tryz.prog E0 mB ⟨[.nilS, p1, .junk, .junk, .int .i64 0, .int .i64 0, .junk, .junk, .junk, .junk, .junk, .junk, .junk, .junk, .junk, .junk, .junk, .junk, .junk], h⟩ K = K (.ex 0) ⟨[.nilS, p1, .junk, .junk, .int .i64 0, .int .i64 0, .int .i64 0, .nilS, .int .i64 0, .bool false, .junk, .junk, .junk, .junk, .junk, .junk, .junk, .junk, .junk], h⟩ := by kernel_rfl
theorem ints_nil {h : Hp} {k : Int} : exCode Tryz.prog E0 (Tryz.f34.body.getD .skip) ⟨[.nilS, .int .i64 k] ++ List.replicate (Tryz.f34.ntmps - 2) .junk, h⟩ (endW Tryz.prog Tryz.f34) = some (.int .i64 k, h) :=
  m_whole fun K hK => by
    rw [loopK_eq, m_nil]
    exact hK _ _ _ _ _ _ _ _ _ _ _ _ _ _ _ _ _ _ _ _
theorem w_markIntS_mk : MkOk Tryz.prog 34 .ints := by
  intro ps h h' p pin base w ρ us hk hI hH hus
  have fin : exCode Tryz.prog E0 (Tryz.f34.body.getD .skip) ⟨ps ++ List.replicate (Tryz.f34.ntmps - ps.length) .junk, h⟩ (endW Tryz.prog Tryz.f34) = some (p, h') := by
    unfold markK at hk
    split at hk
    · rename_i q k _
      unfold markI at hk
      split at hk
      · injection hk with hk; injection hk with h1 h2; subst h1; subst h2; exact ints_nil
      · split at hk
        · rename_i id e f xs hg
          split at hk
          · rename_i hc
            injection hk with hk; injection hk with h1 h2; subst h1; subst h2
            exact ints_run hg hc.1 hc.2
          · cases hk
        · cases hk
      · cases hk
    all_goals first | (rename_i hm _; cases hm; done) | (rename_i hm; cases hm; done) | (cases hk; done) | contradiction
  exact wr_of (E := E0) E0_ok E0c follows_ (fn := Tryz.f34) (c := Tryz.f34.body.getD .skip) (by kernel_rfl) (by kernel_rfl) rfl fin hI hH hus
noncomputable def E1 : Env' := withWr E0 (fun f => if f = 34 then some .ints else none)
theorem E1c : E1.cuts = [] := rfl
theorem e1_mine (d : Option Nat) : (d.map E1.mine).getD false = false := by cases d <;> rfl
theorem E1_ok : EnvOk Tryz.prog E1 := withWr_ok E0_ok (tab_cons w_markIntS_mk tab_none)
theorem get_last (h : Hp) (b : Option Blk) : Hp.get (h ++ [b]) h.length = b := by simp [Hp.get]
theorem e1_call {R : Type} {p : PV} {k : Int} {mn : Bool} {h : Hp} {K : PV → Hp → Option R} : callK E1 34 [p, .int .i64 k] mn h K = markI p k h fun k h => K (.int .i64 k) h := by kernel_rfl
noncomputable def pC : Code := Tryz.f19.body.getD .skip
theorem p_o0 : offOf Tryz.prog 27 0 = some (0, 25) := by kernel_rfl
theorem p_o2 : offOf Tryz.prog 27 2 = some (2, 25) := by kernel_rfl
theorem p_sz : szOf Tryz.prog 25 = 1 := by kernel_rfl
theorem p_load {R : Type} {h : Hp} {id off : Nat} {t : TypeId} {cells : List PV} {p : PV} (hg : h.get id = some (.box t cells)) (hp : cells[off]? = some p) (K : PV → Option R) : loadK Tryz.prog 25 (.ptr id off) h K = K p := by
  have hu : ∃ u, Tryz.prog.underlying 25 = some u := ⟨_, Tryz.underlying25⟩
  obtain ⟨u, hu⟩ := hu
  have ha : isAggB Tryz.prog 25 = false := by kernel_rfl
  simp only [loadK, hg, readK, hu, ha, Bool.false_eq_true, if_false, hp]
theorem p_run {R : Type} {p q : PV} {x k k1 : Int} {h h2 : Hp} (hp : oneP p = true) (hq : oneP q = true) (h1 : ∀ (R : Type) (F : Int → Hp → Option R), markI p k (h ++ [some (.box 27 [p, .int .i64 x, q])]) F = F k1 h2) (hb : Hp.get h2 h.length = some (.box 27 [p, .int .i64 x, q])) (K : AX → St → Option R) (a2 a3 a4 a5 a6 a7 a8 a9 a10 a11 a12 a13 : PV) :
    ∃ G : PV → List PV, (∀ v, (G v).getD 4 .junk = v) ∧ exCode Tryz.prog E1 pC ⟨[.agg [p, .int .i64 x, q], .int .i64 k, a2, a3, a4, a5, a6, a7, a8, a9, a10, a11, a12, a13], h⟩ K = markI q k1 h2 fun k h => K .ret ⟨G (.int .i64 k), h⟩ := by
  have hi : oneP (.int .i64 x) = true := rfl
  refine ⟨fun v => [.agg [p, .int .i64 x, q], v, .ptr h.length 0, a3, v, .ptr h.length 0, p, .int .i64 k, .int .i64 k1, .ptr h.length 2, q, .int .i64 k1, v, v], fun v => rfl, ?_⟩
  simp only [pC, Tryz.f19, Option.getD_some, exCode, cutS0 E1c]
  simp only [regOrd, Bool.false_eq_true, if_false, exOps, opK, ev, ofVal, cellsOf, List.all_cons, List.all_nil, hp, hq, hi, Bool.and_true, if_true, List.getD_cons_zero, List.getD_cons_succ, putT, List.set_cons_zero, List.set_cons_succ, e1_mine, p_o0, p_o2, p_sz, Nat.one_ne_zero]
  rw [p_load (get_last h _) (by rfl)]
  simp only [List.map_cons, List.map_nil, ev, List.getD_cons_zero, List.getD_cons_succ, e1_call, h1]
  rw [p_load hb (by rfl)]
theorem markI_some {p : PV} {k : Int} {h : Hp} {R : Type} {F : Int → Hp → Option R} {r : R} (hk : markI p k h F = some r) : oneP p = true ∧ ∃ k1 h2, (∀ (R : Type) (F : Int → Hp → Option R), markI p k h F = F k1 h2) ∧ F k1 h2 = some r ∧ ∀ id t cells, h.get id = some (.box t cells) → h2.get id = some (.box t cells) := by
  unfold markI at hk
  split at hk
  · exact ⟨rfl, k, h, fun _ _ => rfl, hk, fun _ _ _ hb => hb⟩
  · rename_i id
    split at hk
    · rename_i e f xs hg
      split at hk
      · rename_i hc
        refine ⟨rfl, _, _, fun R F => ?_, hk, fun j t cells hb => ?_⟩
        · simp only [markI, hg, hc, and_self, if_true]
        · by_cases e : j = id
          · subst e; rw [hg] at hb; cases hb
          · simp only [Hp.get] at hb ⊢
            rw [List.getElem?_set_ne (Ne.symm e)]
            exact hb
      · cases hk
    · cases hk
  · cases hk
theorem w_markPlace_mk : MkOk Tryz.prog 19 (.place 27) := by
  intro ps h h' p pin base w ρ us hk hI hH hus
  have fin : exCode Tryz.prog E1 (Tryz.f19.body.getD .skip) ⟨ps ++ List.replicate (Tryz.f19.ntmps - ps.length) .junk, h⟩ (endW Tryz.prog Tryz.f19) = some (p, h') := by
    unfold markK at hk
    split at hk
    case h_2 t p0 x q k he =>
      injection he with he
      subst he
      obtain ⟨o1, k1, h2, g1, g2, g3⟩ := markI_some hk
      obtain ⟨o2, k3, h4, g4, g5, g6⟩ := markI_some g2
      have hb := g3 h.length _ _ (get_last h _)
      obtain ⟨G, hG, hrun⟩ := p_run (q := q) (x := x) o1 o2 g1 hb (endW Tryz.prog Tryz.f19) .junk .junk .junk .junk .junk .junk .junk .junk .junk .junk .junk .junk
      have e : List.replicate (Tryz.f19.ntmps - 2) PV.junk = [.junk, .junk, .junk, .junk, .junk, .junk, .junk, .junk, .junk, .junk, .junk, .junk] := by kernel_rfl
      refine Eq.trans (congrArg (fun t => exCode Tryz.prog E1 (Tryz.f19.body.getD .skip) ⟨t, h⟩ (endW Tryz.prog Tryz.f19)) (show _ = [.agg [p0, .int .i64 x, q], .int .i64 k, .junk, .junk, .junk, .junk, .junk, .junk, .junk, .junk, .junk, .junk, .junk, .junk] from congrArg ([PV.agg [p0, .int .i64 x, q], .int .i64 k] ++ ·) e)) ?_
      refine hrun.trans ?_
      rw [g4]
      injection g5 with g5
      injection g5 with g5 g7
      subst g5; subst g7
      have hr : Tryz.f19.results.toList = [.tmp 4] := by kernel_rfl
      simp only [endW, hr, resPs, Option.map_some, Option.bind_some, hG]
    all_goals first | (cases hk; done) | (rename_i he; cases he; done) | (rename_i he _; cases he; done) | contradiction
  exact wr_of (E := E1) E1_ok E1c follows_ (fn := Tryz.f19) (c := Tryz.f19.body.getD .skip) (by kernel_rfl) (by kernel_rfl) rfl fin hI hH hus
end FN
