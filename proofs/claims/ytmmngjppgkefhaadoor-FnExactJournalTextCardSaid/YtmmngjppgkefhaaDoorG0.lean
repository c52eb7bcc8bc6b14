/- Texts of the proof, joined: The functions, their equations and contracts. -/
import Derived.KernelRfl
import Derived.Test.YtmmngjppgkefhaaDoorProg
import Derived.Test.YtmmngjppgkefhaaDoorS0
set_option linter.unusedVariables false
set_option linter.unusedSimpArgs false
set_option linter.unusedSectionVars false
namespace FN
open Go Go.Proofs
def mkT (n : Nat) (l : List (Nat × PV)) : List PV := (List.range n).map fun i => (l.lookup i).getD .junk
def ckT (t : TypeId) : Option CK := if t = 3 then some .i64 else if t = 5 then some .u8 else if t = 9 then some .str else if t = 23 then some .deed else if t = 25 then some .deed else if t = 37 then some .place else if t = 40 then some .place else none
instance : Gl := ⟨fun _ => True, fun _ => True, fun _ _ _ _ _ => trivial⟩
theorem follows_ : Tryd.prog.follows .mixedOrders = true := by kernel_rfl
theorem rd_head {x b : List Int} {l ps : List PV} (h : (PV.row false .u8 x :: l) = PV.row false .u8 b :: ps) : x = b := by
  injection h with h _
  injection h
theorem fn_none {P : Program} : ∀ (f : FuncId) (c : Ctr'), (none : Option Ctr') = some c → CtrOk P f c ∧ Entb P f := fun _ _ h => by cases h
theorem fn_cons {P : Program} {f0 : FuncId} {c0 : Ctr'} (h0 : CtrOk P f0 c0 ∧ Entb P f0) {g : FuncId → Option Ctr'} (hg : ∀ f c, g f = some c → CtrOk P f c ∧ Entb P f) : ∀ f c, (if f = f0 then some c0 else g f) = some c → CtrOk P f c ∧ Entb P f := by
  intro f c h
  split at h
  · rename_i e; injection h with h; subst e; subst h; exact h0
  · exact hg f c h
theorem lim_some {α : Type} {g : Nat → Option α} {r : α} (h : lim g = some r) : ∃ n, g n = some r := by
  unfold lim at h
  split at h
  · exact ⟨_, h⟩
  · cases h
theorem lim_of {α : Type} {g : Nat → Option α} {v : α} (h : ∃ n, g n = some v) (u : ∀ n r, g n = some r → r = v) : lim g = some v := by
  obtain ⟨n, hn⟩ := h
  have hx : ∃ n r, g n = some r := ⟨n, v, hn⟩
  obtain ⟨r, hr⟩ := hx.choose_spec
  have : lim g = g hx.choose := dif_pos hx
  rw [this, hr, u _ r hr]
theorem clo_none {P : Program} {E : Env'} (h : E.clo = fun _ _ _ _ _ => none := by rfl) : CloOk P E := by
  intro f ps hp h' pin base w ρ args hc
  rw [h] at hc
  cases hc
def str0 : ByteArray := ⟨#[106, 111, 105, 110, 32]⟩
def str1 : ByteArray := ⟨#[32]⟩
def str2 : ByteArray := ⟨#[108, 105, 103, 104, 116, 32]⟩
def str3 : ByteArray := ⟨#[107, 105, 110, 100, 115, 32]⟩
def str4 : ByteArray := ⟨#[115, 116, 101, 112]⟩
def str5 : ByteArray := ⟨#[98, 97, 99, 107]⟩
def str6 : ByteArray := ⟨#[48, 49, 50, 51, 52, 53, 54, 55, 56, 57, 97, 98, 99, 100, 101, 102, 103, 104, 105, 106, 107, 108, 109, 110, 111, 112, 113, 114, 115, 116, 117, 118, 119, 120, 121, 122]⟩
def str7 : ByteArray := ⟨#[48, 48, 48, 49, 48, 50, 48, 51, 48, 52, 48, 53, 48, 54, 48, 55, 48, 56, 48, 57, 49, 48, 49, 49, 49, 50, 49, 51, 49, 52, 49, 53, 49, 54, 49, 55, 49, 56, 49, 57, 50, 48, 50, 49, 50, 50, 50, 51, 50, 52, 50, 53, 50, 54, 50, 55, 50, 56, 50, 57, 51, 48, 51, 49, 51, 50, 51, 51, 51, 52, 51, 53, 51, 54, 51, 55, 51, 56, 51, 57, 52, 48, 52, 49, 52, 50, 52, 51, 52, 52, 52, 53, 52, 54, 52, 55, 52, 56, 52, 57, 53, 48, 53, 49, 53, 50, 53, 51, 53, 52, 53, 53, 53, 54, 53, 55, 53, 56, 53, 57, 54, 48, 54, 49, 54, 50, 54, 51, 54, 52, 54, 53, 54, 54, 54, 55, 54, 56, 54, 57, 55, 48, 55, 49, 55, 50, 55, 51, 55, 52, 55, 53, 55, 54, 55, 55, 55, 56, 55, 57, 56, 48, 56, 49, 56, 50, 56, 51, 56, 52, 56, 53, 56, 54, 56, 55, 56, 56, 56, 57, 57, 48, 57, 49, 57, 50, 57, 51, 57, 52, 57, 53, 57, 54, 57, 55, 57, 56, 57, 57]⟩
def str8 : ByteArray := ⟨#[0, 1, 2, 2, 3, 3, 3, 3, 4, 4, 4, 4, 4, 4, 4, 4, 5, 5, 5, 5, 5, 5, 5, 5, 5, 5, 5, 5, 5, 5, 5, 5, 6, 6, 6, 6, 6, 6, 6, 6, 6, 6, 6, 6, 6, 6, 6, 6, 6, 6, 6, 6, 6, 6, 6, 6, 6, 6, 6, 6, 6, 6, 6, 6, 7, 7, 7, 7, 7, 7, 7, 7, 7, 7, 7, 7, 7, 7, 7, 7, 7, 7, 7, 7, 7, 7, 7, 7, 7, 7, 7, 7, 7, 7, 7, 7, 7, 7, 7, 7, 7, 7, 7, 7, 7, 7, 7, 7, 7, 7, 7, 7, 7, 7, 7, 7, 7, 7, 7, 7, 7, 7, 7, 7, 7, 7, 7, 7, 8, 8, 8, 8, 8, 8, 8, 8, 8, 8, 8, 8, 8, 8, 8, 8, 8, 8, 8, 8, 8, 8, 8, 8, 8, 8, 8, 8, 8, 8, 8, 8, 8, 8, 8, 8, 8, 8, 8, 8, 8, 8, 8, 8, 8, 8, 8, 8, 8, 8, 8, 8, 8, 8, 8, 8, 8, 8, 8, 8, 8, 8, 8, 8, 8, 8, 8, 8, 8, 8, 8, 8, 8, 8, 8, 8, 8, 8, 8, 8, 8, 8, 8, 8, 8, 8, 8, 8, 8, 8, 8, 8, 8, 8, 8, 8, 8, 8, 8, 8, 8, 8, 8, 8, 8, 8, 8, 8, 8, 8, 8, 8, 8, 8, 8, 8, 8, 8, 8, 8, 8, 8, 8, 8, 8, 8, 8, 8]⟩
def str9 : ByteArray := ⟨#[115, 116, 114, 99, 111, 110, 118, 58, 32, 105, 108, 108, 101, 103, 97, 108, 32, 65, 112, 112, 101, 110, 100, 73, 110, 116, 47, 70, 111, 114, 109, 97, 116, 73, 110, 116, 32, 98, 97, 115, 101]⟩
def str10 : ByteArray := ⟨#[106, 111, 105, 110]⟩
def str11 : ByteArray := ⟨#[108, 105, 103, 104, 116]⟩
def str12 : ByteArray := ⟨#[107, 105, 110, 100, 115]⟩
def str13 : ByteArray := ⟨#[10]⟩
def str14 : ByteArray := ⟨#[44]⟩
def str15 : ByteArray := ⟨#[46]⟩
def str16 : ByteArray := ⟨#[115, 116, 114, 105, 110, 103, 115, 58, 32, 74, 111, 105, 110, 32, 111, 117, 116, 112, 117, 116, 32, 108, 101, 110, 103, 116, 104, 32, 111, 118, 101, 114, 102, 108, 111, 119]⟩
end FN
set_option linter.unusedVariables false
namespace FN
open Go Go.Proofs
/-! loop.example/firingnets/spec.l1In -/
@[reducible] def s_l1In_sig : Sig := { ps := [none, none, none], pc := [.int .i64, .int .i64, .int .i64], rs := [none], rc := [.bool] }
noncomputable def s_l1In_E : Env' := { fn := fun f => none, ck := ckT, cuts := [], mine := fun i => false }
noncomputable def s_l1In_f (x : Ts s_l1In_sig.pc) : Option (Ts s_l1In_sig.rc) := runFn Tryd.prog (s_l1In_E) Tryd.f63 s_l1In_sig x
theorem s_l1In_f_eq (x0 : (Int)) (x1 : (Int)) (x2 : (Int)) : s_l1In_f (x0, x1, x2) = (cond ((decide (x1 ≤ x0))) (some (decide (x0 ≤ x2))) (some false)) := by
  kernel_rfl
theorem s_l1In_ent : Entb Tryd.prog 63 := ⟨Tryd.f63, by kernel_rfl, by kernel_rfl, by kernel_rfl⟩
theorem s_l1In_ok : CtrOk Tryd.prog 63 ⟨s_l1In_sig, s_l1In_f⟩ :=
  ctr_of (fn := Tryd.f63) (by kernel_rfl) (by kernel_rfl) (fun x : Ts s_l1In_sig.pc => s_l1In_E) (fun x => ⟨fn_none, clo_none⟩) (fun h => by cases h) follows_ (fun _ _ => trivial)
end FN
/-! strconv.Itoa, at 0 .. 99: the shelf's contract, as one of ours. -/
namespace FN
open Go Go.Proofs
theorem flatV_one {l fl : List Value} (h : flatV [none] l = some fl) : ∃ p, l = [p] ∧ fl = [p] := by
  cases l with
  | nil => simp [flatV] at h
  | cons p ps =>
    cases ps with
    | nil => exact ⟨p, rfl, by simpa [flatV] using h.symm⟩
    | cons q ps => simp [flatV] at h
@[reducible] def x_strconv_Itoa_sig : Sig := { ps := [none], pc := [.int .i64], rs := [none], rc := [.str] }
def itoaS (n : Int) : ByteArray := ⟨(Lib.decDigits n.toNat).toArray⟩
def x_strconv_Itoa_f (n : Ts x_strconv_Itoa_sig.pc) : Option (Ts x_strconv_Itoa_sig.rc) := if (0 : Int) ≤ n ∧ (n : Int) < 100 then some (itoaS n) else none
theorem x_strconv_Itoa_f_eq (n : Int) : x_strconv_Itoa_f n = if (0 : Int) ≤ n ∧ (n : Int) < 100 then some (itoaS n) else none := rfl
theorem x_strconv_Itoa_ent : Entb Tryd.prog 65 := ⟨Tryd.f65, by kernel_rfl, by kernel_rfl, by kernel_rfl⟩
theorem x_strconv_Itoa_ok : CtrOk Tryd.prog 65 ⟨x_strconv_Itoa_sig, x_strconv_Itoa_f⟩ := by
  intro w okc args bx x r hI hA hr
  obtain ⟨rfl, fl, h1, h2⟩ := (show bx = none ∧ ∃ fl, flatV [none] args.toList = some fl ∧ F2 (V1 (av w okc)) [PV.int .i64 x] fl from hA)
  obtain ⟨p, h3, rfl⟩ := flatV_one h1
  cases h2 with
  | cons hp _ =>
    have hp : p = .int .i64 x := hp
    subst hp
    have hx : (if (0 : Int) ≤ x ∧ (x : Int) < 100 then some (itoaS x) else none) = some r := hr
    split at hx
    · rename_i hc
      injection hx with hx
      subst hx
      have hargs : args = #[.int .i64 ((x : Int).toNat : Int)] := by
        apply Array.ext'
        rw [h3, Int.toNat_of_nonneg hc.1]
      rw [hargs]
      refine (Tryd.strconv_Itoa_small (x : Int).toNat (by have h5 : (0 : Int) ≤ x := hc.1; have h6 : (x : Int) < 100 := hc.2; exact (Int.toNat_lt h5).2 h6) w).mono ?_
      rintro e w' ⟨rfl, rfl⟩
      exact ⟨_, rfl, ⟨[.string (itoaS x)], fun _ => False, ⟨_, rfl, rfl⟩, fun i j u u' g hu => by simp [rowsV] at hu, fun k h => h, [.string (itoaS x)], rfl, rfl⟩, Kp.refl _ _ _⟩
    · cases hx
end FN
set_option linter.unusedVariables false
namespace FN
open Go Go.Proofs
/-! loop.example/firingnets/spec.l1Number -/
@[reducible] def s_l1Number_sig : Sig := { ps := [none], pc := [.int .i64], rs := [none], rc := [.str] }
noncomputable def s_l1Number_E (g : Ts s_l1Number_sig.pc → Option (Ts s_l1Number_sig.rc)) : Env' := { fn := fun f => if f = 64 then some ⟨s_l1Number_sig, g⟩ else none, ck := ckT, cuts := [], mine := fun i => false }
noncomputable def s_l1Number_g (n : Nat) : Ts s_l1Number_sig.pc → Option (Ts s_l1Number_sig.rc) := Nat.rec (fun _ => none) (fun _ ih x => runFn Tryd.prog (s_l1Number_E ih) Tryd.f64 s_l1Number_sig x) n
theorem s_l1Number_g_eq (n : Nat) (x0 : (Int)) : s_l1Number_g (n + 1) x0 = (cond ((decide (x0 < 10))) (some (strOfNums ([(IntKind.u8.wrap (IntKind.i64.wrap (48 + (if 0 > x0 then 0 else x0))))] : List (Int)))) (Option.bind (s_l1Number_g n (IntKind.i64.wrap (Int.tdiv x0 10))) fun r1 => (if ByteArray.size r1 + ByteArray.size (strOfNums ([(IntKind.u8.wrap (IntKind.i64.wrap (48 + (Int.tmod x0 10))))] : List (Int))) ≤ 9223372036854775807 then (some (r1 ++ (strOfNums ([(IntKind.u8.wrap (IntKind.i64.wrap (48 + (Int.tmod x0 10))))] : List (Int))))) else none))) := by
  refine Eq.trans (b := (cond ((decide (x0 < 10))) (some (strOfNums ([(IntKind.u8.wrap (IntKind.i64.wrap (48 + (if 0 > x0 then 0 else x0))))] : List (Int)))) (same [(Option.bind (s_l1Number_g n (IntKind.i64.wrap (Int.tdiv x0 10))) fun r1 => (if ByteArray.size r1 + ByteArray.size (strOfNums ([(IntKind.u8.wrap (IntKind.i64.wrap (48 + (Int.tmod x0 10))))] : List (Int))) ≤ 9223372036854775807 then (some (r1 ++ (strOfNums ([(IntKind.u8.wrap (IntKind.i64.wrap (48 + (Int.tmod x0 10))))] : List (Int))))) else none)), (same [(Option.bind (s_l1Number_g n (IntKind.i64.wrap (Int.tdiv x0 10))) fun r1 => (if ByteArray.size r1 + ByteArray.size (strOfNums ([(IntKind.u8.wrap (IntKind.i64.wrap (48 + (Int.tmod x0 10))))] : List (Int))) ≤ 9223372036854775807 then (some (r1 ++ (strOfNums ([(IntKind.u8.wrap (IntKind.i64.wrap (48 + (Int.tmod x0 10))))] : List (Int))))) else none)), (same [(Option.bind (s_l1Number_g n (IntKind.i64.wrap (Int.tdiv x0 10))) fun r1 => (if ByteArray.size r1 + ByteArray.size (strOfNums ([(IntKind.u8.wrap (IntKind.i64.wrap (48 + (Int.tmod x0 10))))] : List (Int))) ≤ 9223372036854775807 then (some (r1 ++ (strOfNums ([(IntKind.u8.wrap (IntKind.i64.wrap (48 + (Int.tmod x0 10))))] : List (Int))))) else none)), (Option.bind (s_l1Number_g n (IntKind.i64.wrap (Int.tdiv x0 10))) fun r1 => (if ByteArray.size r1 + ByteArray.size (strOfNums ([(IntKind.u8.wrap (IntKind.i64.wrap (48 + (Int.tmod x0 10))))] : List (Int))) ≤ 9223372036854775807 then (some (r1 ++ (strOfNums ([(IntKind.u8.wrap (IntKind.i64.wrap (48 + (Int.tmod x0 10))))] : List (Int))))) else none))])])]))) (by kernel_rfl) ?_
  simp only [same2, same3, same4, same5, same6, obind_ite]
noncomputable def s_l1Number_f (x : Ts s_l1Number_sig.pc) : Option (Ts s_l1Number_sig.rc) := lim fun n => s_l1Number_g n x
theorem s_l1Number_ent : Entb Tryd.prog 64 := ⟨Tryd.f64, by kernel_rfl, by kernel_rfl, by kernel_rfl⟩
theorem s_l1Number_gok : ∀ n, CtrOk Tryd.prog 64 ⟨s_l1Number_sig, s_l1Number_g n⟩
  | 0 => fun _ _ _ _ _ _ _ _ h => by cases h
  | n + 1 => ctr_of (fn := Tryd.f64) (by kernel_rfl) (by kernel_rfl) (fun _ : Ts s_l1Number_sig.pc => s_l1Number_E (s_l1Number_g n)) (fun _ => ⟨(fn_cons ⟨s_l1Number_gok n, s_l1Number_ent⟩ fn_none), clo_none⟩) (fun h => by cases h) follows_ (fun _ _ => trivial)
theorem s_l1Number_ok : CtrOk Tryd.prog 64 ⟨s_l1Number_sig, s_l1Number_f⟩ := fun w okc args bx x r hI hA hr => by
  obtain ⟨n, hn⟩ := lim_some (g := fun n => s_l1Number_g n x) hr
  exact s_l1Number_gok n w okc args bx x r hI hA hn
end FN
set_option linter.unusedVariables false
namespace FN
open Go Go.Proofs
/-! loop.example/firingnets/spec.DeedText -/
@[reducible] def s_DeedText_sig : Sig := { ps := [some 3], pc := [.int .i64, .int .i64, .int .i64], rs := [none], rc := [.str] }
noncomputable def s_DeedText_E : Env' := { fn := fun f => if f = 63 then some ⟨s_l1In_sig, s_l1In_f⟩ else if f = 64 then some ⟨s_l1Number_sig, s_l1Number_f⟩ else none, ck := ckT, cuts := [], mine := fun i => false }
noncomputable def s_DeedText_f (x : Ts s_DeedText_sig.pc) : Option (Ts s_DeedText_sig.rc) := runFn Tryd.prog (s_DeedText_E) Tryd.f15 s_DeedText_sig x
theorem s_DeedText_f_eq (x0 : (Int)) (x1 : (Int)) (x2 : (Int)) : s_DeedText_f (x0, x1, x2) = (Option.bind (s_l1In_f (x1, 0, 99)) fun r1 => (cond ((!r1)) (some ByteArray.empty) (Option.bind (s_l1In_f (x2, 0, 99)) fun r2 => (cond ((!r2)) (some ByteArray.empty) (cond (((x0 == 0) && ((x1 == x1) && ((x2 == x2) && true)))) (Option.bind (s_l1Number_f x1) fun r3 => (if ByteArray.size str0 + ByteArray.size r3 ≤ 9223372036854775807 then (if ByteArray.size (str0 ++ r3) + ByteArray.size str1 ≤ 9223372036854775807 then (Option.bind (s_l1Number_f x2) fun r4 => (if ByteArray.size ((str0 ++ r3) ++ str1) + ByteArray.size r4 ≤ 9223372036854775807 then (some (((str0 ++ r3) ++ str1) ++ r4)) else none)) else none) else none)) (cond (((x0 == 1) && ((x1 == x1) && ((x2 == 0) && true)))) (Option.bind (s_l1Number_f x1) fun r5 => (if ByteArray.size str2 + ByteArray.size r5 ≤ 9223372036854775807 then (some (str2 ++ r5)) else none)) (cond (((x0 == 3) && ((x1 == x1) && ((x2 == 0) && true)))) (Option.bind (s_l1Number_f x1) fun r6 => (if ByteArray.size str3 + ByteArray.size r6 ≤ 9223372036854775807 then (some (str3 ++ r6)) else none)) (cond (((x0 == 2) && ((x1 == 0) && ((x2 == 0) && true)))) (some str4) (cond (((x0 == 4) && ((x1 == 0) && ((x2 == 0) && true)))) (some str5) (some ByteArray.empty)))))))))) := by
  kernel_rfl
theorem s_DeedText_ent : Entb Tryd.prog 15 := ⟨Tryd.f15, by kernel_rfl, by kernel_rfl, by kernel_rfl⟩
theorem s_DeedText_ok : CtrOk Tryd.prog 15 ⟨s_DeedText_sig, s_DeedText_f⟩ :=
  ctr_of (fn := Tryd.f15) (by kernel_rfl) (by kernel_rfl) (fun x : Ts s_DeedText_sig.pc => s_DeedText_E) (fun x => ⟨(fn_cons ⟨s_l1In_ok, s_l1In_ent⟩ (fn_cons ⟨s_l1Number_ok, s_l1Number_ent⟩ fn_none)), clo_none⟩) (fun h => by cases h) follows_ (fun _ _ => trivial)
end FN
set_option linter.unusedVariables false
namespace FN
open Go Go.Proofs
/-! loop.example/firingnets/impl.DeedText -/
@[reducible] def i_DeedText_sig : Sig := { ps := [some 3], pc := [.int .i64, .int .i64, .int .i64], rs := [none], rc := [.str] }
noncomputable def i_DeedText_E : Env' := { fn := fun f => if f = 65 then some ⟨x_strconv_Itoa_sig, x_strconv_Itoa_f⟩ else none, ck := ckT, cuts := [], mine := fun i => false }
noncomputable def i_DeedText_f (x : Ts i_DeedText_sig.pc) : Option (Ts i_DeedText_sig.rc) := runFn Tryd.prog (i_DeedText_E) Tryd.f17 i_DeedText_sig x
theorem i_DeedText_f_eq (x0 : (Int)) (x1 : (Int)) (x2 : (Int)) : i_DeedText_f (x0, x1, x2) = (cond ((decide (x1 < 0))) (some ByteArray.empty) (cond ((decide (99 < x1))) (some ByteArray.empty) (cond ((decide (x2 < 0))) (some ByteArray.empty) (cond ((decide (99 < x2))) (some ByteArray.empty) (Option.bind (x_strconv_Itoa_f x1) fun r1 => (if ByteArray.size str1 + ByteArray.size r1 ≤ 9223372036854775807 then (cond ((x0 == 0)) (if ByteArray.size str10 + ByteArray.size (str1 ++ r1) ≤ 9223372036854775807 then (if ByteArray.size (str10 ++ (str1 ++ r1)) + ByteArray.size str1 ≤ 9223372036854775807 then (Option.bind (x_strconv_Itoa_f x2) fun r2 => (if ByteArray.size ((str10 ++ (str1 ++ r1)) ++ str1) + ByteArray.size r2 ≤ 9223372036854775807 then (some (((str10 ++ (str1 ++ r1)) ++ str1) ++ r2)) else none)) else none) else none) (cond ((x2 != 0)) (some ByteArray.empty) (cond ((x0 == 1)) (if ByteArray.size str11 + ByteArray.size (str1 ++ r1) ≤ 9223372036854775807 then (some (str11 ++ (str1 ++ r1))) else none) (cond ((x0 == 3)) (if ByteArray.size str12 + ByteArray.size (str1 ++ r1) ≤ 9223372036854775807 then (some (str12 ++ (str1 ++ r1))) else none) (cond ((x1 != 0)) (some ByteArray.empty) (cond ((x0 == 2)) (some str4) (cond ((x0 == 4)) (some str5) (some ByteArray.empty)))))))) else none)))))) := by
  kernel_rfl
theorem i_DeedText_ent : Entb Tryd.prog 17 := ⟨Tryd.f17, by kernel_rfl, by kernel_rfl, by kernel_rfl⟩
theorem i_DeedText_ok : CtrOk Tryd.prog 17 ⟨i_DeedText_sig, i_DeedText_f⟩ :=
  ctr_of (fn := Tryd.f17) (by kernel_rfl) (by kernel_rfl) (fun x : Ts i_DeedText_sig.pc => i_DeedText_E) (fun x => ⟨(fn_cons ⟨x_strconv_Itoa_ok, x_strconv_Itoa_ent⟩ fn_none), clo_none⟩) (fun h => by cases h) follows_ (fun _ _ => trivial)
end FN
set_option linter.unusedVariables false
namespace FN
open Go Go.Proofs
/-! loop.example/firingnets/impl.JournalText -/
@[reducible] def i_JournalText_sig : Sig := { ps := [none], pc := [.view .deed], rs := [none], rc := [.str] }
noncomputable def i_JournalText_E : Env' := { fn := fun f => if f = 17 then some ⟨i_DeedText_sig, i_DeedText_f⟩ else none, ck := ckT, cuts := [(3, [3, 7, 8, 9])], mine := fun i => false }
noncomputable def i_JournalText_f (x : Ts i_JournalText_sig.pc) : Option (Ts i_JournalText_sig.rc) := runFn Tryd.prog (i_JournalText_E) Tryd.f21 i_JournalText_sig x
noncomputable def i_JournalText_l0 (y0 : ByteArray) (y1 : List (Int × Int × Int)) (y2 : Int) (y3 : Int) : Option ((ByteArray)) := from_ Tryd.prog (i_JournalText_E) Tryd.f21 i_JournalText_sig [1, 1, 0, 1, 0] ⟨mkT 23 [(3, .str y0), (7, .row false .deed y1), (8, .int .i64 y2), (9, .int .i64 y3)], []⟩
theorem i_JournalText_f_eq (x0 : (List (Int × Int × Int))) : i_JournalText_f x0 = (i_JournalText_l0 ByteArray.empty x0 (List.length x0 : Int) 0) := by
  kernel_rfl
theorem i_JournalText_l0_eq (y0 : ByteArray) (y1 : List (Int × Int × Int)) (y2 : Int) (y3 : Int) : i_JournalText_l0 y0 y1 y2 y3 = (cond ((decide (y3 < y2))) (if (0 : Int) ≤ y3 ∧ y3 < (List.length y1 : Int) then (Option.bind (i_DeedText_f ((List.getD y1 (y3 : Int).toNat (0, 0, 0)).1, (List.getD y1 (y3 : Int).toNat (0, 0, 0)).2.1, (List.getD y1 (y3 : Int).toNat (0, 0, 0)).2.2)) fun r1 => (cond ((ByteArray.toList r1 == ByteArray.toList ByteArray.empty)) (some ByteArray.empty) (if ByteArray.size r1 + ByteArray.size str13 ≤ 9223372036854775807 then (if ByteArray.size y0 + ByteArray.size (r1 ++ str13) ≤ 9223372036854775807 then (i_JournalText_l0 (y0 ++ (r1 ++ str13)) y1 y2 (IntKind.i64.wrap (y3 + 1))) else none) else none))) else none) (some y0)) := by
  refine (loopK_eq Tryd.prog (i_JournalText_E) (sub (Tryd.f21.body.getD .skip) [1, 1, 0, 1, 0, 0]) _ _).trans ?_
  kernel_rfl
theorem i_JournalText_ent : Entb Tryd.prog 21 := ⟨Tryd.f21, by kernel_rfl, by kernel_rfl, by kernel_rfl⟩
theorem i_JournalText_ok : CtrOk Tryd.prog 21 ⟨i_JournalText_sig, i_JournalText_f⟩ :=
  ctr_of (fn := Tryd.f21) (by kernel_rfl) (by kernel_rfl) (fun x : Ts i_JournalText_sig.pc => i_JournalText_E) (fun x => ⟨(fn_cons ⟨i_DeedText_ok, i_DeedText_ent⟩ fn_none), clo_none⟩) (fun h => by cases h) follows_ (fun _ _ => trivial)
end FN
set_option linter.unusedVariables false
namespace FN
open Go Go.Proofs
/-! loop.example/firingnets/spec.JournalText -/
@[reducible] def s_JournalText_sig : Sig := { ps := [none], pc := [.view .deed], rs := [none], rc := [.str] }
noncomputable def s_JournalText_E : Env' := { fn := fun f => if f = 15 then some ⟨s_DeedText_sig, s_DeedText_f⟩ else none, ck := ckT, cuts := [(3, [0, 3, 4])], mine := fun i => false }
noncomputable def s_JournalText_f (x : Ts s_JournalText_sig.pc) : Option (Ts s_JournalText_sig.rc) := runFn Tryd.prog (s_JournalText_E) Tryd.f19 s_JournalText_sig x
noncomputable def s_JournalText_l0 (y0 : List (Int × Int × Int)) (y1 : ByteArray) (y2 : Int) : Option ((ByteArray)) := from_ Tryd.prog (s_JournalText_E) Tryd.f19 s_JournalText_sig [1, 1, 0, 1, 0] ⟨mkT 26 [(0, .row false .deed y0), (3, .str y1), (4, .int .i64 y2)], []⟩
theorem s_JournalText_f_eq (x0 : (List (Int × Int × Int))) : s_JournalText_f x0 = (s_JournalText_l0 x0 ByteArray.empty 0) := by
  kernel_rfl
theorem s_JournalText_l0_eq (y0 : List (Int × Int × Int)) (y1 : ByteArray) (y2 : Int) : s_JournalText_l0 y0 y1 y2 = (cond ((decide (y2 < (List.length y0 : Int)))) (if (0 : Int) ≤ y2 ∧ y2 < (List.length y0 : Int) then (Option.bind (s_DeedText_f ((List.getD y0 (y2 : Int).toNat (0, 0, 0)).1, (List.getD y0 (y2 : Int).toNat (0, 0, 0)).2.1, (List.getD y0 (y2 : Int).toNat (0, 0, 0)).2.2)) fun r1 => (cond ((ByteArray.toList r1 == ByteArray.toList ByteArray.empty)) (some ByteArray.empty) (if (0 : Int) ≤ y2 ∧ y2 < (List.length y0 : Int) then (Option.bind (s_DeedText_f ((List.getD y0 (y2 : Int).toNat (0, 0, 0)).1, (List.getD y0 (y2 : Int).toNat (0, 0, 0)).2.1, (List.getD y0 (y2 : Int).toNat (0, 0, 0)).2.2)) fun r2 => (if ByteArray.size y1 + ByteArray.size r2 ≤ 9223372036854775807 then (if ByteArray.size (y1 ++ r2) + ByteArray.size str13 ≤ 9223372036854775807 then (s_JournalText_l0 y0 ((y1 ++ r2) ++ str13) (IntKind.i64.wrap (y2 + 1))) else none) else none)) else none))) else none) (some y1)) := by
  refine (loopK_eq Tryd.prog (s_JournalText_E) (sub (Tryd.f19.body.getD .skip) [1, 1, 0, 1, 0, 0]) _ _).trans ?_
  kernel_rfl
theorem s_JournalText_ent : Entb Tryd.prog 19 := ⟨Tryd.f19, by kernel_rfl, by kernel_rfl, by kernel_rfl⟩
theorem s_JournalText_ok : CtrOk Tryd.prog 19 ⟨s_JournalText_sig, s_JournalText_f⟩ :=
  ctr_of (fn := Tryd.f19) (by kernel_rfl) (by kernel_rfl) (fun x : Ts s_JournalText_sig.pc => s_JournalText_E) (fun x => ⟨(fn_cons ⟨s_DeedText_ok, s_DeedText_ent⟩ fn_none), clo_none⟩) (fun h => by cases h) follows_ (fun _ _ => trivial)
end FN
set_option linter.unusedVariables false
namespace FN
open Go Go.Proofs
/-! loop.example/firingnets/laws.eqDeed -/
@[reducible] def w_eqDeed_sig : Sig := { ps := [some 3, some 3], pc := [.int .i64, .int .i64, .int .i64, .int .i64, .int .i64, .int .i64], rs := [none], rc := [.bool] }
noncomputable def w_eqDeed_E : Env' := { fn := fun f => none, ck := ckT, cuts := [], mine := fun i => false }
noncomputable def w_eqDeed_f (x : Ts w_eqDeed_sig.pc) : Option (Ts w_eqDeed_sig.rc) := runFn Tryd.prog (w_eqDeed_E) Tryd.f66 w_eqDeed_sig x
theorem w_eqDeed_f_eq (x0 : (Int)) (x1 : (Int)) (x2 : (Int)) (x3 : (Int)) (x4 : (Int)) (x5 : (Int)) : w_eqDeed_f (x0, x1, x2, x3, x4, x5) = (cond ((x0 != x3)) (some false) (cond ((x1 != x4)) (some false) (cond ((x2 != x5)) (some false) (some true)))) := by
  kernel_rfl
theorem w_eqDeed_ent : Entb Tryd.prog 66 := ⟨Tryd.f66, by kernel_rfl, by kernel_rfl, by kernel_rfl⟩
theorem w_eqDeed_ok : CtrOk Tryd.prog 66 ⟨w_eqDeed_sig, w_eqDeed_f⟩ :=
  ctr_of (fn := Tryd.f66) (by kernel_rfl) (by kernel_rfl) (fun x : Ts w_eqDeed_sig.pc => w_eqDeed_E) (fun x => ⟨fn_none, clo_none⟩) (fun h => by cases h) follows_ (fun _ _ => trivial)
end FN
set_option linter.unusedVariables false
namespace FN
open Go Go.Proofs
/-! loop.example/firingnets/laws.eqDeedS -/
@[reducible] def w_eqDeedS_sig : Sig := { ps := [none, none], pc := [.view .deed, .view .deed], rs := [none], rc := [.bool] }
noncomputable def w_eqDeedS_E : Env' := { fn := fun f => if f = 66 then some ⟨w_eqDeed_sig, w_eqDeed_f⟩ else none, ck := ckT, cuts := [(4, [0, 1, 5])], mine := fun i => false }
noncomputable def w_eqDeedS_f (x : Ts w_eqDeedS_sig.pc) : Option (Ts w_eqDeedS_sig.rc) := runFn Tryd.prog (w_eqDeedS_E) Tryd.f22 w_eqDeedS_sig x
noncomputable def w_eqDeedS_l0 (y0 : List (Int × Int × Int)) (y1 : List (Int × Int × Int)) (y2 : Int) : Option ((Bool)) := from_ Tryd.prog (w_eqDeedS_E) Tryd.f22 w_eqDeedS_sig [1, 1, 0, 1, 0] ⟨mkT 27 [(0, .row false .deed y0), (1, .row false .deed y1), (5, .int .i64 y2)], []⟩
theorem w_eqDeedS_f_eq (x0 : (List (Int × Int × Int))) (x1 : (List (Int × Int × Int))) : w_eqDeedS_f (x0, x1) = (cond (((List.length x0 : Int) != (List.length x1 : Int))) (some false) (w_eqDeedS_l0 x0 x1 0)) := by
  kernel_rfl
theorem w_eqDeedS_l0_eq (y0 : List (Int × Int × Int)) (y1 : List (Int × Int × Int)) (y2 : Int) : w_eqDeedS_l0 y0 y1 y2 = (cond ((decide (y2 < (List.length y0 : Int)))) (if (0 : Int) ≤ y2 ∧ y2 < (List.length y0 : Int) then (if (0 : Int) ≤ y2 ∧ y2 < (List.length y1 : Int) then (Option.bind (w_eqDeed_f ((List.getD y0 (y2 : Int).toNat (0, 0, 0)).1, (List.getD y0 (y2 : Int).toNat (0, 0, 0)).2.1, (List.getD y0 (y2 : Int).toNat (0, 0, 0)).2.2, (List.getD y1 (y2 : Int).toNat (0, 0, 0)).1, (List.getD y1 (y2 : Int).toNat (0, 0, 0)).2.1, (List.getD y1 (y2 : Int).toNat (0, 0, 0)).2.2)) fun r1 => (cond ((!r1)) (some false) (w_eqDeedS_l0 y0 y1 (IntKind.i64.wrap (y2 + 1))))) else none) else none) (some true)) := by
  refine (loopK_eq Tryd.prog (w_eqDeedS_E) (sub (Tryd.f22.body.getD .skip) [1, 1, 0, 1, 0, 0]) _ _).trans ?_
  kernel_rfl
theorem w_eqDeedS_ent : Entb Tryd.prog 22 := ⟨Tryd.f22, by kernel_rfl, by kernel_rfl, by kernel_rfl⟩
theorem w_eqDeedS_ok : CtrOk Tryd.prog 22 ⟨w_eqDeedS_sig, w_eqDeedS_f⟩ :=
  ctr_of (fn := Tryd.f22) (by kernel_rfl) (by kernel_rfl) (fun x : Ts w_eqDeedS_sig.pc => w_eqDeedS_E) (fun x => ⟨(fn_cons ⟨w_eqDeed_ok, w_eqDeed_ent⟩ fn_none), clo_none⟩) (fun h => by cases h) follows_ (fun _ _ => trivial)
end FN
set_option linter.unusedVariables false
namespace FN
open Go Go.Proofs
/-! loop.example/firingnets/laws.szDeedS -/
@[reducible] def w_szDeedS_sig : Sig := { ps := [none, none], pc := [.view .deed, .int .i64], rs := [none], rc := [.int .i64] }
noncomputable def w_szDeedS_E : Env' := { fn := fun f => none, ck := ckT, cuts := [], mine := fun i => false }
noncomputable def w_szDeedS_f (x : Ts w_szDeedS_sig.pc) : Option (Ts w_szDeedS_sig.rc) := runFn Tryd.prog (w_szDeedS_E) Tryd.f18 w_szDeedS_sig x
theorem w_szDeedS_f_eq (x0 : (List (Int × Int × Int))) (x1 : (Int)) : w_szDeedS_f (x0, x1) = (cond ((decide ((IntKind.i64.wrap (x1 - (List.length x0 : Int))) < 0))) (some (-1)) (some (IntKind.i64.wrap (x1 - (List.length x0 : Int))))) := by
  kernel_rfl
theorem w_szDeedS_ent : Entb Tryd.prog 18 := ⟨Tryd.f18, by kernel_rfl, by kernel_rfl, by kernel_rfl⟩
theorem w_szDeedS_ok : CtrOk Tryd.prog 18 ⟨w_szDeedS_sig, w_szDeedS_f⟩ :=
  ctr_of (fn := Tryd.f18) (by kernel_rfl) (by kernel_rfl) (fun x : Ts w_szDeedS_sig.pc => w_szDeedS_E) (fun x => ⟨fn_none, clo_none⟩) (fun h => by cases h) follows_ (fun _ _ => trivial)
end FN
set_option linter.unusedVariables false
namespace FN
open Go Go.Proofs
/-! loop.example/firingnets/laws.toDeed -/
@[reducible] def w_toDeed_sig : Sig := { ps := [some 3], pc := [.int .i64, .int .i64, .int .i64], rs := [some 3], rc := [.int .i64, .int .i64, .int .i64] }
noncomputable def w_toDeed_E : Env' := { fn := fun f => none, ck := ckT, cuts := [], mine := fun i => false }
noncomputable def w_toDeed_f (x : Ts w_toDeed_sig.pc) : Option (Ts w_toDeed_sig.rc) := runFn Tryd.prog (w_toDeed_E) Tryd.f16 w_toDeed_sig x
theorem w_toDeed_f_eq (x0 : (Int)) (x1 : (Int)) (x2 : (Int)) : w_toDeed_f (x0, x1, x2) = (some (x0, x1, x2)) := by
  kernel_rfl
theorem w_toDeed_ent : Entb Tryd.prog 16 := ⟨Tryd.f16, by kernel_rfl, by kernel_rfl, by kernel_rfl⟩
theorem w_toDeed_ok : CtrOk Tryd.prog 16 ⟨w_toDeed_sig, w_toDeed_f⟩ :=
  ctr_of (fn := Tryd.f16) (by kernel_rfl) (by kernel_rfl) (fun x : Ts w_toDeed_sig.pc => w_toDeed_E) (fun x => ⟨fn_none, clo_none⟩) (fun h => by cases h) follows_ (fun _ _ => trivial)
end FN
set_option linter.unusedVariables false
namespace FN
open Go Go.Proofs
/-! loop.example/firingnets/laws.toDeedS -/
@[reducible] def w_toDeedS_sig : Sig := { ps := [none], pc := [.view .deed], rs := [none], rc := [.row 25 .deed] }
noncomputable def w_toDeedS_E : Env' := { fn := fun f => if f = 16 then some ⟨w_toDeed_sig, w_toDeed_f⟩ else none, ck := ckT, cuts := [(3, [0, 3, 4])], mine := fun i => false }
noncomputable def w_toDeedS_f (x : Ts w_toDeedS_sig.pc) : Option (Ts w_toDeedS_sig.rc) := runFn Tryd.prog (w_toDeedS_E) Tryd.f20 w_toDeedS_sig x
noncomputable def w_toDeedS_l0 (y0 : List (Int × Int × Int)) (y1 : Int) (y2 : List (Int × Int × Int)) : Option ((List (Int × Int × Int))) := from_ Tryd.prog (w_toDeedS_E) Tryd.f20 w_toDeedS_sig [1, 1, 0, 1, 0] ⟨mkT 23 [(0, .row false .deed y0), (3, .own 0), (4, .int .i64 y1)], [some (.arr 25 true .deed y2)]⟩
theorem w_toDeedS_f_eq (x0 : (List (Int × Int × Int))) : w_toDeedS_f x0 = (if (0 : Int) ≤ (List.length x0 : Int) ∧ (List.length x0 : Int) * 24 ≤ 140737488355328 ∧ (List.length x0 : Int) ≤ 140737488355328 then (w_toDeedS_l0 x0 0 (List.replicate ((List.length x0 : Int) : Int).toNat (0, 0, 0) : List (Int × Int × Int))) else none) := by
  kernel_rfl
theorem w_toDeedS_l0_eq (y0 : List (Int × Int × Int)) (y1 : Int) (y2 : List (Int × Int × Int)) : w_toDeedS_l0 y0 y1 y2 = (cond ((decide (y1 < (List.length y0 : Int)))) (if (0 : Int) ≤ y1 ∧ y1 < (List.length y0 : Int) then (Option.bind (w_toDeed_f ((List.getD y0 (y1 : Int).toNat (0, 0, 0)).1, (List.getD y0 (y1 : Int).toNat (0, 0, 0)).2.1, (List.getD y0 (y1 : Int).toNat (0, 0, 0)).2.2)) fun r1 => (if (0 : Int) ≤ y1 ∧ y1 < (List.length y2 : Int) then (w_toDeedS_l0 y0 (IntKind.i64.wrap (y1 + 1)) (List.set y2 (y1 : Int).toNat (r1.1, r1.2.1, r1.2.2))) else none)) else none) (some y2)) := by
  refine (loopK_eq Tryd.prog (w_toDeedS_E) (sub (Tryd.f20.body.getD .skip) [1, 1, 0, 1, 0, 0]) _ _).trans ?_
  kernel_rfl
theorem w_toDeedS_ent : Entb Tryd.prog 20 := ⟨Tryd.f20, by kernel_rfl, by kernel_rfl, by kernel_rfl⟩
theorem w_toDeedS_ok : CtrOk Tryd.prog 20 ⟨w_toDeedS_sig, w_toDeedS_f⟩ :=
  ctr_of (fn := Tryd.f20) (by kernel_rfl) (by kernel_rfl) (fun x : Ts w_toDeedS_sig.pc => w_toDeedS_E) (fun x => ⟨(fn_cons ⟨w_toDeed_ok, w_toDeed_ent⟩ fn_none), clo_none⟩) (fun h => by cases h) follows_ (fun _ _ => trivial)
end FN
set_option linter.unusedVariables false
namespace FN
open Go Go.Proofs
/-! loop.example/firingnets/laws.FnExactJournalText -/
@[reducible] def w_FnExactJournalText_sig : Sig := { ps := [none], pc := [.view .deed], rs := [none], rc := [.bool] }
noncomputable def w_FnExactJournalText_E : Env' := { fn := fun f => if f = 18 then some ⟨w_szDeedS_sig, w_szDeedS_f⟩ else if f = 19 then some ⟨s_JournalText_sig, s_JournalText_f⟩ else if f = 20 then some ⟨w_toDeedS_sig, w_toDeedS_f⟩ else if f = 21 then some ⟨i_JournalText_sig, i_JournalText_f⟩ else if f = 22 then some ⟨w_eqDeedS_sig, w_eqDeedS_f⟩ else none, ck := ckT, cuts := [], mine := fun i => false }
noncomputable def w_FnExactJournalText_f (x : Ts w_FnExactJournalText_sig.pc) : Option (Ts w_FnExactJournalText_sig.rc) := runFn Tryd.prog (w_FnExactJournalText_E) Tryd.f4 w_FnExactJournalText_sig x
theorem w_FnExactJournalText_f_eq (x0 : (List (Int × Int × Int))) : w_FnExactJournalText_f x0 = (Option.bind (w_szDeedS_f (x0, 1048576)) fun r1 => (cond ((decide (r1 < 0))) (some true) (Option.bind (w_toDeedS_f x0) fun r2 => (Option.bind (s_JournalText_f r2) fun r3 => (Option.bind (w_toDeedS_f x0) fun r4 => (Option.bind (i_JournalText_f r4) fun r5 => (cond ((!(ByteArray.toList r5 == ByteArray.toList r3))) (some false) (Option.bind (w_toDeedS_f x0) fun r6 => (Option.bind (w_eqDeedS_f (r4, r6)) fun r7 => (cond ((!r7)) (some false) (some true))))))))))) := by
  kernel_rfl
theorem w_FnExactJournalText_ent : Entb Tryd.prog 4 := ⟨Tryd.f4, by kernel_rfl, by kernel_rfl, by kernel_rfl⟩
theorem w_FnExactJournalText_ok : CtrOk Tryd.prog 4 ⟨w_FnExactJournalText_sig, w_FnExactJournalText_f⟩ :=
  ctr_of (fn := Tryd.f4) (by kernel_rfl) (by kernel_rfl) (fun x : Ts w_FnExactJournalText_sig.pc => w_FnExactJournalText_E) (fun x => ⟨(fn_cons ⟨w_szDeedS_ok, w_szDeedS_ent⟩ (fn_cons ⟨s_JournalText_ok, s_JournalText_ent⟩ (fn_cons ⟨w_toDeedS_ok, w_toDeedS_ent⟩ (fn_cons ⟨i_JournalText_ok, i_JournalText_ent⟩ (fn_cons ⟨w_eqDeedS_ok, w_eqDeedS_ent⟩ fn_none))))), clo_none⟩) (fun h => by cases h) follows_ (fun _ _ => trivial)
end FN
