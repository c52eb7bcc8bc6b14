/- Texts of the proof, joined: The functions, their equations and contracts. -/
import Derived.KernelRfl
import Derived.Test.YtlpjnnepjlaclaaDoorProg
import Derived.WalkKit
import Derived.Test.YtlpjnnepjlaclaaDoorS0
set_option linter.unusedVariables false
set_option linter.unusedSimpArgs false
set_option linter.unusedSectionVars false
namespace FN
open Go Go.Proofs
def mkT (n : Nat) (l : List (Nat × PV)) : List PV := (List.range n).map fun i => (l.lookup i).getD .junk
def ckT (t : TypeId) : Option CK := if t = 3 then some .i64 else if t = 5 then some .u8 else if t = 9 then some .str else if t = 24 then some .place else if t = 29 then some .deed else if t = 31 then some .place else if t = 38 then some .deed else none
instance : Gl := ⟨fun w => ∃ m t fz, w.heap[1]? = some (.cells #[.int .i64 m] t fz), fun _ => True, fun {w w'} g hI hs hk hg => by
  obtain ⟨m, t, fz, h1⟩ := hI
  by_cases e : g = some 1
  · obtain ⟨u, p, t', _, h2⟩ := hg 1 e
    rw [h1] at h2
    injection h2 with h2
    injection h2 with h2
    have := congrArg Array.size h2
    simp at this
  · exact ⟨m, t, fz, (hk 1 (Array.getElem?_eq_some_iff.1 h1).1 e).trans h1⟩⟩
theorem gl_cell {w : World} (h : Gl.I w) : ∃ m, w.cell? ⟨1, 0, none⟩ = some (.int .i64 m) := by
  obtain ⟨m, t, fz, h1⟩ := (show ∃ m t fz, w.heap[1]? = some (.cells #[.int .i64 m] t fz) from h)
  exact ⟨m, by simp [World.cell?, h1]⟩

theorem follows_ : Tryd.prog.follows .mixedOrders = true := by kernel_rfl
theorem rd_head {x b : List Int} {l ps : List PV} (h : (PV.row false .u8 x :: l) = PV.row false .u8 b :: ps) : x = b := by
  injection h with h _
  injection h
theorem fn_none {P : Program} : ∀ (f : FuncId) (c : Ctr'), (none : Option Ctr') = some c → CtrOk P f c ∧ Entb P f := fun _ _ h => by cases h
theorem fn_cons {P : Program} {f0 : FuncId} {c0 : Ctr'} (h0 : CtrOk P f0 c0 ∧ Entb P f0) {g : FuncId → Option Ctr'} (hg : ∀ f c, g f = some c → CtrOk P f c ∧ Entb P f) : ∀ f c, (if f = f0 then some c0 else g f) = some c → CtrOk P f c ∧ Entb P f := by
  intro f c h
  split at h
  · rename_i e; injection h with h; subst e; subst h; exact h0
  · exact hg f c h
theorem lim_some {α : Type} {g : Nat → Option α} {r : α} (h : lim g = some r) : ∃ n, g n = some r := by
  unfold lim at h
  split at h
  · exact ⟨_, h⟩
  · cases h
theorem lim_of {α : Type} {g : Nat → Option α} {v : α} (h : ∃ n, g n = some v) (u : ∀ n r, g n = some r → r = v) : lim g = some v := by
  obtain ⟨n, hn⟩ := h
  have hx : ∃ n r, g n = some r := ⟨n, v, hn⟩
  obtain ⟨r, hr⟩ := hx.choose_spec
  have : lim g = g hx.choose := dif_pos hx
  rw [this, hr, u _ r hr]
theorem clo_none {P : Program} {E : Env'} (h : E.clo = fun _ _ _ _ _ => none := by rfl) : CloOk P E := by
  intro f ps hp h' pin base w ρ args hc
  rw [h] at hc
  cases hc
def str0 : ByteArray := ⟨#[106, 111, 105, 110, 32]⟩
def str1 : ByteArray := ⟨#[32]⟩
def str2 : ByteArray := ⟨#[108, 105, 103, 104, 116, 32]⟩
def str3 : ByteArray := ⟨#[107, 105, 110, 100, 115, 32]⟩
def str4 : ByteArray := ⟨#[115, 116, 101, 112]⟩
def str5 : ByteArray := ⟨#[98, 97, 99, 107]⟩
def str6 : ByteArray := ⟨#[48, 49, 50, 51, 52, 53, 54, 55, 56, 57, 97, 98, 99, 100, 101, 102, 103, 104, 105, 106, 107, 108, 109, 110, 111, 112, 113, 114, 115, 116, 117, 118, 119, 120, 121, 122]⟩
def str7 : ByteArray := ⟨#[48, 48, 48, 49, 48, 50, 48, 51, 48, 52, 48, 53, 48, 54, 48, 55, 48, 56, 48, 57, 49, 48, 49, 49, 49, 50, 49, 51, 49, 52, 49, 53, 49, 54, 49, 55, 49, 56, 49, 57, 50, 48, 50, 49, 50, 50, 50, 51, 50, 52, 50, 53, 50, 54, 50, 55, 50, 56, 50, 57, 51, 48, 51, 49, 51, 50, 51, 51, 51, 52, 51, 53, 51, 54, 51, 55, 51, 56, 51, 57, 52, 48, 52, 49, 52, 50, 52, 51, 52, 52, 52, 53, 52, 54, 52, 55, 52, 56, 52, 57, 53, 48, 53, 49, 53, 50, 53, 51, 53, 52, 53, 53, 53, 54, 53, 55, 53, 56, 53, 57, 54, 48, 54, 49, 54, 50, 54, 51, 54, 52, 54, 53, 54, 54, 54, 55, 54, 56, 54, 57, 55, 48, 55, 49, 55, 50, 55, 51, 55, 52, 55, 53, 55, 54, 55, 55, 55, 56, 55, 57, 56, 48, 56, 49, 56, 50, 56, 51, 56, 52, 56, 53, 56, 54, 56, 55, 56, 56, 56, 57, 57, 48, 57, 49, 57, 50, 57, 51, 57, 52, 57, 53, 57, 54, 57, 55, 57, 56, 57, 57]⟩
def str8 : ByteArray := ⟨#[0, 1, 2, 2, 3, 3, 3, 3, 4, 4, 4, 4, 4, 4, 4, 4, 5, 5, 5, 5, 5, 5, 5, 5, 5, 5, 5, 5, 5, 5, 5, 5, 6, 6, 6, 6, 6, 6, 6, 6, 6, 6, 6, 6, 6, 6, 6, 6, 6, 6, 6, 6, 6, 6, 6, 6, 6, 6, 6, 6, 6, 6, 6, 6, 7, 7, 7, 7, 7, 7, 7, 7, 7, 7, 7, 7, 7, 7, 7, 7, 7, 7, 7, 7, 7, 7, 7, 7, 7, 7, 7, 7, 7, 7, 7, 7, 7, 7, 7, 7, 7, 7, 7, 7, 7, 7, 7, 7, 7, 7, 7, 7, 7, 7, 7, 7, 7, 7, 7, 7, 7, 7, 7, 7, 7, 7, 7, 7, 8, 8, 8, 8, 8, 8, 8, 8, 8, 8, 8, 8, 8, 8, 8, 8, 8, 8, 8, 8, 8, 8, 8, 8, 8, 8, 8, 8, 8, 8, 8, 8, 8, 8, 8, 8, 8, 8, 8, 8, 8, 8, 8, 8, 8, 8, 8, 8, 8, 8, 8, 8, 8, 8, 8, 8, 8, 8, 8, 8, 8, 8, 8, 8, 8, 8, 8, 8, 8, 8, 8, 8, 8, 8, 8, 8, 8, 8, 8, 8, 8, 8, 8, 8, 8, 8, 8, 8, 8, 8, 8, 8, 8, 8, 8, 8, 8, 8, 8, 8, 8, 8, 8, 8, 8, 8, 8, 8, 8, 8, 8, 8, 8, 8, 8, 8, 8, 8, 8, 8, 8, 8, 8, 8, 8, 8, 8, 8]⟩
def str9 : ByteArray := ⟨#[115, 116, 114, 99, 111, 110, 118, 58, 32, 105, 108, 108, 101, 103, 97, 108, 32, 65, 112, 112, 101, 110, 100, 73, 110, 116, 47, 70, 111, 114, 109, 97, 116, 73, 110, 116, 32, 98, 97, 115, 101]⟩
def str10 : ByteArray := ⟨#[106, 111, 105, 110]⟩
def str11 : ByteArray := ⟨#[108, 105, 103, 104, 116]⟩
def str12 : ByteArray := ⟨#[107, 105, 110, 100, 115]⟩
def str13 : ByteArray := ⟨#[10]⟩
def str14 : ByteArray := ⟨#[44]⟩
def str15 : ByteArray := ⟨#[46]⟩
def str16 : ByteArray := ⟨#[48]⟩
def str17 : ByteArray := ⟨#[49]⟩
end FN
set_option linter.unusedVariables false
namespace FN
open Go Go.Proofs
/-! loop.example/firingnets/spec.l1In -/
@[reducible] def s_l1In_sig : Sig := { ps := [none, none, none], pc := [.int .i64, .int .i64, .int .i64], rs := [none], rc := [.bool] }
noncomputable def s_l1In_E : Env' := { fn := fun f => none, ck := ckT, cuts := [], mine := fun i => false }
noncomputable def s_l1In_f (x : Ts s_l1In_sig.pc) : Option (Ts s_l1In_sig.rc) := runFn Tryd.prog (s_l1In_E) Tryd.f70 s_l1In_sig x
theorem s_l1In_f_eq (x0 : (Int)) (x1 : (Int)) (x2 : (Int)) : s_l1In_f (x0, x1, x2) = (cond ((decide (x1 ≤ x0))) (some (decide (x0 ≤ x2))) (some false)) := by
  kernel_rfl
theorem s_l1In_ent : Entb Tryd.prog 70 := ⟨Tryd.f70, by kernel_rfl, by kernel_rfl, by kernel_rfl⟩
theorem s_l1In_ok : CtrOk Tryd.prog 70 ⟨s_l1In_sig, s_l1In_f⟩ :=
  ctr_of (fn := Tryd.f70) (by kernel_rfl) (by kernel_rfl) (fun x : Ts s_l1In_sig.pc => s_l1In_E) (fun x => ⟨fn_none, clo_none, wr_none⟩) (fun h => by cases h) follows_ (fun _ _ => trivial)
end FN
/-! strconv.Itoa, at 0 .. 99: the shelf's contract, as one of ours. -/
namespace FN
open Go Go.Proofs
theorem flatV_one {l fl : List Value} (h : flatV [none] l = some fl) : ∃ p, l = [p] ∧ fl = [p] := by
  cases l with
  | nil => simp [flatV] at h
  | cons p ps =>
    cases ps with
    | nil => exact ⟨p, rfl, by simpa [flatV] using h.symm⟩
    | cons q ps => simp [flatV] at h
@[reducible] def x_strconv_Itoa_sig : Sig := { ps := [none], pc := [.int .i64], rs := [none], rc := [.str] }
def itoaS (n : Int) : ByteArray := ⟨(Lib.decDigits n.toNat).toArray⟩
def x_strconv_Itoa_f (n : Ts x_strconv_Itoa_sig.pc) : Option (Ts x_strconv_Itoa_sig.rc) := if (0 : Int) ≤ n ∧ (n : Int) < 100 then some (itoaS n) else none
theorem x_strconv_Itoa_f_eq (n : Int) : x_strconv_Itoa_f n = if (0 : Int) ≤ n ∧ (n : Int) < 100 then some (itoaS n) else none := rfl
theorem x_strconv_Itoa_ent : Entb Tryd.prog 78 := ⟨Tryd.f78, by kernel_rfl, by kernel_rfl, by kernel_rfl⟩
theorem x_strconv_Itoa_ok : CtrOk Tryd.prog 78 ⟨x_strconv_Itoa_sig, x_strconv_Itoa_f⟩ := by
  intro w okc args bx x r hI hA hr
  obtain ⟨rfl, fl, h1, h2⟩ := (show bx = none ∧ ∃ fl, flatV [none] args.toList = some fl ∧ F2 (V1 (av w okc)) [PV.int .i64 x] fl from hA)
  obtain ⟨p, h3, rfl⟩ := flatV_one h1
  cases h2 with
  | cons hp _ =>
    have hp : p = .int .i64 x := hp
    subst hp
    have hx : (if (0 : Int) ≤ x ∧ (x : Int) < 100 then some (itoaS x) else none) = some r := hr
    split at hx
    · rename_i hc
      injection hx with hx
      subst hx
      have hargs : args = #[.int .i64 ((x : Int).toNat : Int)] := by
        apply Array.ext'
        rw [h3, Int.toNat_of_nonneg hc.1]
      rw [hargs]
      refine (Tryd.strconv_Itoa_small (x : Int).toNat (by have h5 : (0 : Int) ≤ x := hc.1; have h6 : (x : Int) < 100 := hc.2; exact (Int.toNat_lt h5).2 h6) w).mono ?_
      rintro e w' ⟨rfl, rfl⟩
      exact ⟨_, rfl, ⟨[.string (itoaS x)], fun _ => False, fun _ _ => False, HidI.none, ⟨_, rfl, rfl⟩, fun i j u u' g hu => by simp [rowsV] at hu, fun k h => h, (fun h => Bool.noConfusion (show (false : Bool) = true from h)), [.string (itoaS x)], rfl, rfl⟩, Kp.refl _ _ _⟩
    · cases hx
end FN
set_option linter.unusedVariables false
namespace FN
open Go Go.Proofs
/-! loop.example/firingnets/spec.l1Number -/
@[reducible] def s_l1Number_sig : Sig := { ps := [none], pc := [.int .i64], rs := [none], rc := [.str] }
noncomputable def s_l1Number_E (g : Ts s_l1Number_sig.pc → Option (Ts s_l1Number_sig.rc)) : Env' := { fn := fun f => if f = 76 then some ⟨s_l1Number_sig, g⟩ else none, ck := ckT, cuts := [], mine := fun i => false }
noncomputable def s_l1Number_g (n : Nat) : Ts s_l1Number_sig.pc → Option (Ts s_l1Number_sig.rc) := Nat.rec (fun _ => none) (fun _ ih x => runFn Tryd.prog (s_l1Number_E ih) Tryd.f76 s_l1Number_sig x) n
theorem s_l1Number_g_eq (n : Nat) (x0 : (Int)) : s_l1Number_g (n + 1) x0 = (cond ((decide (x0 < 10))) (some (strOfNums ([(IntKind.u8.wrap (IntKind.i64.wrap (48 + (if 0 > x0 then 0 else x0))))] : List (Int)))) (Option.bind (s_l1Number_g n (IntKind.i64.wrap (Int.tdiv x0 10))) fun r1 => (if ByteArray.size r1 + ByteArray.size (strOfNums ([(IntKind.u8.wrap (IntKind.i64.wrap (48 + (Int.tmod x0 10))))] : List (Int))) ≤ 9223372036854775807 then (some (r1 ++ (strOfNums ([(IntKind.u8.wrap (IntKind.i64.wrap (48 + (Int.tmod x0 10))))] : List (Int))))) else none))) := by
  refine Eq.trans (b := (cond ((decide (x0 < 10))) (some (strOfNums ([(IntKind.u8.wrap (IntKind.i64.wrap (48 + (if 0 > x0 then 0 else x0))))] : List (Int)))) (same [(Option.bind (s_l1Number_g n (IntKind.i64.wrap (Int.tdiv x0 10))) fun r1 => (if ByteArray.size r1 + ByteArray.size (strOfNums ([(IntKind.u8.wrap (IntKind.i64.wrap (48 + (Int.tmod x0 10))))] : List (Int))) ≤ 9223372036854775807 then (some (r1 ++ (strOfNums ([(IntKind.u8.wrap (IntKind.i64.wrap (48 + (Int.tmod x0 10))))] : List (Int))))) else none)), (same [(Option.bind (s_l1Number_g n (IntKind.i64.wrap (Int.tdiv x0 10))) fun r1 => (if ByteArray.size r1 + ByteArray.size (strOfNums ([(IntKind.u8.wrap (IntKind.i64.wrap (48 + (Int.tmod x0 10))))] : List (Int))) ≤ 9223372036854775807 then (some (r1 ++ (strOfNums ([(IntKind.u8.wrap (IntKind.i64.wrap (48 + (Int.tmod x0 10))))] : List (Int))))) else none)), (Option.bind (s_l1Number_g n (IntKind.i64.wrap (Int.tdiv x0 10))) fun r1 => (if ByteArray.size r1 + ByteArray.size (strOfNums ([(IntKind.u8.wrap (IntKind.i64.wrap (48 + (Int.tmod x0 10))))] : List (Int))) ≤ 9223372036854775807 then (some (r1 ++ (strOfNums ([(IntKind.u8.wrap (IntKind.i64.wrap (48 + (Int.tmod x0 10))))] : List (Int))))) else none))])]))) (by kernel_rfl) ?_
  simp only [same2, same3, same4, same5, same6, obind_ite]
noncomputable def s_l1Number_f (x : Ts s_l1Number_sig.pc) : Option (Ts s_l1Number_sig.rc) := lim fun n => s_l1Number_g n x
theorem s_l1Number_ent : Entb Tryd.prog 76 := ⟨Tryd.f76, by kernel_rfl, by kernel_rfl, by kernel_rfl⟩
theorem s_l1Number_gok : ∀ n, CtrOk Tryd.prog 76 ⟨s_l1Number_sig, s_l1Number_g n⟩
  | 0 => fun _ _ _ _ _ _ _ _ h => by cases h
  | n + 1 => ctr_of (fn := Tryd.f76) (by kernel_rfl) (by kernel_rfl) (fun _ : Ts s_l1Number_sig.pc => s_l1Number_E (s_l1Number_g n)) (fun _ => ⟨(fn_cons ⟨s_l1Number_gok n, s_l1Number_ent⟩ fn_none), clo_none, wr_none⟩) (fun h => by cases h) follows_ (fun _ _ => trivial)
theorem s_l1Number_ok : CtrOk Tryd.prog 76 ⟨s_l1Number_sig, s_l1Number_f⟩ := fun w okc args bx x r hI hA hr => by
  obtain ⟨n, hn⟩ := lim_some (g := fun n => s_l1Number_g n x) hr
  exact s_l1Number_gok n w okc args bx x r hI hA hn
end FN
set_option linter.unusedVariables false
namespace FN
open Go Go.Proofs
/-! loop.example/firingnets/spec.DeedText -/
@[reducible] def s_DeedText_sig : Sig := { ps := [some 3], pc := [.int .i64, .int .i64, .int .i64], rs := [none], rc := [.str] }
noncomputable def s_DeedText_E : Env' := { fn := fun f => if f = 70 then some ⟨s_l1In_sig, s_l1In_f⟩ else if f = 76 then some ⟨s_l1Number_sig, s_l1Number_f⟩ else none, ck := ckT, cuts := [], mine := fun i => false }
noncomputable def s_DeedText_f (x : Ts s_DeedText_sig.pc) : Option (Ts s_DeedText_sig.rc) := runFn Tryd.prog (s_DeedText_E) Tryd.f105 s_DeedText_sig x
theorem s_DeedText_f_eq (x0 : (Int)) (x1 : (Int)) (x2 : (Int)) : s_DeedText_f (x0, x1, x2) = (Option.bind (s_l1In_f (x1, 0, 99)) fun r1 => (cond ((!r1)) (some ByteArray.empty) (Option.bind (s_l1In_f (x2, 0, 99)) fun r2 => (cond ((!r2)) (some ByteArray.empty) (cond (((x0 == 0) && ((x1 == x1) && ((x2 == x2) && true)))) (Option.bind (s_l1Number_f x1) fun r3 => (if ByteArray.size str0 + ByteArray.size r3 ≤ 9223372036854775807 then (if ByteArray.size (str0 ++ r3) + ByteArray.size str1 ≤ 9223372036854775807 then (Option.bind (s_l1Number_f x2) fun r4 => (if ByteArray.size ((str0 ++ r3) ++ str1) + ByteArray.size r4 ≤ 9223372036854775807 then (some (((str0 ++ r3) ++ str1) ++ r4)) else none)) else none) else none)) (cond (((x0 == 1) && ((x1 == x1) && ((x2 == 0) && true)))) (Option.bind (s_l1Number_f x1) fun r5 => (if ByteArray.size str2 + ByteArray.size r5 ≤ 9223372036854775807 then (some (str2 ++ r5)) else none)) (cond (((x0 == 3) && ((x1 == x1) && ((x2 == 0) && true)))) (Option.bind (s_l1Number_f x1) fun r6 => (if ByteArray.size str3 + ByteArray.size r6 ≤ 9223372036854775807 then (some (str3 ++ r6)) else none)) (cond (((x0 == 2) && ((x1 == 0) && ((x2 == 0) && true)))) (some str4) (cond (((x0 == 4) && ((x1 == 0) && ((x2 == 0) && true)))) (some str5) (some ByteArray.empty)))))))))) := by
  kernel_rfl
theorem s_DeedText_ent : Entb Tryd.prog 105 := ⟨Tryd.f105, by kernel_rfl, by kernel_rfl, by kernel_rfl⟩
theorem s_DeedText_ok : CtrOk Tryd.prog 105 ⟨s_DeedText_sig, s_DeedText_f⟩ :=
  ctr_of (fn := Tryd.f105) (by kernel_rfl) (by kernel_rfl) (fun x : Ts s_DeedText_sig.pc => s_DeedText_E) (fun x => ⟨(fn_cons ⟨s_l1In_ok, s_l1In_ent⟩ (fn_cons ⟨s_l1Number_ok, s_l1Number_ent⟩ fn_none)), clo_none, wr_none⟩) (fun h => by cases h) follows_ (fun _ _ => trivial)
end FN
/-! strings.Join: the shelf's contract, as one of ours. -/
namespace FN
open Go Go.Proofs Go.RowKit
theorem flatV_two {l fl : List Value} (h : flatV [none, none] l = some fl) : ∃ p q, l = [p, q] ∧ fl = [p, q] := by
  cases l with
  | nil => simp [flatV] at h
  | cons p ps =>
    simp only [flatV] at h
    obtain ⟨fl', h1, h2⟩ := Option.map_eq_some_iff.1 h
    obtain ⟨q, rfl, rfl⟩ := flatV_one h1
    exact ⟨p, q, rfl, h2.symm⟩
@[reducible] def x_strings_Join_sig : Sig := { ps := [none, none], pc := [.view .str, .str], rs := [none], rc := [.str] }
def joinS (xs : List ByteArray) (sep : ByteArray) : ByteArray := ⟨(Lib.join (xs.map (·.data.toList)) sep.data.toList).toArray⟩
def x_strings_Join_f (x : Ts x_strings_Join_sig.pc) : Option (Ts x_strings_Join_sig.rc) := if x.1.length ≤ 140737488355328 ∧ (joinS x.1 x.2).size ≤ 140737488355328 then some (joinS x.1 x.2) else none
theorem x_strings_Join_f_eq (xs : List ByteArray) (sep : ByteArray) : x_strings_Join_f (xs, sep) = if xs.length ≤ 140737488355328 ∧ (joinS xs sep).size ≤ 140737488355328 then some (joinS xs sep) else none := rfl
theorem x_strings_Join_ent : Entb Tryd.prog 79 := ⟨Tryd.f79, by kernel_rfl, by kernel_rfl, by kernel_rfl⟩
theorem kp_below {pin : Pn} {w w' : World} (h : Below w.heap.size w w') : Kp pin w.heap.size w w' := ⟨h.os, h.tape, h.output, h.size, fun k hk _ => h.block k hk⟩
theorem x_strings_Join_ok : CtrOk Tryd.prog 79 ⟨x_strings_Join_sig, x_strings_Join_f⟩ := by
  intro w okc args bx x r hI hA hr
  obtain ⟨rfl, fl, h1, h2⟩ := (show bx = none ∧ ∃ fl, flatV [none, none] args.toList = some fl ∧ F2 (V1 (av w okc)) [PV.row false .str x.1, PV.str x.2] fl from hA)
  obtain ⟨p, q, h3, rfl⟩ := flatV_two h1
  have hx : (if x.1.length ≤ 140737488355328 ∧ (joinS x.1 x.2).size ≤ 140737488355328 then some (joinS x.1 x.2) else none) = some r := hr
  split at hx
  · rename_i hc
    injection hx with hx
    subst hx
    cases h2 with
    | cons hp h2 => cases h2 with
      | cons hq _ =>
        have hq : q = .string x.2 := hq
        subst hq
        obtain ⟨A, cp, rfl, hle, hmx, hne⟩ := (show SlR w ((av w okc).okf false) .str x.1 p from hp)
        have hargs : args = #[.slice A x.1.length cp, .string x.2] := by apply Array.ext'; rw [h3]
        have fin : ∀ w', Below w.heap.size w w' → ∃ v, (Ending.returned (.string (joinS x.1 x.2)) : Ending) = .returned v ∧ RetR x_strings_Join_sig w w' okc none (joinS x.1 x.2) v ∧ Kp ⟨fun k => ∃ b, (none : Option (Nat × List Int)) = some (k, b), fun _ => True⟩ w.heap.size w w' := fun w' hb =>
          ⟨_, rfl, ⟨[.string (joinS x.1 x.2)], fun _ => False, fun _ _ => False, HidI.none, ⟨_, rfl, rfl⟩, fun i j u u' g hu => by simp [rowsV] at hu, fun k h => h, (fun h => Bool.noConfusion (show (false : Bool) = true from h)), [.string (joinS x.1 x.2)], rfl, rfl⟩, kp_below hb⟩
        by_cases h0 : x.1 = []
        · have hz : x.1.length = 0 := by rw [h0]; rfl
          have hj : joinS x.1 x.2 = ⟨#[]⟩ := by rw [h0]; rfl
          rw [hargs, hz]
          refine (Tryd.strings_Join_none A cp x.2 w).mono ?_
          rintro e w' ⟨rfl, rfl⟩
          have := fin w' (Below.refl _ _)
          rw [hj] at this ⊢
          exact this
        · obtain ⟨ad, rfl, _, hlt, hcell⟩ := hne h0
          have hs : ad.spot = none := by
            have hpos : 0 < x.1.length := List.length_pos_iff.2 h0
            obtain ⟨cs, e1, e2⟩ := hcell 0 _ (List.getElem?_eq_getElem hpos)
            have e1 : cs = [.string (x.1[0])] := e1
            have := e2 0 (.string (x.1[0])) (by rw [e1]; rfl)
            have h5 : w.cell? ad = some (.string (x.1[0])) := this
            unfold World.cell? at h5
            split at h5
            · split at h5
              · cases h5
              · rename_i hh; simpa using hh
            · cases h5
          obtain ⟨bk, o, sp⟩ := ad
          simp only at hs
          subst hs
          rw [hargs]
          refine (Tryd.strings_Join bk o cp x.1 x.2 w (fun j y hy => ?_) hlt hc.1 hle (by simpa [joinS, ByteArray.size] using hc.2)).mono ?_
          · obtain ⟨cs, e1, e2⟩ := hcell j y hy
            have e1 : cs = [.string y] := e1
            have := e2 0 (.string y) (by rw [e1]; rfl)
            have h6 : w.cell? ((⟨bk, o, none⟩ : Addr).add (j * 1 + 0)) = some (.string y) := this
            rw [Nat.mul_one, Nat.add_zero, show (⟨bk, o, none⟩ : Addr).add j = ⟨bk, o + j, none⟩ by unfold Addr.add; split <;> simp_all] at h6
            exact h6
          · rintro e w' ⟨rfl, hb⟩
            exact fin w' hb
  · cases hx
end FN
namespace FN
open Go Go.Proofs Go.RowKit
def splitS (s sep : ByteArray) : List ByteArray := Lib.splitB sep 0 (Lib.countB s sep) s
@[reducible] def x_strings_Split_sig : Sig := { ps := [none, none], pc := [.str, .str], rs := [none], rc := [.row 9 .str] }
def x_strings_Split_f (x : Ts x_strings_Split_sig.pc) : Option (Ts x_strings_Split_sig.rc) := if x.1.size < 4294967281 ∧ 1 ≤ x.2.size ∧ Lib.countB x.1 x.2 + 1 = (splitS x.1 x.2).length ∧ (splitS x.1 x.2).length ≤ maxLen then some (splitS x.1 x.2) else none
theorem x_strings_Split_ent : Entb Tryd.prog 95 := ⟨Tryd.f95, by kernel_rfl, by kernel_rfl, by kernel_rfl⟩
theorem split_ok (hG : ∀ w, Gl.I w → ∃ m, w.cell? ⟨1, 0, none⟩ = some (.int .i64 m)) : CtrOk Tryd.prog 95 ⟨x_strings_Split_sig, x_strings_Split_f⟩ := by
  intro w okc args bx x r hI hA hr
  obtain ⟨rfl, fl, h1, h2⟩ := (show bx = none ∧ ∃ fl, flatV [none, none] args.toList = some fl ∧ F2 (V1 (av w okc)) [PV.str x.1, PV.str x.2] fl from hA)
  obtain ⟨p, q, h3, rfl⟩ := flatV_two h1
  have hx : (if x.1.size < 4294967281 ∧ 1 ≤ x.2.size ∧ Lib.countB x.1 x.2 + 1 = (splitS x.1 x.2).length ∧ (splitS x.1 x.2).length ≤ maxLen then some (splitS x.1 x.2) else none) = some r := hr
  obtain ⟨m, hm⟩ := hG w hI
  split at hx
  · rename_i hc
    obtain ⟨c1, c2, c3, c4⟩ := hc
    injection hx with hx
    subst hx
    cases h2 with
    | cons hp h2 => cases h2 with
      | cons hq _ =>
        have hp : p = .string x.1 := hp
        have hq : q = .string x.2 := hq
        subst hp; subst hq
        have hargs : args = #[.string x.1, .string x.2] := by apply Array.ext'; rw [h3]
        rw [hargs]
        refine (Tryd.strings_Split x.1 x.2 m w c1 hm c2).mono ?_
        rintro e w' ⟨rfl, rfl⟩
        rw [c3]
        refine ⟨_, rfl, ⟨[.slice (some ⟨w.heap.size, 0, none⟩) (splitS x.1 x.2).length (splitS x.1 x.2).length], fun _ => False, fun _ _ => False, HidI.none, ⟨_, rfl, ((splitS x.1 x.2).map Value.string), ⟨by simp [CK.sz], .inr ⟨w.heap.size, _, _, rfl, Nat.le_refl _, heap_alloc_new w _, Nat.le_refl _, c4, by simp [CK.sz, splitS], by simp only [CK.sz, Nat.mul_one, splitS]; exact List.take_of_length_le (by simp)⟩⟩, fun j y hj => ?_⟩, fun i j u u' g hu hu' _ _ => ?_, fun k h => h, (fun h => Bool.noConfusion (show (false : Bool) = true from h)), [.slice (some ⟨w.heap.size, 0, none⟩) (splitS x.1 x.2).length (splitS x.1 x.2).length], rfl, rfl⟩, Kp.alloc _ (Nat.le_refl _)⟩
        · refine ⟨[.string y], rfl, fun i u hi => ?_⟩
          cases i with
          | zero => simp at hi; subst hi; simp [CK.sz, hj]
          | succ i => simp at hi
        · cases i with
          | zero => cases j with
            | zero => rfl
            | succ j => simp [rowsV] at hu'
          | succ i => simp [rowsV] at hu
  · cases hx
theorem x_strings_Split_ok : CtrOk Tryd.prog 95 ⟨x_strings_Split_sig, x_strings_Split_f⟩ := split_ok fun _ h => gl_cell h
end FN
set_option linter.unusedVariables false
namespace FN
open Go Go.Proofs
/-! loop.example/firingnets/spec.l1Cut -/
@[reducible] def s_l1Cut_sig : Sig := { ps := [none, none], pc := [.str, .int .u8], rs := [none], rc := [.row 9 .str] }
noncomputable def s_l1Cut_E : Env' := { fn := fun f => none, ck := ckT, cuts := [(4, [0, 1, 5, 6, 7]), (9, [0, 5, 6])], mine := fun i => false }
noncomputable def s_l1Cut_f (x : Ts s_l1Cut_sig.pc) : Option (Ts s_l1Cut_sig.rc) := runFn Tryd.prog (s_l1Cut_E) Tryd.f106 s_l1Cut_sig x
noncomputable def s_l1Cut_l0 (y0 : ByteArray) (y1 : Int) (y2 : Int) (y3 : Int) (y4 : List (ByteArray)) : Option ((List (ByteArray))) := from_ Tryd.prog (s_l1Cut_E) Tryd.f106 s_l1Cut_sig [1, 1, 1, 0, 1, 0] ⟨mkT 35 [(0, .str y0), (1, .int .u8 y1), (5, .own 0), (6, .int .i64 y2), (7, .int .i64 y3)], [some (.arr 9 true .str y4)]⟩
noncomputable def s_l1Cut_j1 (y0 : ByteArray) (y1 : Int) (y2 : List (ByteArray)) : Option ((List (ByteArray))) := from_ Tryd.prog (s_l1Cut_E) Tryd.f106 s_l1Cut_sig [1, 1, 1, 1] ⟨mkT 35 [(0, .str y0), (5, .own 0), (6, .int .i64 y1)], [some (.arr 9 true .str y2)]⟩
theorem s_l1Cut_f_eq (x0 : (ByteArray)) (x1 : (Int)) : s_l1Cut_f (x0, x1) = (s_l1Cut_l0 x0 x1 0 0 ([] : List (ByteArray))) := by
  kernel_rfl
theorem s_l1Cut_l0_eq (y0 : ByteArray) (y1 : Int) (y2 : Int) (y3 : Int) (y4 : List (ByteArray)) : s_l1Cut_l0 y0 y1 y2 y3 y4 = (cond ((decide (y3 < (ByteArray.size y0 : Int)))) (if (0 : Int) ≤ y3 ∧ y3 < (ByteArray.size y0 : Int) then (cond ((((List.getD (ByteArray.data y0).toList (y3 : Int).toNat 0).toNat : Int) == y1)) (if (0 : Int) ≤ y3 ∧ y3 ≤ (ByteArray.size y0 : Int) then (if (0 : Int) ≤ y2 ∧ y2 ≤ y3 then (if (List.length y4 + List.length ([(ByteArray.extract y0 (y2 : Int).toNat (y3 : Int).toNat)] : List (ByteArray))) * 16 ≤ 140737488355328 then (s_l1Cut_l0 y0 y1 (IntKind.i64.wrap (y3 + 1)) (IntKind.i64.wrap (y3 + 1)) (y4 ++ ([(ByteArray.extract y0 (y2 : Int).toNat (y3 : Int).toNat)] : List (ByteArray)))) else none) else none) else none) (s_l1Cut_l0 y0 y1 y2 (IntKind.i64.wrap (y3 + 1)) y4)) else none) (s_l1Cut_j1 y0 y2 y4)) := by
  refine (loopK_eq Tryd.prog (s_l1Cut_E) (sub (Tryd.f106.body.getD .skip) [1, 1, 1, 0, 1, 0, 0]) _ _).trans ?_
  kernel_rfl
theorem s_l1Cut_j1_eq (y0 : ByteArray) (y1 : Int) (y2 : List (ByteArray)) : s_l1Cut_j1 y0 y1 y2 = (if (0 : Int) ≤ y1 ∧ y1 ≤ (ByteArray.size y0 : Int) then (if (List.length y2 + List.length ([(ByteArray.extract y0 (y1 : Int).toNat (ByteArray.size y0))] : List (ByteArray))) * 16 ≤ 140737488355328 then (some (y2 ++ ([(ByteArray.extract y0 (y1 : Int).toNat (ByteArray.size y0))] : List (ByteArray)))) else none) else none) := by
  kernel_rfl
theorem s_l1Cut_ent : Entb Tryd.prog 106 := ⟨Tryd.f106, by kernel_rfl, by kernel_rfl, by kernel_rfl⟩
theorem s_l1Cut_ok : CtrOk Tryd.prog 106 ⟨s_l1Cut_sig, s_l1Cut_f⟩ :=
  ctr_of (fn := Tryd.f106) (by kernel_rfl) (by kernel_rfl) (fun x : Ts s_l1Cut_sig.pc => s_l1Cut_E) (fun x => ⟨fn_none, clo_none, wr_none⟩) (fun h => by cases h) follows_ (fun _ _ => trivial)
end FN
set_option linter.unusedVariables false
namespace FN
open Go Go.Proofs
/-! loop.example/firingnets/spec.l1Digits -/
@[reducible] def s_l1Digits_sig : Sig := { ps := [none], pc := [.str], rs := [none], rc := [.int .i64] }
noncomputable def s_l1Digits_E : Env' := { fn := fun f => if f = 70 then some ⟨s_l1In_sig, s_l1In_f⟩ else none, ck := ckT, cuts := [(5, [0, 3, 4])], mine := fun i => false }
noncomputable def s_l1Digits_f (x : Ts s_l1Digits_sig.pc) : Option (Ts s_l1Digits_sig.rc) := runFn Tryd.prog (s_l1Digits_E) Tryd.f107 s_l1Digits_sig x
noncomputable def s_l1Digits_l0 (y0 : ByteArray) (y1 : Int) (y2 : Int) : Option ((Int)) := from_ Tryd.prog (s_l1Digits_E) Tryd.f107 s_l1Digits_sig [1, 1, 1, 0, 1, 0] ⟨mkT 44 [(0, .str y0), (3, .int .i64 y1), (4, .int .i64 y2)], []⟩
theorem s_l1Digits_f_eq (x0 : (ByteArray)) : s_l1Digits_f x0 = (Option.bind (s_l1In_f ((ByteArray.size x0 : Int), 1, 6)) fun r1 => (cond ((!r1)) (some (-1)) (cond ((decide (1 < (ByteArray.size x0 : Int)))) (if (0 : Int) ≤ 0 ∧ 0 < (ByteArray.size x0 : Int) then (cond ((((List.getD (ByteArray.data x0).toList (0 : Int).toNat 0).toNat : Int) == 48)) (some (-1)) (s_l1Digits_l0 x0 0 0)) else none) (s_l1Digits_l0 x0 0 0)))) := by
  kernel_rfl
theorem s_l1Digits_l0_eq (y0 : ByteArray) (y1 : Int) (y2 : Int) : s_l1Digits_l0 y0 y1 y2 = (cond ((decide (y2 < (ByteArray.size y0 : Int)))) (if (0 : Int) ≤ y2 ∧ y2 < (ByteArray.size y0 : Int) then (cond ((decide (((List.getD (ByteArray.data y0).toList (y2 : Int).toNat 0).toNat : Int) < 48))) (some (-1)) (if (0 : Int) ≤ y2 ∧ y2 < (ByteArray.size y0 : Int) then (cond ((decide (57 < ((List.getD (ByteArray.data y0).toList (y2 : Int).toNat 0).toNat : Int)))) (some (-1)) (if (0 : Int) ≤ y2 ∧ y2 < (ByteArray.size y0 : Int) then (s_l1Digits_l0 y0 (IntKind.i64.wrap ((IntKind.i64.wrap (10 * y1)) + (IntKind.i64.wrap (IntKind.u8.wrap (((List.getD (ByteArray.data y0).toList (y2 : Int).toNat 0).toNat : Int) - 48))))) (IntKind.i64.wrap (y2 + 1))) else none)) else none)) else none) (some y1)) := by
  refine (loopK_eq Tryd.prog (s_l1Digits_E) (sub (Tryd.f107.body.getD .skip) [1, 1, 1, 0, 1, 0, 0]) _ _).trans ?_
  kernel_rfl
theorem s_l1Digits_ent : Entb Tryd.prog 107 := ⟨Tryd.f107, by kernel_rfl, by kernel_rfl, by kernel_rfl⟩
theorem s_l1Digits_ok : CtrOk Tryd.prog 107 ⟨s_l1Digits_sig, s_l1Digits_f⟩ :=
  ctr_of (fn := Tryd.f107) (by kernel_rfl) (by kernel_rfl) (fun x : Ts s_l1Digits_sig.pc => s_l1Digits_E) (fun x => ⟨(fn_cons ⟨s_l1In_ok, s_l1In_ent⟩ fn_none), clo_none, wr_none⟩) (fun h => by cases h) follows_ (fun _ _ => trivial)
end FN
set_option linter.unusedVariables false
namespace FN
open Go Go.Proofs
/-! loop.example/firingnets/impl.NetOk -/
@[reducible] def i_NetOk_sig : Sig := { ps := [none], pc := [.view .i64], rs := [none], rc := [.bool] }
noncomputable def i_NetOk_E : Env' := { fn := fun f => none, ck := ckT, cuts := [(4, [0, 14, 15, 16]), (9, [0, 3, 4, 14, 15, 16, 38, 39])], mine := fun i => false }
noncomputable def i_NetOk_f (x : Ts i_NetOk_sig.pc) : Option (Ts i_NetOk_sig.rc) := runFn Tryd.prog (i_NetOk_E) Tryd.f58 i_NetOk_sig x
noncomputable def i_NetOk_l0 (y0 : List (Int)) (y1 : List (Int)) (y2 : Int) (y3 : Int) : Option ((Bool)) := from_ Tryd.prog (i_NetOk_E) Tryd.f58 i_NetOk_sig [1, 1, 0, 1, 0] ⟨mkT 56 [(0, .row false .i64 y0), (14, .row false .i64 y1), (15, .int .i64 y2), (16, .int .i64 y3)], []⟩
noncomputable def i_NetOk_l1 (y0 : List (Int)) (y1 : Int) (y2 : Int) (y3 : List (Int)) (y4 : Int) (y5 : Int) (y6 : Int) (y7 : Int) : Option ((Bool)) := from_ Tryd.prog (i_NetOk_E) Tryd.f58 i_NetOk_sig [1, 1, 0, 1, 0, 0, 1, 1, 0, 0, 1, 1, 1, 0] ⟨mkT 56 [(0, .row false .i64 y0), (3, .int .i64 y1), (4, .int .i64 y2), (14, .row false .i64 y3), (15, .int .i64 y4), (16, .int .i64 y5), (38, .int .i64 y6), (39, .int .i64 y7)], []⟩
theorem i_NetOk_f_eq (x0 : (List (Int))) : i_NetOk_f x0 = (cond ((decide ((List.length x0 : Int) < 1))) (some false) (cond ((decide (6 < (List.length x0 : Int)))) (some false) (i_NetOk_l0 x0 x0 (List.length x0 : Int) 0))) := by
  kernel_rfl
theorem i_NetOk_l0_eq (y0 : List (Int)) (y1 : List (Int)) (y2 : Int) (y3 : Int) : i_NetOk_l0 y0 y1 y2 y3 = (cond ((decide (y3 < y2))) (if (0 : Int) ≤ y3 ∧ y3 < (List.length y1 : Int) then (cond ((decide ((List.getD y1 (y3 : Int).toNat 0) < 0))) (some false) (if (List.length y0 : Int) < 0 then none else (cond ((decide ((IntKind.i64.wrap (1 * 2 ^ min ((List.length y0 : Int) : Int).toNat IntKind.i64.bits)) ≤ (List.getD y1 (y3 : Int).toNat 0)))) (some false) (if y3 < 0 then none else (cond (((Go.bits .and IntKind.i64 (Int.fdiv (List.getD y1 (y3 : Int).toNat 0) (2 ^ min (y3 : Int).toNat IntKind.i64.bits)) 1) == 1)) (some false) (i_NetOk_l1 y0 y3 (List.getD y1 (y3 : Int).toNat 0) y1 y2 y3 (List.length y0 : Int) 0)))))) else none) (some true)) := by
  refine (loopK_eq Tryd.prog (i_NetOk_E) (sub (Tryd.f58.body.getD .skip) [1, 1, 0, 1, 0, 0]) _ _).trans ?_
  kernel_rfl
theorem i_NetOk_l1_eq (y0 : List (Int)) (y1 : Int) (y2 : Int) (y3 : List (Int)) (y4 : Int) (y5 : Int) (y6 : Int) (y7 : Int) : i_NetOk_l1 y0 y1 y2 y3 y4 y5 y6 y7 = (cond ((decide (y7 < y6))) (if y7 < 0 then none else (if (0 : Int) ≤ y7 ∧ y7 < (List.length y0 : Int) then (if y1 < 0 then none else (cond (((Go.bits .and IntKind.i64 (Int.fdiv y2 (2 ^ min (y7 : Int).toNat IntKind.i64.bits)) 1) != (Go.bits .and IntKind.i64 (Int.fdiv (List.getD y0 (y7 : Int).toNat 0) (2 ^ min (y1 : Int).toNat IntKind.i64.bits)) 1))) (some false) (i_NetOk_l1 y0 y1 y2 y3 y4 y5 y6 (IntKind.i64.wrap (y7 + 1))))) else none)) (i_NetOk_l0 y0 y3 y4 (IntKind.i64.wrap (y5 + 1)))) := by
  refine (loopK_eq Tryd.prog (i_NetOk_E) (sub (Tryd.f58.body.getD .skip) [1, 1, 0, 1, 0, 0, 1, 1, 0, 0, 1, 1, 1, 0, 0]) _ _).trans ?_
  kernel_rfl
theorem i_NetOk_ent : Entb Tryd.prog 58 := ⟨Tryd.f58, by kernel_rfl, by kernel_rfl, by kernel_rfl⟩
theorem i_NetOk_ok : CtrOk Tryd.prog 58 ⟨i_NetOk_sig, i_NetOk_f⟩ :=
  ctr_of (fn := Tryd.f58) (by kernel_rfl) (by kernel_rfl) (fun x : Ts i_NetOk_sig.pc => i_NetOk_E) (fun x => ⟨fn_none, clo_none, wr_none⟩) (fun h => by cases h) follows_ (fun _ _ => trivial)
end FN
set_option linter.unusedVariables false
namespace FN
open Go Go.Proofs
/-! loop.example/firingnets/impl.StateOk -/
@[reducible] def i_StateOk_sig : Sig := { ps := [none, none], pc := [.int .i64, .view .i64], rs := [none], rc := [.bool] }
noncomputable def i_StateOk_E : Env' := { fn := fun f => none, ck := ckT, cuts := [(2, [0, 1, 7, 8, 9]), (7, [0, 1])], mine := fun i => false }
noncomputable def i_StateOk_f (x : Ts i_StateOk_sig.pc) : Option (Ts i_StateOk_sig.rc) := runFn Tryd.prog (i_StateOk_E) Tryd.f87 i_StateOk_sig x
noncomputable def i_StateOk_l0 (y0 : Int) (y1 : List (Int)) (y2 : List (Int)) (y3 : Int) (y4 : Int) : Option ((Bool)) := from_ Tryd.prog (i_StateOk_E) Tryd.f87 i_StateOk_sig [1, 0, 1, 0] ⟨mkT 37 [(0, .int .i64 y0), (1, .row false .i64 y1), (7, .row false .i64 y2), (8, .int .i64 y3), (9, .int .i64 y4)], []⟩
noncomputable def i_StateOk_j1 (y0 : Int) (y1 : List (Int)) : Option ((Bool)) := from_ Tryd.prog (i_StateOk_E) Tryd.f87 i_StateOk_sig [1, 1] ⟨mkT 37 [(0, .int .i64 y0), (1, .row false .i64 y1)], []⟩
theorem i_StateOk_f_eq (x0 : (Int)) (x1 : (List (Int))) : i_StateOk_f (x0, x1) = (i_StateOk_l0 x0 x1 x1 (List.length x1 : Int) 0) := by
  kernel_rfl
theorem i_StateOk_l0_eq (y0 : Int) (y1 : List (Int)) (y2 : List (Int)) (y3 : Int) (y4 : Int) : i_StateOk_l0 y0 y1 y2 y3 y4 = (cond ((decide (y4 < y3))) (if (0 : Int) ≤ y4 ∧ y4 < (List.length y2 : Int) then (cond ((decide ((List.getD y2 (y4 : Int).toNat 0) < 0))) (some false) (cond ((decide (y0 ≤ (List.getD y2 (y4 : Int).toNat 0)))) (some false) (i_StateOk_l0 y0 y1 y2 y3 (IntKind.i64.wrap (y4 + 1))))) else none) (i_StateOk_j1 y0 y1)) := by
  refine (loopK_eq Tryd.prog (i_StateOk_E) (sub (Tryd.f87.body.getD .skip) [1, 0, 1, 0, 0]) _ _).trans ?_
  kernel_rfl
theorem i_StateOk_j1_eq (y0 : Int) (y1 : List (Int)) : i_StateOk_j1 y0 y1 = (cond ((decide (3 ≤ y0))) (cond ((decide (y0 ≤ 5))) (cond ((decide (1 ≤ (List.length y1 : Int)))) (some (decide ((List.length y1 : Int) ≤ 6))) (some false)) (some false)) (some false)) := by
  kernel_rfl
theorem i_StateOk_ent : Entb Tryd.prog 87 := ⟨Tryd.f87, by kernel_rfl, by kernel_rfl, by kernel_rfl⟩
theorem i_StateOk_ok : CtrOk Tryd.prog 87 ⟨i_StateOk_sig, i_StateOk_f⟩ :=
  ctr_of (fn := Tryd.f87) (by kernel_rfl) (by kernel_rfl) (fun x : Ts i_StateOk_sig.pc => i_StateOk_E) (fun x => ⟨fn_none, clo_none, wr_none⟩) (fun h => by cases h) follows_ (fun _ _ => trivial)
end FN
set_option linter.unusedVariables false
namespace FN
open Go Go.Proofs
/-! loop.example/firingnets/impl.asked -/
@[reducible] def i_asked_sig : Sig := { ps := [none, none, none], pc := [.view .i64, .int .i64, .view .i64], rs := [none], rc := [.bool] }
noncomputable def i_asked_E : Env' := { fn := fun f => if f = 58 then some ⟨i_NetOk_sig, i_NetOk_f⟩ else if f = 87 then some ⟨i_StateOk_sig, i_StateOk_f⟩ else none, ck := ckT, cuts := [], mine := fun i => false }
noncomputable def i_asked_f (x : Ts i_asked_sig.pc) : Option (Ts i_asked_sig.rc) := runFn Tryd.prog (i_asked_E) Tryd.f59 i_asked_sig x
theorem i_asked_f_eq (x0 : (List (Int))) (x1 : (Int)) (x2 : (List (Int))) : i_asked_f (x0, x1, x2) = (Option.bind (i_NetOk_f x0) fun r1 => (cond (r1) (Option.bind (i_StateOk_f (x1, x2)) fun r2 => (cond (r2) (some ((List.length x0 : Int) == (List.length x2 : Int))) (some false))) (some false))) := by
  kernel_rfl
theorem i_asked_ent : Entb Tryd.prog 59 := ⟨Tryd.f59, by kernel_rfl, by kernel_rfl, by kernel_rfl⟩
theorem i_asked_ok : CtrOk Tryd.prog 59 ⟨i_asked_sig, i_asked_f⟩ :=
  ctr_of (fn := Tryd.f59) (by kernel_rfl) (by kernel_rfl) (fun x : Ts i_asked_sig.pc => i_asked_E) (fun x => ⟨(fn_cons ⟨i_NetOk_ok, i_NetOk_ent⟩ (fn_cons ⟨i_StateOk_ok, i_StateOk_ent⟩ fn_none)), clo_none, wr_none⟩) (fun h => by cases h) follows_ (fun _ _ => trivial)
end FN
set_option linter.unusedVariables false
namespace FN
open Go Go.Proofs
/-! loop.example/firingnets/impl.PlaceOk -/
@[reducible] def i_PlaceOk_sig : Sig := { ps := [some 3], pc := [.view .i64, .int .i64, .view .i64], rs := [none], rc := [.bool] }
noncomputable def i_PlaceOk_E : Env' := { fn := fun f => if f = 59 then some ⟨i_asked_sig, i_asked_f⟩ else none, ck := ckT, cuts := [], mine := fun i => false }
noncomputable def i_PlaceOk_f (x : Ts i_PlaceOk_sig.pc) : Option (Ts i_PlaceOk_sig.rc) := runFn Tryd.prog (i_PlaceOk_E) Tryd.f45 i_PlaceOk_sig x
theorem i_PlaceOk_f_eq (x0 : (List (Int))) (x1 : (Int)) (x2 : (List (Int))) : i_PlaceOk_f (x0, x1, x2) = (Option.bind (i_asked_f (x0, x1, x2)) fun r1 => (some r1)) := by
  kernel_rfl
theorem i_PlaceOk_ent : Entb Tryd.prog 45 := ⟨Tryd.f45, by kernel_rfl, by kernel_rfl, by kernel_rfl⟩
theorem i_PlaceOk_ok : CtrOk Tryd.prog 45 ⟨i_PlaceOk_sig, i_PlaceOk_f⟩ :=
  ctr_of (fn := Tryd.f45) (by kernel_rfl) (by kernel_rfl) (fun x : Ts i_PlaceOk_sig.pc => i_PlaceOk_E) (fun x => ⟨(fn_cons ⟨i_asked_ok, i_asked_ent⟩ fn_none), clo_none, wr_none⟩) (fun h => by cases h) follows_ (fun _ _ => trivial)
end FN
set_option linter.unusedVariables false
namespace FN
open Go Go.Proofs
/-! loop.example/firingnets/spec.NetOk -/
@[reducible] def s_NetOk_sig : Sig := { ps := [none], pc := [.view .i64], rs := [none], rc := [.bool] }
noncomputable def s_NetOk_E : Env' := { fn := fun f => if f = 70 then some ⟨s_l1In_sig, s_l1In_f⟩ else none, ck := ckT, cuts := [(4, [0, 3]), (8, [0]), (9, [0, 4]), (12, [0, 4, 5])], mine := fun i => false }
noncomputable def s_NetOk_f (x : Ts s_NetOk_sig.pc) : Option (Ts s_NetOk_sig.rc) := runFn Tryd.prog (s_NetOk_E) Tryd.f96 s_NetOk_sig x
noncomputable def s_NetOk_l0 (y0 : List (Int)) (y1 : Int) : Option ((Bool)) := from_ Tryd.prog (s_NetOk_E) Tryd.f96 s_NetOk_sig [1, 1, 0, 1, 0] ⟨mkT 68 [(0, .row false .i64 y0), (3, .int .i64 y1)], []⟩
noncomputable def s_NetOk_j1 (y0 : List (Int)) : Option ((Bool)) := from_ Tryd.prog (s_NetOk_E) Tryd.f96 s_NetOk_sig [1, 1, 1] ⟨mkT 68 [(0, .row false .i64 y0)], []⟩
noncomputable def s_NetOk_l2 (y0 : List (Int)) (y1 : Int) : Option ((Bool)) := from_ Tryd.prog (s_NetOk_E) Tryd.f96 s_NetOk_sig [1, 1, 1, 0, 1, 0] ⟨mkT 68 [(0, .row false .i64 y0), (4, .int .i64 y1)], []⟩
noncomputable def s_NetOk_l3 (y0 : List (Int)) (y1 : Int) (y2 : Int) : Option ((Bool)) := from_ Tryd.prog (s_NetOk_E) Tryd.f96 s_NetOk_sig [1, 1, 1, 0, 1, 0, 0, 1, 0, 0, 1, 0] ⟨mkT 68 [(0, .row false .i64 y0), (4, .int .i64 y1), (5, .int .i64 y2)], []⟩
theorem s_NetOk_f_eq (x0 : (List (Int))) : s_NetOk_f x0 = (Option.bind (s_l1In_f ((List.length x0 : Int), 1, 6)) fun r1 => (cond ((!r1)) (some false) (s_NetOk_l0 x0 0))) := by
  kernel_rfl
theorem s_NetOk_l0_eq (y0 : List (Int)) (y1 : Int) : s_NetOk_l0 y0 y1 = (cond ((decide (y1 < (List.length y0 : Int)))) (if (0 : Int) ≤ y1 ∧ y1 < (List.length y0 : Int) then (if (List.length y0 : Int) < 0 then none else (Option.bind (s_l1In_f ((List.getD y0 (y1 : Int).toNat 0), 0, (IntKind.i64.wrap ((IntKind.i64.wrap (1 * 2 ^ min ((List.length y0 : Int) : Int).toNat IntKind.i64.bits)) - 1)))) fun r1 => (cond ((!r1)) (some false) (s_NetOk_l0 y0 (IntKind.i64.wrap (y1 + 1)))))) else none) (s_NetOk_j1 y0)) := by
  refine (loopK_eq Tryd.prog (s_NetOk_E) (sub (Tryd.f96.body.getD .skip) [1, 1, 0, 1, 0, 0]) _ _).trans ?_
  kernel_rfl
theorem s_NetOk_j1_eq (y0 : List (Int)) : s_NetOk_j1 y0 = (s_NetOk_l2 y0 0) := by
  kernel_rfl
theorem s_NetOk_l2_eq (y0 : List (Int)) (y1 : Int) : s_NetOk_l2 y0 y1 = (cond ((decide (y1 < (List.length y0 : Int)))) (s_NetOk_l3 y0 y1 0) (some true)) := by
  refine (loopK_eq Tryd.prog (s_NetOk_E) (sub (Tryd.f96.body.getD .skip) [1, 1, 1, 0, 1, 0, 0]) _ _).trans ?_
  kernel_rfl
theorem s_NetOk_l3_eq (y0 : List (Int)) (y1 : Int) (y2 : Int) : s_NetOk_l3 y0 y1 y2 = (cond ((decide (y2 < (List.length y0 : Int)))) (if (0 : Int) ≤ y1 ∧ y1 < (List.length y0 : Int) then (if y2 < 0 then none else (if (0 : Int) ≤ y2 ∧ y2 < (List.length y0 : Int) then (if y1 < 0 then none else (cond (((Int.tmod (Int.fdiv (List.getD y0 (y1 : Int).toNat 0) (2 ^ min (y2 : Int).toNat IntKind.i64.bits)) 2) != (Int.tmod (Int.fdiv (List.getD y0 (y2 : Int).toNat 0) (2 ^ min (y1 : Int).toNat IntKind.i64.bits)) 2))) (some false) (cond ((y2 == y1)) (if (0 : Int) ≤ y1 ∧ y1 < (List.length y0 : Int) then (if y2 < 0 then none else (cond (((Int.tmod (Int.fdiv (List.getD y0 (y1 : Int).toNat 0) (2 ^ min (y2 : Int).toNat IntKind.i64.bits)) 2) == 1)) (some false) (s_NetOk_l3 y0 y1 (IntKind.i64.wrap (y2 + 1))))) else none) (s_NetOk_l3 y0 y1 (IntKind.i64.wrap (y2 + 1)))))) else none)) else none) (s_NetOk_l2 y0 (IntKind.i64.wrap (y1 + 1)))) := by
  refine (loopK_eq Tryd.prog (s_NetOk_E) (sub (Tryd.f96.body.getD .skip) [1, 1, 1, 0, 1, 0, 0, 1, 0, 0, 1, 0, 0]) _ _).trans ?_
  kernel_rfl
theorem s_NetOk_ent : Entb Tryd.prog 96 := ⟨Tryd.f96, by kernel_rfl, by kernel_rfl, by kernel_rfl⟩
theorem s_NetOk_ok : CtrOk Tryd.prog 96 ⟨s_NetOk_sig, s_NetOk_f⟩ :=
  ctr_of (fn := Tryd.f96) (by kernel_rfl) (by kernel_rfl) (fun x : Ts s_NetOk_sig.pc => s_NetOk_E) (fun x => ⟨(fn_cons ⟨s_l1In_ok, s_l1In_ent⟩ fn_none), clo_none, wr_none⟩) (fun h => by cases h) follows_ (fun _ _ => trivial)
end FN
set_option linter.unusedVariables false
namespace FN
open Go Go.Proofs
/-! loop.example/firingnets/spec.StateOk -/
@[reducible] def s_StateOk_sig : Sig := { ps := [none, none], pc := [.int .i64, .view .i64], rs := [none], rc := [.bool] }
noncomputable def s_StateOk_E : Env' := { fn := fun f => if f = 70 then some ⟨s_l1In_sig, s_l1In_f⟩ else none, ck := ckT, cuts := [(2, [0, 1, 5]), (6, [0, 1])], mine := fun i => false }
noncomputable def s_StateOk_f (x : Ts s_StateOk_sig.pc) : Option (Ts s_StateOk_sig.rc) := runFn Tryd.prog (s_StateOk_E) Tryd.f97 s_StateOk_sig x
noncomputable def s_StateOk_l0 (y0 : Int) (y1 : List (Int)) (y2 : Int) : Option ((Bool)) := from_ Tryd.prog (s_StateOk_E) Tryd.f97 s_StateOk_sig [1, 0, 1, 0] ⟨mkT 32 [(0, .int .i64 y0), (1, .row false .i64 y1), (5, .int .i64 y2)], []⟩
noncomputable def s_StateOk_j1 (y0 : Int) (y1 : List (Int)) : Option ((Bool)) := from_ Tryd.prog (s_StateOk_E) Tryd.f97 s_StateOk_sig [1, 1] ⟨mkT 32 [(0, .int .i64 y0), (1, .row false .i64 y1)], []⟩
theorem s_StateOk_f_eq (x0 : (Int)) (x1 : (List (Int))) : s_StateOk_f (x0, x1) = (s_StateOk_l0 x0 x1 0) := by
  kernel_rfl
theorem s_StateOk_l0_eq (y0 : Int) (y1 : List (Int)) (y2 : Int) : s_StateOk_l0 y0 y1 y2 = (cond ((decide (y2 < (List.length y1 : Int)))) (if (0 : Int) ≤ y2 ∧ y2 < (List.length y1 : Int) then (cond ((decide ((List.getD y1 (y2 : Int).toNat 0) < 0))) (some false) (if (0 : Int) ≤ y2 ∧ y2 < (List.length y1 : Int) then (cond ((decide (y0 ≤ (List.getD y1 (y2 : Int).toNat 0)))) (some false) (s_StateOk_l0 y0 y1 (IntKind.i64.wrap (y2 + 1)))) else none)) else none) (s_StateOk_j1 y0 y1)) := by
  refine (loopK_eq Tryd.prog (s_StateOk_E) (sub (Tryd.f97.body.getD .skip) [1, 0, 1, 0, 0]) _ _).trans ?_
  kernel_rfl
theorem s_StateOk_j1_eq (y0 : Int) (y1 : List (Int)) : s_StateOk_j1 y0 y1 = (Option.bind (s_l1In_f (y0, 3, 5)) fun r1 => (cond (r1) (Option.bind (s_l1In_f ((List.length y1 : Int), 1, 6)) fun r2 => (some r2)) (some false))) := by
  kernel_rfl
theorem s_StateOk_ent : Entb Tryd.prog 97 := ⟨Tryd.f97, by kernel_rfl, by kernel_rfl, by kernel_rfl⟩
theorem s_StateOk_ok : CtrOk Tryd.prog 97 ⟨s_StateOk_sig, s_StateOk_f⟩ :=
  ctr_of (fn := Tryd.f97) (by kernel_rfl) (by kernel_rfl) (fun x : Ts s_StateOk_sig.pc => s_StateOk_E) (fun x => ⟨(fn_cons ⟨s_l1In_ok, s_l1In_ent⟩ fn_none), clo_none, wr_none⟩) (fun h => by cases h) follows_ (fun _ _ => trivial)
end FN
set_option linter.unusedVariables false
namespace FN
open Go Go.Proofs
/-! loop.example/firingnets/spec.l3Ok -/
@[reducible] def s_l3Ok_sig : Sig := { ps := [none, none, none], pc := [.view .i64, .int .i64, .view .i64], rs := [none], rc := [.bool] }
noncomputable def s_l3Ok_E : Env' := { fn := fun f => if f = 96 then some ⟨s_NetOk_sig, s_NetOk_f⟩ else if f = 97 then some ⟨s_StateOk_sig, s_StateOk_f⟩ else none, ck := ckT, cuts := [], mine := fun i => false }
noncomputable def s_l3Ok_f (x : Ts s_l3Ok_sig.pc) : Option (Ts s_l3Ok_sig.rc) := runFn Tryd.prog (s_l3Ok_E) Tryd.f75 s_l3Ok_sig x
theorem s_l3Ok_f_eq (x0 : (List (Int))) (x1 : (Int)) (x2 : (List (Int))) : s_l3Ok_f (x0, x1, x2) = (Option.bind (s_NetOk_f x0) fun r1 => (cond (r1) (Option.bind (s_StateOk_f (x1, x2)) fun r2 => (cond (r2) (some ((List.length x2 : Int) == (List.length x0 : Int))) (some false))) (some false))) := by
  kernel_rfl
theorem s_l3Ok_ent : Entb Tryd.prog 75 := ⟨Tryd.f75, by kernel_rfl, by kernel_rfl, by kernel_rfl⟩
theorem s_l3Ok_ok : CtrOk Tryd.prog 75 ⟨s_l3Ok_sig, s_l3Ok_f⟩ :=
  ctr_of (fn := Tryd.f75) (by kernel_rfl) (by kernel_rfl) (fun x : Ts s_l3Ok_sig.pc => s_l3Ok_E) (fun x => ⟨(fn_cons ⟨s_NetOk_ok, s_NetOk_ent⟩ (fn_cons ⟨s_StateOk_ok, s_StateOk_ent⟩ fn_none)), clo_none, wr_none⟩) (fun h => by cases h) follows_ (fun _ _ => trivial)
end FN
set_option linter.unusedVariables false
namespace FN
open Go Go.Proofs
/-! loop.example/firingnets/spec.PlaceOk -/
@[reducible] def s_PlaceOk_sig : Sig := { ps := [some 3], pc := [.view .i64, .int .i64, .view .i64], rs := [none], rc := [.bool] }
noncomputable def s_PlaceOk_E : Env' := { fn := fun f => if f = 75 then some ⟨s_l3Ok_sig, s_l3Ok_f⟩ else none, ck := ckT, cuts := [], mine := fun i => false }
noncomputable def s_PlaceOk_f (x : Ts s_PlaceOk_sig.pc) : Option (Ts s_PlaceOk_sig.rc) := runFn Tryd.prog (s_PlaceOk_E) Tryd.f38 s_PlaceOk_sig x
theorem s_PlaceOk_f_eq (x0 : (List (Int))) (x1 : (Int)) (x2 : (List (Int))) : s_PlaceOk_f (x0, x1, x2) = (Option.bind (s_l3Ok_f (x0, x1, x2)) fun r1 => (some r1)) := by
  kernel_rfl
theorem s_PlaceOk_ent : Entb Tryd.prog 38 := ⟨Tryd.f38, by kernel_rfl, by kernel_rfl, by kernel_rfl⟩
theorem s_PlaceOk_ok : CtrOk Tryd.prog 38 ⟨s_PlaceOk_sig, s_PlaceOk_f⟩ :=
  ctr_of (fn := Tryd.f38) (by kernel_rfl) (by kernel_rfl) (fun x : Ts s_PlaceOk_sig.pc => s_PlaceOk_E) (fun x => ⟨(fn_cons ⟨s_l3Ok_ok, s_l3Ok_ent⟩ fn_none), clo_none, wr_none⟩) (fun h => by cases h) follows_ (fun _ _ => trivial)
end FN
set_option linter.unusedVariables false
namespace FN
open Go Go.Proofs
/-! loop.example/firingnets/spec.PlaceText -/
@[reducible] def s_PlaceText_sig : Sig := { ps := [some 3], pc := [.view .i64, .int .i64, .view .i64], rs := [none], rc := [.str] }
noncomputable def s_PlaceText_E : Env' := { fn := fun f => if f = 38 then some ⟨s_PlaceOk_sig, s_PlaceOk_f⟩ else if f = 76 then some ⟨s_l1Number_sig, s_l1Number_f⟩ else none, ck := ckT, cuts := [(6, [1, 3, 4, 5]), (10, [1, 3, 4, 5, 6]), (15, [1, 3, 4, 5, 6]), (16, [1, 3, 4]), (18, [1, 3, 4])], mine := fun i => false }
noncomputable def s_PlaceText_f (x : Ts s_PlaceText_sig.pc) : Option (Ts s_PlaceText_sig.rc) := runFn Tryd.prog (s_PlaceText_E) Tryd.f39 s_PlaceText_sig x
noncomputable def s_PlaceText_l0 (y0 : ByteArray) (y1 : ByteArray) (y2 : Int) (y3 : List (Int)) (y4 : Int) (y5 : List (Int)) : Option ((ByteArray)) := from_ Tryd.prog (s_PlaceText_E) Tryd.f39 s_PlaceText_sig [1, 1, 1, 1, 0, 1, 0] ⟨mkT 71 [(1, .ptr 0 0), (3, .str y0), (4, .str y1), (5, .int .i64 y2)], [some (.box 31 [.row false .i64 y3, .int .i64 y4, .row false .i64 y5])]⟩
noncomputable def s_PlaceText_l1 (y0 : ByteArray) (y1 : ByteArray) (y2 : Int) (y3 : Int) (y4 : List (Int)) (y5 : Int) (y6 : List (Int)) : Option ((ByteArray)) := from_ Tryd.prog (s_PlaceText_E) Tryd.f39 s_PlaceText_sig [1, 1, 1, 1, 0, 1, 0, 0, 1, 0, 0, 1, 1, 0] ⟨mkT 71 [(1, .ptr 0 0), (3, .str y0), (4, .str y1), (5, .int .i64 y2), (6, .int .i64 y3)], [some (.box 31 [.row false .i64 y4, .int .i64 y5, .row false .i64 y6])]⟩
noncomputable def s_PlaceText_j2 (y0 : ByteArray) (y1 : ByteArray) (y2 : List (Int)) (y3 : Int) (y4 : List (Int)) : Option ((ByteArray)) := from_ Tryd.prog (s_PlaceText_E) Tryd.f39 s_PlaceText_sig [1, 1, 1, 1, 1] ⟨mkT 71 [(1, .ptr 0 0), (3, .str y0), (4, .str y1)], [some (.box 31 [.row false .i64 y2, .int .i64 y3, .row false .i64 y4])]⟩
noncomputable def s_PlaceText_j3 (y0 : ByteArray) (y1 : ByteArray) (y2 : Int) (y3 : Int) (y4 : List (Int)) (y5 : Int) (y6 : List (Int)) : Option ((ByteArray)) := from_ Tryd.prog (s_PlaceText_E) Tryd.f39 s_PlaceText_sig [1, 1, 1, 1, 0, 1, 0, 0, 1, 0, 0, 1, 1, 0, 0, 1, 0, 0, 1, 1] ⟨mkT 71 [(1, .ptr 0 0), (3, .str y0), (4, .str y1), (5, .int .i64 y2), (6, .int .i64 y3)], [some (.box 31 [.row false .i64 y4, .int .i64 y5, .row false .i64 y6])]⟩
noncomputable def s_PlaceText_j4 (y0 : ByteArray) (y1 : ByteArray) (y2 : List (Int)) (y3 : Int) (y4 : List (Int)) : Option ((ByteArray)) := from_ Tryd.prog (s_PlaceText_E) Tryd.f39 s_PlaceText_sig [1, 1, 1, 1, 1, 1] ⟨mkT 71 [(1, .ptr 0 0), (3, .str y0), (4, .str y1)], [some (.box 31 [.row false .i64 y2, .int .i64 y3, .row false .i64 y4])]⟩
theorem s_PlaceText_f_eq (x0 : (List (Int))) (x1 : (Int)) (x2 : (List (Int))) : s_PlaceText_f (x0, x1, x2) = (Option.bind (s_PlaceOk_f (x0, x1, x2)) fun r1 => (cond ((!r1)) (some ByteArray.empty) (s_PlaceText_l0 ByteArray.empty ByteArray.empty 0 x0 x1 x2))) := by
  kernel_rfl
theorem s_PlaceText_l0_eq (y0 : ByteArray) (y1 : ByteArray) (y2 : Int) (y3 : List (Int)) (y4 : Int) (y5 : List (Int)) : s_PlaceText_l0 y0 y1 y2 y3 y4 y5 = (cond ((decide (y2 < (List.length y3 : Int)))) (if (0 : Int) ≤ y2 ∧ y2 < (List.length y5 : Int) then (Option.bind (s_l1Number_f (List.getD y5 (y2 : Int).toNat 0)) fun r1 => (if ByteArray.size y1 + ByteArray.size r1 ≤ 9223372036854775807 then (s_PlaceText_l1 y0 (y1 ++ r1) y2 (IntKind.i64.wrap (y2 + 1)) y3 y4 y5) else none)) else none) (s_PlaceText_j2 y0 y1 y3 y4 y5)) := by
  refine (loopK_eq Tryd.prog (s_PlaceText_E) (sub (Tryd.f39.body.getD .skip) [1, 1, 1, 1, 0, 1, 0, 0]) _ _).trans ?_
  kernel_rfl
theorem s_PlaceText_l1_eq (y0 : ByteArray) (y1 : ByteArray) (y2 : Int) (y3 : Int) (y4 : List (Int)) (y5 : Int) (y6 : List (Int)) : s_PlaceText_l1 y0 y1 y2 y3 y4 y5 y6 = (cond ((decide (y3 < (List.length y4 : Int)))) (if (0 : Int) ≤ y2 ∧ y2 < (List.length y4 : Int) then (if y3 < 0 then none else (cond (((Int.tmod (Int.fdiv (List.getD y4 (y2 : Int).toNat 0) (2 ^ min (y3 : Int).toNat IntKind.i64.bits)) 2) == 0)) (s_PlaceText_l1 y0 y1 y2 (IntKind.i64.wrap (y3 + 1)) y4 y5 y6) (cond ((!(ByteArray.toList y0 == ByteArray.toList ByteArray.empty))) (if ByteArray.size y0 + ByteArray.size str14 ≤ 9223372036854775807 then (s_PlaceText_j3 (y0 ++ str14) y1 y2 y3 y4 y5 y6) else none) (s_PlaceText_j3 y0 y1 y2 y3 y4 y5 y6)))) else none) (s_PlaceText_l0 y0 y1 (IntKind.i64.wrap (y2 + 1)) y4 y5 y6)) := by
  refine (loopK_eq Tryd.prog (s_PlaceText_E) (sub (Tryd.f39.body.getD .skip) [1, 1, 1, 1, 0, 1, 0, 0, 1, 0, 0, 1, 1, 0, 0]) _ _).trans ?_
  kernel_rfl
theorem s_PlaceText_j2_eq (y0 : ByteArray) (y1 : ByteArray) (y2 : List (Int)) (y3 : Int) (y4 : List (Int)) : s_PlaceText_j2 y0 y1 y2 y3 y4 = (cond ((ByteArray.toList y0 == ByteArray.toList ByteArray.empty)) (s_PlaceText_j4 str15 y1 y2 y3 y4) (s_PlaceText_j4 y0 y1 y2 y3 y4)) := by
  kernel_rfl
theorem s_PlaceText_j3_eq (y0 : ByteArray) (y1 : ByteArray) (y2 : Int) (y3 : Int) (y4 : List (Int)) (y5 : Int) (y6 : List (Int)) : s_PlaceText_j3 y0 y1 y2 y3 y4 y5 y6 = (Option.bind (s_l1Number_f y2) fun r1 => (if ByteArray.size y0 + ByteArray.size r1 ≤ 9223372036854775807 then (Option.bind (s_l1Number_f y3) fun r2 => (if ByteArray.size (y0 ++ r1) + ByteArray.size r2 ≤ 9223372036854775807 then (s_PlaceText_l1 ((y0 ++ r1) ++ r2) y1 y2 (IntKind.i64.wrap (y3 + 1)) y4 y5 y6) else none)) else none)) := by
  kernel_rfl
theorem s_PlaceText_j4_eq (y0 : ByteArray) (y1 : ByteArray) (y2 : List (Int)) (y3 : Int) (y4 : List (Int)) : s_PlaceText_j4 y0 y1 y2 y3 y4 = (Option.bind (s_l1Number_f (List.length y2 : Int)) fun r1 => (if ByteArray.size r1 + ByteArray.size str1 ≤ 9223372036854775807 then (if ByteArray.size (r1 ++ str1) + ByteArray.size y0 ≤ 9223372036854775807 then (if ByteArray.size ((r1 ++ str1) ++ y0) + ByteArray.size str1 ≤ 9223372036854775807 then (Option.bind (s_l1Number_f y3) fun r2 => (if ByteArray.size (((r1 ++ str1) ++ y0) ++ str1) + ByteArray.size r2 ≤ 9223372036854775807 then (if ByteArray.size ((((r1 ++ str1) ++ y0) ++ str1) ++ r2) + ByteArray.size str1 ≤ 9223372036854775807 then (if ByteArray.size (((((r1 ++ str1) ++ y0) ++ str1) ++ r2) ++ str1) + ByteArray.size y1 ≤ 9223372036854775807 then (some ((((((r1 ++ str1) ++ y0) ++ str1) ++ r2) ++ str1) ++ y1)) else none) else none) else none)) else none) else none) else none)) := by
  kernel_rfl
theorem s_PlaceText_ent : Entb Tryd.prog 39 := ⟨Tryd.f39, by kernel_rfl, by kernel_rfl, by kernel_rfl⟩
theorem s_PlaceText_ok : CtrOk Tryd.prog 39 ⟨s_PlaceText_sig, s_PlaceText_f⟩ :=
  ctr_of (fn := Tryd.f39) (by kernel_rfl) (by kernel_rfl) (fun x : Ts s_PlaceText_sig.pc => s_PlaceText_E) (fun x => ⟨(fn_cons ⟨s_PlaceOk_ok, s_PlaceOk_ent⟩ (fn_cons ⟨s_l1Number_ok, s_l1Number_ent⟩ fn_none)), clo_none, wr_none⟩) (fun h => by cases h) follows_ (fun _ _ => trivial)
end FN
set_option linter.unusedVariables false
namespace FN
open Go Go.Proofs
/-! loop.example/firingnets/impl.PlaceText -/
@[reducible] def i_PlaceText_sig : Sig := { ps := [some 3], pc := [.view .i64, .int .i64, .view .i64], rs := [none], rc := [.str] }
noncomputable def i_PlaceText_E : Env' := { fn := fun f => if f = 45 then some ⟨i_PlaceOk_sig, i_PlaceOk_f⟩ else if f = 78 then some ⟨x_strconv_Itoa_sig, x_strconv_Itoa_f⟩ else if f = 79 then some ⟨x_strings_Join_sig, x_strings_Join_f⟩ else none, ck := ckT, cuts := [(5, [1, 3, 15, 16, 17]), (8, [1, 3, 4, 5, 6, 15, 16, 17]), (13, [1, 3]), (15, [1, 3]), (17, [7, 66, 67, 68])], mine := fun i => false }
noncomputable def i_PlaceText_f (x : Ts i_PlaceText_sig.pc) : Option (Ts i_PlaceText_sig.rc) := runFn Tryd.prog (i_PlaceText_E) Tryd.f46 i_PlaceText_sig x
noncomputable def i_PlaceText_l0 (y0 : List (Int)) (y1 : Int) (y2 : Int) (y3 : List (Int)) (y4 : Int) (y5 : List (Int)) (y6 : List (ByteArray)) : Option ((ByteArray)) := from_ Tryd.prog (i_PlaceText_E) Tryd.f46 i_PlaceText_sig [1, 1, 1, 0, 1, 0] ⟨mkT 78 [(1, .ptr 0 0), (3, .own 1), (15, .row false .i64 y0), (16, .int .i64 y1), (17, .int .i64 y2)], [some (.box 31 [.row false .i64 y3, .int .i64 y4, .row false .i64 y5]), some (.arr 9 true .str y6)]⟩
noncomputable def i_PlaceText_l1 (y0 : Int) (y1 : Int) (y2 : Int) (y3 : List (Int)) (y4 : Int) (y5 : Int) (y6 : List (Int)) (y7 : Int) (y8 : List (Int)) (y9 : List (ByteArray)) : Option ((ByteArray)) := from_ Tryd.prog (i_PlaceText_E) Tryd.f46 i_PlaceText_sig [1, 1, 1, 0, 1, 0, 0, 1, 1, 0, 0, 1, 1, 0] ⟨mkT 78 [(1, .ptr 0 0), (3, .own 1), (4, .int .i64 y0), (5, .int .i64 y1), (6, .int .i64 y2), (15, .row false .i64 y3), (16, .int .i64 y4), (17, .int .i64 y5)], [some (.box 31 [.row false .i64 y6, .int .i64 y7, .row false .i64 y8]), some (.arr 9 true .str y9)]⟩
noncomputable def i_PlaceText_j2 (y0 : List (Int)) (y1 : Int) (y2 : List (Int)) (y3 : List (ByteArray)) : Option ((ByteArray)) := from_ Tryd.prog (i_PlaceText_E) Tryd.f46 i_PlaceText_sig [1, 1, 1, 1] ⟨mkT 78 [(1, .ptr 0 0), (3, .own 1)], [some (.box 31 [.row false .i64 y0, .int .i64 y1, .row false .i64 y2]), some (.arr 9 true .str y3)]⟩
noncomputable def i_PlaceText_j3 (y0 : List (Int)) (y1 : Int) (y2 : List (Int)) (y3 : List (ByteArray)) : Option ((ByteArray)) := from_ Tryd.prog (i_PlaceText_E) Tryd.f46 i_PlaceText_sig [1, 1, 1, 1, 1] ⟨mkT 78 [(1, .ptr 0 0), (3, .own 1)], [some (.box 31 [.row false .i64 y0, .int .i64 y1, .row false .i64 y2]), some (.arr 9 true .str y3)]⟩
noncomputable def i_PlaceText_l4 (y0 : ByteArray) (y1 : List (Int)) (y2 : Int) (y3 : Int) : Option ((ByteArray)) := from_ Tryd.prog (i_PlaceText_E) Tryd.f46 i_PlaceText_sig [1, 1, 1, 1, 1, 1, 0, 1, 0] ⟨mkT 78 [(7, .str y0), (66, .row false .i64 y1), (67, .int .i64 y2), (68, .int .i64 y3)], []⟩
theorem i_PlaceText_f_eq (x0 : (List (Int))) (x1 : (Int)) (x2 : (List (Int))) : i_PlaceText_f (x0, x1, x2) = (Option.bind (i_PlaceOk_f (x0, x1, x2)) fun r1 => (cond ((!r1)) (some ByteArray.empty) (i_PlaceText_l0 x0 (List.length x0 : Int) 0 x0 x1 x2 ([] : List (ByteArray))))) := by
  kernel_rfl
theorem i_PlaceText_l0_eq (y0 : List (Int)) (y1 : Int) (y2 : Int) (y3 : List (Int)) (y4 : Int) (y5 : List (Int)) (y6 : List (ByteArray)) : i_PlaceText_l0 y0 y1 y2 y3 y4 y5 y6 = (cond ((decide (y2 < y1))) (if (0 : Int) ≤ y2 ∧ y2 < (List.length y0 : Int) then (i_PlaceText_l1 y2 (List.getD y0 (y2 : Int).toNat 0) (IntKind.i64.wrap (y2 + 1)) y0 y1 y2 y3 y4 y5 y6) else none) (i_PlaceText_j2 y3 y4 y5 y6)) := by
  refine (loopK_eq Tryd.prog (i_PlaceText_E) (sub (Tryd.f46.body.getD .skip) [1, 1, 1, 0, 1, 0, 0]) _ _).trans ?_
  kernel_rfl
theorem i_PlaceText_l1_eq (y0 : Int) (y1 : Int) (y2 : Int) (y3 : List (Int)) (y4 : Int) (y5 : Int) (y6 : List (Int)) (y7 : Int) (y8 : List (Int)) (y9 : List (ByteArray)) : i_PlaceText_l1 y0 y1 y2 y3 y4 y5 y6 y7 y8 y9 = (cond ((decide (y2 < (List.length y6 : Int)))) (if y2 < 0 then none else (cond (((Go.bits .and IntKind.i64 (Int.fdiv y1 (2 ^ min (y2 : Int).toNat IntKind.i64.bits)) 1) == 1)) (Option.bind (x_strconv_Itoa_f y0) fun r1 => (Option.bind (x_strconv_Itoa_f y2) fun r2 => (if ByteArray.size r1 + ByteArray.size r2 ≤ 9223372036854775807 then (if (List.length y9 + List.length ([(r1 ++ r2)] : List (ByteArray))) * 16 ≤ 140737488355328 then (i_PlaceText_l1 y0 y1 (IntKind.i64.wrap (y2 + 1)) y3 y4 y5 y6 y7 y8 (y9 ++ ([(r1 ++ r2)] : List (ByteArray)))) else none) else none))) (i_PlaceText_l1 y0 y1 (IntKind.i64.wrap (y2 + 1)) y3 y4 y5 y6 y7 y8 y9))) (i_PlaceText_l0 y3 y4 (IntKind.i64.wrap (y5 + 1)) y6 y7 y8 y9)) := by
  refine (loopK_eq Tryd.prog (i_PlaceText_E) (sub (Tryd.f46.body.getD .skip) [1, 1, 1, 0, 1, 0, 0, 1, 1, 0, 0, 1, 1, 0, 0]) _ _).trans ?_
  kernel_rfl
theorem i_PlaceText_j2_eq (y0 : List (Int)) (y1 : Int) (y2 : List (Int)) (y3 : List (ByteArray)) : i_PlaceText_j2 y0 y1 y2 y3 = (cond (((List.length y3 : Int) == 0)) (if (List.length y3 + List.length ([str15] : List (ByteArray))) * 16 ≤ 140737488355328 then (i_PlaceText_j3 y0 y1 y2 (y3 ++ ([str15] : List (ByteArray)))) else none) (i_PlaceText_j3 y0 y1 y2 y3)) := by
  kernel_rfl
theorem i_PlaceText_j3_eq (y0 : List (Int)) (y1 : Int) (y2 : List (Int)) (y3 : List (ByteArray)) : i_PlaceText_j3 y0 y1 y2 y3 = (Option.bind (x_strconv_Itoa_f (List.length y0 : Int)) fun r1 => (if ByteArray.size r1 + ByteArray.size str1 ≤ 9223372036854775807 then (Option.bind (x_strings_Join_f (y3, str14)) fun r2 => (if ByteArray.size (r1 ++ str1) + ByteArray.size r2 ≤ 9223372036854775807 then (if ByteArray.size ((r1 ++ str1) ++ r2) + ByteArray.size str1 ≤ 9223372036854775807 then (Option.bind (x_strconv_Itoa_f y1) fun r3 => (if ByteArray.size (((r1 ++ str1) ++ r2) ++ str1) + ByteArray.size r3 ≤ 9223372036854775807 then (if ByteArray.size ((((r1 ++ str1) ++ r2) ++ str1) ++ r3) + ByteArray.size str1 ≤ 9223372036854775807 then (i_PlaceText_l4 (((((r1 ++ str1) ++ r2) ++ str1) ++ r3) ++ str1) y2 (List.length y2 : Int) 0) else none) else none)) else none) else none)) else none)) := by
  kernel_rfl
theorem i_PlaceText_l4_eq (y0 : ByteArray) (y1 : List (Int)) (y2 : Int) (y3 : Int) : i_PlaceText_l4 y0 y1 y2 y3 = (cond ((decide (y3 < y2))) (if (0 : Int) ≤ y3 ∧ y3 < (List.length y1 : Int) then (Option.bind (x_strconv_Itoa_f (List.getD y1 (y3 : Int).toNat 0)) fun r1 => (if ByteArray.size y0 + ByteArray.size r1 ≤ 9223372036854775807 then (i_PlaceText_l4 (y0 ++ r1) y1 y2 (IntKind.i64.wrap (y3 + 1))) else none)) else none) (some y0)) := by
  refine (loopK_eq Tryd.prog (i_PlaceText_E) (sub (Tryd.f46.body.getD .skip) [1, 1, 1, 1, 1, 1, 0, 1, 0, 0]) _ _).trans ?_
  kernel_rfl
theorem i_PlaceText_ent : Entb Tryd.prog 46 := ⟨Tryd.f46, by kernel_rfl, by kernel_rfl, by kernel_rfl⟩
theorem i_PlaceText_ok : CtrOk Tryd.prog 46 ⟨i_PlaceText_sig, i_PlaceText_f⟩ :=
  ctr_of (fn := Tryd.f46) (by kernel_rfl) (by kernel_rfl) (fun x : Ts i_PlaceText_sig.pc => i_PlaceText_E) (fun x => ⟨(fn_cons ⟨i_PlaceOk_ok, i_PlaceOk_ent⟩ (fn_cons ⟨x_strconv_Itoa_ok, x_strconv_Itoa_ent⟩ (fn_cons ⟨x_strings_Join_ok, x_strings_Join_ent⟩ fn_none))), clo_none, wr_none⟩) (fun h => by cases h) follows_ (fun _ _ => trivial)
end FN
set_option linter.unusedVariables false
namespace FN
open Go Go.Proofs
/-! loop.example/firingnets/impl.ReadPlace -/
@[reducible] def i_ReadPlace_sig : Sig := { ps := [none], pc := [.str], rs := [some 3, none], rc := [.row 3 .i64, .int .i64, .row 3 .i64, .bool] }
noncomputable def i_ReadPlace_E : Env' := { fn := fun f => if f = 46 then some ⟨i_PlaceText_sig, i_PlaceText_f⟩ else if f = 95 then some ⟨x_strings_Split_sig, x_strings_Split_f⟩ else none, ck := ckT, cuts := [(10, [0, 2, 4, 5, 6, 61, 62, 63]), (15, [0, 2, 4, 5, 6, 9, 10, 61, 62, 63]), (17, [0, 2, 4, 5, 6, 9, 10, 61, 62, 63]), (18, [0, 2, 4, 5, 6, 9, 10, 61, 62, 63]), (20, [0, 2, 4, 6]), (21, [0, 2, 4, 6, 118, 119]), (25, [0, 2, 6])], mine := fun i => false }
noncomputable def i_ReadPlace_f (x : Ts i_ReadPlace_sig.pc) : Option (Ts i_ReadPlace_sig.rc) := runFn Tryd.prog (i_ReadPlace_E) Tryd.f71 i_ReadPlace_sig x
noncomputable def i_ReadPlace_l0 (y0 : ByteArray) (y1 : List (ByteArray)) (y2 : Int) (y3 : List (ByteArray)) (y4 : Int) (y5 : Int) (y6 : Int) (y7 : Int) (y8 : List (Int)) : Option ((List (Int)) × (Int) × (List (Int)) × (Bool)) := from_ Tryd.prog (i_ReadPlace_E) Tryd.f71 i_ReadPlace_sig [1, 1, 1, 1, 1, 1, 0, 1, 0, 1, 0] ⟨mkT 141 [(0, .str y0), (2, .ptr 0 0), (4, .row true .str y1), (5, .int .i64 y2), (6, .ptr 1 0), (61, .row true .str y3), (62, .int .i64 y4), (63, .int .i64 y5)], [some (.box 31 [.nilS, .int .i64 y6, .nilS]), some (.box 31 [.own 2, .int .i64 y7, .nilS]), some (.arr 3 true .i64 y8)]⟩
noncomputable def i_ReadPlace_j1 (y0 : ByteArray) (y1 : List (ByteArray)) (y2 : Int) (y3 : Int) (y4 : List (Int)) : Option ((List (Int)) × (Int) × (List (Int)) × (Bool)) := from_ Tryd.prog (i_ReadPlace_E) Tryd.f71 i_ReadPlace_sig [1, 1, 1, 1, 1, 1, 1] ⟨mkT 141 [(0, .str y0), (2, .ptr 0 0), (4, .row true .str y1), (6, .ptr 1 0)], [some (.box 31 [.nilS, .int .i64 y2, .nilS]), some (.box 31 [.own 2, .int .i64 y3, .nilS]), some (.arr 3 true .i64 y4)]⟩
noncomputable def i_ReadPlace_j2 (y0 : ByteArray) (y1 : List (ByteArray)) (y2 : Int) (y3 : Int) (y4 : Int) (y5 : List (ByteArray)) (y6 : Int) (y7 : Int) (y8 : Int) (y9 : Int) (y10 : List (Int)) : Option ((List (Int)) × (Int) × (List (Int)) × (Bool)) := from_ Tryd.prog (i_ReadPlace_E) Tryd.f71 i_ReadPlace_sig [1, 1, 1, 1, 1, 1, 0, 1, 0, 1, 0, 0, 1, 1, 0, 0, 1, 1, 1] ⟨mkT 141 [(0, .str y0), (2, .ptr 0 0), (4, .row true .str y1), (5, .int .i64 y2), (6, .ptr 1 0), (9, .int .i64 y3), (10, .int .i64 y4), (61, .row true .str y5), (62, .int .i64 y6), (63, .int .i64 y7)], [some (.box 31 [.nilS, .int .i64 y8, .nilS]), some (.box 31 [.own 2, .int .i64 y9, .nilS]), some (.arr 3 true .i64 y10)]⟩
noncomputable def i_ReadPlace_l3 (y0 : ByteArray) (y1 : List (ByteArray)) (y2 : Int) (y3 : Int) (y4 : Int) (y5 : Int) (y6 : List (Int)) : Option ((List (Int)) × (Int) × (List (Int)) × (Bool)) := from_ Tryd.prog (i_ReadPlace_E) Tryd.f71 i_ReadPlace_sig [1, 1, 1, 1, 1, 1, 1, 0, 1, 0] ⟨mkT 141 [(0, .str y0), (2, .ptr 0 0), (4, .row true .str y1), (6, .ptr 1 0), (118, .int .i64 y2), (119, .int .i64 y3)], [some (.box 31 [.nilS, .int .i64 y4, .nilS]), some (.box 31 [.own 2, .int .i64 y5, .nilS]), some (.arr 3 true .i64 y6)]⟩
noncomputable def i_ReadPlace_j4 (y0 : ByteArray) (y1 : List (ByteArray)) (y2 : Int) (y3 : Int) (y4 : Int) (y5 : List (ByteArray)) (y6 : Int) (y7 : Int) (y8 : Int) (y9 : Int) (y10 : List (Int)) : Option ((List (Int)) × (Int) × (List (Int)) × (Bool)) := from_ Tryd.prog (i_ReadPlace_E) Tryd.f71 i_ReadPlace_sig [1, 1, 1, 1, 1, 1, 0, 1, 0, 1, 0, 0, 1, 1, 0, 0, 1, 1, 1, 1] ⟨mkT 141 [(0, .str y0), (2, .ptr 0 0), (4, .row true .str y1), (5, .int .i64 y2), (6, .ptr 1 0), (9, .int .i64 y3), (10, .int .i64 y4), (61, .row true .str y5), (62, .int .i64 y6), (63, .int .i64 y7)], [some (.box 31 [.nilS, .int .i64 y8, .nilS]), some (.box 31 [.own 2, .int .i64 y9, .nilS]), some (.arr 3 true .i64 y10)]⟩
noncomputable def i_ReadPlace_l5 (y0 : ByteArray) (y1 : List (ByteArray)) (y2 : Int) (y3 : Int) (y4 : Int) (y5 : Int) (y6 : List (Int)) (y7 : List (Int)) : Option ((List (Int)) × (Int) × (List (Int)) × (Bool)) := from_ Tryd.prog (i_ReadPlace_E) Tryd.f71 i_ReadPlace_sig [1, 1, 1, 1, 1, 1, 1, 0, 1, 0] ⟨mkT 141 [(0, .str y0), (2, .ptr 0 0), (4, .row true .str y1), (6, .ptr 1 0), (118, .int .i64 y2), (119, .int .i64 y3)], [some (.box 31 [.nilS, .int .i64 y4, .nilS]), some (.box 31 [.own 2, .int .i64 y5, .own 3]), some (.arr 3 true .i64 y6), some (.arr 3 true .i64 y7)]⟩
noncomputable def i_ReadPlace_j6 (y0 : ByteArray) (y1 : Int) (y2 : Int) (y3 : List (Int)) : Option ((List (Int)) × (Int) × (List (Int)) × (Bool)) := from_ Tryd.prog (i_ReadPlace_E) Tryd.f71 i_ReadPlace_sig [1, 1, 1, 1, 1, 1, 1, 1] ⟨mkT 141 [(0, .str y0), (2, .ptr 0 0), (6, .ptr 1 0)], [some (.box 31 [.nilS, .int .i64 y1, .nilS]), some (.box 31 [.own 2, .int .i64 y2, .nilS]), some (.arr 3 true .i64 y3)]⟩
noncomputable def i_ReadPlace_j7 (y0 : ByteArray) (y1 : List (ByteArray)) (y2 : Int) (y3 : Int) (y4 : Int) (y5 : List (ByteArray)) (y6 : Int) (y7 : Int) (y8 : Int) (y9 : Int) (y10 : List (Int)) : Option ((List (Int)) × (Int) × (List (Int)) × (Bool)) := from_ Tryd.prog (i_ReadPlace_E) Tryd.f71 i_ReadPlace_sig [1, 1, 1, 1, 1, 1, 0, 1, 0, 1, 0, 0, 1, 1, 0, 0, 1, 1, 1, 1, 1] ⟨mkT 141 [(0, .str y0), (2, .ptr 0 0), (4, .row true .str y1), (5, .int .i64 y2), (6, .ptr 1 0), (9, .int .i64 y3), (10, .int .i64 y4), (61, .row true .str y5), (62, .int .i64 y6), (63, .int .i64 y7)], [some (.box 31 [.nilS, .int .i64 y8, .nilS]), some (.box 31 [.own 2, .int .i64 y9, .nilS]), some (.arr 3 true .i64 y10)]⟩
noncomputable def i_ReadPlace_j8 (y0 : ByteArray) (y1 : Int) (y2 : Int) (y3 : List (Int)) (y4 : List (Int)) : Option ((List (Int)) × (Int) × (List (Int)) × (Bool)) := from_ Tryd.prog (i_ReadPlace_E) Tryd.f71 i_ReadPlace_sig [1, 1, 1, 1, 1, 1, 1, 1] ⟨mkT 141 [(0, .str y0), (2, .ptr 0 0), (6, .ptr 1 0)], [some (.box 31 [.nilS, .int .i64 y1, .nilS]), some (.box 31 [.own 2, .int .i64 y2, .own 3]), some (.arr 3 true .i64 y3), some (.arr 3 true .i64 y4)]⟩
theorem i_ReadPlace_f_eq (x0 : (ByteArray)) : i_ReadPlace_f x0 = (Option.bind (x_strings_Split_f (x0, str1)) fun r1 => (cond (((List.length r1 : Int) != 4)) (some ([], 0, [], false)) (if (0 : Int) ≤ 0 ∧ 0 < (List.length r1 : Int) then (cond (((ByteArray.size (List.getD r1 (0 : Int).toNat ByteArray.empty) : Int) != 1)) (some ([], 0, [], false)) (if (0 : Int) ≤ 2 ∧ 2 < (List.length r1 : Int) then (cond (((ByteArray.size (List.getD r1 (2 : Int).toNat ByteArray.empty) : Int) != 1)) (some ([], 0, [], false)) (if (0 : Int) ≤ 0 ∧ 0 < (List.length r1 : Int) then (if (0 : Int) ≤ 0 ∧ 0 < (ByteArray.size (List.getD r1 (0 : Int).toNat ByteArray.empty) : Int) then (cond ((decide ((IntKind.i64.wrap ((IntKind.i64.wrap ((List.getD (ByteArray.data (List.getD r1 (0 : Int).toNat ByteArray.empty)).toList (0 : Int).toNat 0).toNat : Int)) - 48)) < 1))) (some ([], 0, [], false)) (cond ((decide (6 < (IntKind.i64.wrap ((IntKind.i64.wrap ((List.getD (ByteArray.data (List.getD r1 (0 : Int).toNat ByteArray.empty)).toList (0 : Int).toNat 0).toNat : Int)) - 48))))) (some ([], 0, [], false)) (if (0 : Int) ≤ 2 ∧ 2 < (List.length r1 : Int) then (if (0 : Int) ≤ 0 ∧ 0 < (ByteArray.size (List.getD r1 (2 : Int).toNat ByteArray.empty) : Int) then (if (0 : Int) ≤ (IntKind.i64.wrap ((IntKind.i64.wrap ((List.getD (ByteArray.data (List.getD r1 (0 : Int).toNat ByteArray.empty)).toList (0 : Int).toNat 0).toNat : Int)) - 48)) ∧ (IntKind.i64.wrap ((IntKind.i64.wrap ((List.getD (ByteArray.data (List.getD r1 (0 : Int).toNat ByteArray.empty)).toList (0 : Int).toNat 0).toNat : Int)) - 48)) * 8 ≤ 140737488355328 ∧ (IntKind.i64.wrap ((IntKind.i64.wrap ((List.getD (ByteArray.data (List.getD r1 (0 : Int).toNat ByteArray.empty)).toList (0 : Int).toNat 0).toNat : Int)) - 48)) ≤ 140737488355328 then (if (0 : Int) ≤ 1 ∧ 1 < (List.length r1 : Int) then (cond ((!(ByteArray.toList (List.getD r1 (1 : Int).toNat ByteArray.empty) == ByteArray.toList str15))) (if (0 : Int) ≤ 1 ∧ 1 < (List.length r1 : Int) then (Option.bind (x_strings_Split_f ((List.getD r1 (1 : Int).toNat ByteArray.empty), str14)) fun r2 => (i_ReadPlace_l0 x0 r1 (IntKind.i64.wrap ((IntKind.i64.wrap ((List.getD (ByteArray.data (List.getD r1 (0 : Int).toNat ByteArray.empty)).toList (0 : Int).toNat 0).toNat : Int)) - 48)) r2 (List.length r2 : Int) 0 0 (IntKind.i64.wrap ((IntKind.i64.wrap ((List.getD (ByteArray.data (List.getD r1 (2 : Int).toNat ByteArray.empty)).toList (0 : Int).toNat 0).toNat : Int)) - 48)) (List.replicate ((IntKind.i64.wrap ((IntKind.i64.wrap ((List.getD (ByteArray.data (List.getD r1 (0 : Int).toNat ByteArray.empty)).toList (0 : Int).toNat 0).toNat : Int)) - 48)) : Int).toNat 0 : List (Int)))) else none) (i_ReadPlace_j1 x0 r1 0 (IntKind.i64.wrap ((IntKind.i64.wrap ((List.getD (ByteArray.data (List.getD r1 (2 : Int).toNat ByteArray.empty)).toList (0 : Int).toNat 0).toNat : Int)) - 48)) (List.replicate ((IntKind.i64.wrap ((IntKind.i64.wrap ((List.getD (ByteArray.data (List.getD r1 (0 : Int).toNat ByteArray.empty)).toList (0 : Int).toNat 0).toNat : Int)) - 48)) : Int).toNat 0 : List (Int)))) else none) else none) else none) else none))) else none) else none)) else none)) else none))) := by
  refine Eq.trans (b := (Option.bind (x_strings_Split_f (x0, str1)) fun r1 => (cond (((List.length r1 : Int) != 4)) (some ([], 0, [], false)) (if (0 : Int) ≤ 0 ∧ 0 < (List.length r1 : Int) then (cond (((ByteArray.size (List.getD r1 (0 : Int).toNat ByteArray.empty) : Int) != 1)) (some ([], 0, [], false)) (if (0 : Int) ≤ 2 ∧ 2 < (List.length r1 : Int) then (cond (((ByteArray.size (List.getD r1 (2 : Int).toNat ByteArray.empty) : Int) != 1)) (some ([], 0, [], false)) (if (0 : Int) ≤ 0 ∧ 0 < (List.length r1 : Int) then (if (0 : Int) ≤ 0 ∧ 0 < (ByteArray.size (List.getD r1 (0 : Int).toNat ByteArray.empty) : Int) then (cond ((decide ((IntKind.i64.wrap ((IntKind.i64.wrap ((List.getD (ByteArray.data (List.getD r1 (0 : Int).toNat ByteArray.empty)).toList (0 : Int).toNat 0).toNat : Int)) - 48)) < 1))) (some ([], 0, [], false)) (cond ((decide (6 < (IntKind.i64.wrap ((IntKind.i64.wrap ((List.getD (ByteArray.data (List.getD r1 (0 : Int).toNat ByteArray.empty)).toList (0 : Int).toNat 0).toNat : Int)) - 48))))) (some ([], 0, [], false)) (if (0 : Int) ≤ 2 ∧ 2 < (List.length r1 : Int) then (if (0 : Int) ≤ 0 ∧ 0 < (ByteArray.size (List.getD r1 (2 : Int).toNat ByteArray.empty) : Int) then (same [(if (0 : Int) ≤ (IntKind.i64.wrap ((IntKind.i64.wrap ((List.getD (ByteArray.data (List.getD r1 (0 : Int).toNat ByteArray.empty)).toList (0 : Int).toNat 0).toNat : Int)) - 48)) ∧ (IntKind.i64.wrap ((IntKind.i64.wrap ((List.getD (ByteArray.data (List.getD r1 (0 : Int).toNat ByteArray.empty)).toList (0 : Int).toNat 0).toNat : Int)) - 48)) * 8 ≤ 140737488355328 ∧ (IntKind.i64.wrap ((IntKind.i64.wrap ((List.getD (ByteArray.data (List.getD r1 (0 : Int).toNat ByteArray.empty)).toList (0 : Int).toNat 0).toNat : Int)) - 48)) ≤ 140737488355328 then (if (0 : Int) ≤ 1 ∧ 1 < (List.length r1 : Int) then (cond ((!(ByteArray.toList (List.getD r1 (1 : Int).toNat ByteArray.empty) == ByteArray.toList str15))) (if (0 : Int) ≤ 1 ∧ 1 < (List.length r1 : Int) then (Option.bind (x_strings_Split_f ((List.getD r1 (1 : Int).toNat ByteArray.empty), str14)) fun r2 => (i_ReadPlace_l0 x0 r1 (IntKind.i64.wrap ((IntKind.i64.wrap ((List.getD (ByteArray.data (List.getD r1 (0 : Int).toNat ByteArray.empty)).toList (0 : Int).toNat 0).toNat : Int)) - 48)) r2 (List.length r2 : Int) 0 0 (IntKind.i64.wrap ((IntKind.i64.wrap ((List.getD (ByteArray.data (List.getD r1 (2 : Int).toNat ByteArray.empty)).toList (0 : Int).toNat 0).toNat : Int)) - 48)) (List.replicate ((IntKind.i64.wrap ((IntKind.i64.wrap ((List.getD (ByteArray.data (List.getD r1 (0 : Int).toNat ByteArray.empty)).toList (0 : Int).toNat 0).toNat : Int)) - 48)) : Int).toNat 0 : List (Int)))) else none) (i_ReadPlace_j1 x0 r1 0 (IntKind.i64.wrap ((IntKind.i64.wrap ((List.getD (ByteArray.data (List.getD r1 (2 : Int).toNat ByteArray.empty)).toList (0 : Int).toNat 0).toNat : Int)) - 48)) (List.replicate ((IntKind.i64.wrap ((IntKind.i64.wrap ((List.getD (ByteArray.data (List.getD r1 (0 : Int).toNat ByteArray.empty)).toList (0 : Int).toNat 0).toNat : Int)) - 48)) : Int).toNat 0 : List (Int)))) else none) else none), (if (0 : Int) ≤ (IntKind.i64.wrap ((IntKind.i64.wrap ((List.getD (ByteArray.data (List.getD r1 (0 : Int).toNat ByteArray.empty)).toList (0 : Int).toNat 0).toNat : Int)) - 48)) ∧ (IntKind.i64.wrap ((IntKind.i64.wrap ((List.getD (ByteArray.data (List.getD r1 (0 : Int).toNat ByteArray.empty)).toList (0 : Int).toNat 0).toNat : Int)) - 48)) * 8 ≤ 140737488355328 ∧ (IntKind.i64.wrap ((IntKind.i64.wrap ((List.getD (ByteArray.data (List.getD r1 (0 : Int).toNat ByteArray.empty)).toList (0 : Int).toNat 0).toNat : Int)) - 48)) ≤ 140737488355328 then (if (0 : Int) ≤ 1 ∧ 1 < (List.length r1 : Int) then (cond ((!(ByteArray.toList (List.getD r1 (1 : Int).toNat ByteArray.empty) == ByteArray.toList str15))) (if (0 : Int) ≤ 1 ∧ 1 < (List.length r1 : Int) then (Option.bind (x_strings_Split_f ((List.getD r1 (1 : Int).toNat ByteArray.empty), str14)) fun r2 => (i_ReadPlace_l0 x0 r1 (IntKind.i64.wrap ((IntKind.i64.wrap ((List.getD (ByteArray.data (List.getD r1 (0 : Int).toNat ByteArray.empty)).toList (0 : Int).toNat 0).toNat : Int)) - 48)) r2 (List.length r2 : Int) 0 0 (IntKind.i64.wrap ((IntKind.i64.wrap ((List.getD (ByteArray.data (List.getD r1 (2 : Int).toNat ByteArray.empty)).toList (0 : Int).toNat 0).toNat : Int)) - 48)) (List.replicate ((IntKind.i64.wrap ((IntKind.i64.wrap ((List.getD (ByteArray.data (List.getD r1 (0 : Int).toNat ByteArray.empty)).toList (0 : Int).toNat 0).toNat : Int)) - 48)) : Int).toNat 0 : List (Int)))) else none) (i_ReadPlace_j1 x0 r1 0 (IntKind.i64.wrap ((IntKind.i64.wrap ((List.getD (ByteArray.data (List.getD r1 (2 : Int).toNat ByteArray.empty)).toList (0 : Int).toNat 0).toNat : Int)) - 48)) (List.replicate ((IntKind.i64.wrap ((IntKind.i64.wrap ((List.getD (ByteArray.data (List.getD r1 (0 : Int).toNat ByteArray.empty)).toList (0 : Int).toNat 0).toNat : Int)) - 48)) : Int).toNat 0 : List (Int)))) else none) else none)]) else none) else none))) else none) else none)) else none)) else none)))) (by kernel_rfl) ?_
  simp only [same2, same3, same4, same5, same6, obind_ite]
theorem i_ReadPlace_l0_eq (y0 : ByteArray) (y1 : List (ByteArray)) (y2 : Int) (y3 : List (ByteArray)) (y4 : Int) (y5 : Int) (y6 : Int) (y7 : Int) (y8 : List (Int)) : i_ReadPlace_l0 y0 y1 y2 y3 y4 y5 y6 y7 y8 = (cond ((decide (y5 < y4))) (if (0 : Int) ≤ y5 ∧ y5 < (List.length y3 : Int) then (cond (((ByteArray.size (List.getD y3 (y5 : Int).toNat ByteArray.empty) : Int) != 2)) (some ([], 0, [], false)) (if (0 : Int) ≤ 0 ∧ 0 < (ByteArray.size (List.getD y3 (y5 : Int).toNat ByteArray.empty) : Int) then (if (0 : Int) ≤ 1 ∧ 1 < (ByteArray.size (List.getD y3 (y5 : Int).toNat ByteArray.empty) : Int) then (i_ReadPlace_j2 y0 y1 y2 (IntKind.i64.wrap ((IntKind.i64.wrap ((List.getD (ByteArray.data (List.getD y3 (y5 : Int).toNat ByteArray.empty)).toList (0 : Int).toNat 0).toNat : Int)) - 48)) (IntKind.i64.wrap ((IntKind.i64.wrap ((List.getD (ByteArray.data (List.getD y3 (y5 : Int).toNat ByteArray.empty)).toList (1 : Int).toNat 0).toNat : Int)) - 48)) y3 y4 y5 y6 y7 y8) else none) else none)) else none) (i_ReadPlace_j1 y0 y1 y6 y7 y8)) := by
  refine (loopK_eq Tryd.prog (i_ReadPlace_E) (sub (Tryd.f71.body.getD .skip) [1, 1, 1, 1, 1, 1, 0, 1, 0, 1, 0, 0]) _ _).trans ?_
  kernel_rfl
theorem i_ReadPlace_j1_eq (y0 : ByteArray) (y1 : List (ByteArray)) (y2 : Int) (y3 : Int) (y4 : List (Int)) : i_ReadPlace_j1 y0 y1 y2 y3 y4 = (if (0 : Int) ≤ 3 ∧ 3 < (List.length y1 : Int) then (i_ReadPlace_l3 y0 y1 (ByteArray.size (List.getD y1 (3 : Int).toNat ByteArray.empty) : Int) 0 y2 y3 y4) else none) := by
  kernel_rfl
theorem i_ReadPlace_j2_eq (y0 : ByteArray) (y1 : List (ByteArray)) (y2 : Int) (y3 : Int) (y4 : Int) (y5 : List (ByteArray)) (y6 : Int) (y7 : Int) (y8 : Int) (y9 : Int) (y10 : List (Int)) : i_ReadPlace_j2 y0 y1 y2 y3 y4 y5 y6 y7 y8 y9 y10 = (cond ((decide (y3 < 0))) (some ([], 0, [], false)) (cond ((decide (y2 ≤ y3))) (some ([], 0, [], false)) (cond ((decide (y4 < 0))) (some ([], 0, [], false)) (cond ((decide (y2 ≤ y4))) (some ([], 0, [], false)) (i_ReadPlace_j4 y0 y1 y2 y3 y4 y5 y6 y7 y8 y9 y10))))) := by
  kernel_rfl
theorem i_ReadPlace_l3_eq (y0 : ByteArray) (y1 : List (ByteArray)) (y2 : Int) (y3 : Int) (y4 : Int) (y5 : Int) (y6 : List (Int)) : i_ReadPlace_l3 y0 y1 y2 y3 y4 y5 y6 = (cond ((decide (y3 < y2))) (if (0 : Int) ≤ 3 ∧ 3 < (List.length y1 : Int) then (if (0 : Int) ≤ y3 ∧ y3 < (ByteArray.size (List.getD y1 (3 : Int).toNat ByteArray.empty) : Int) then (if (List.length ([] : List (Int)) + List.length ([(IntKind.i64.wrap ((IntKind.i64.wrap ((List.getD (ByteArray.data (List.getD y1 (3 : Int).toNat ByteArray.empty)).toList (y3 : Int).toNat 0).toNat : Int)) - 48))] : List (Int))) * 8 ≤ 140737488355328 then (i_ReadPlace_l5 y0 y1 y2 (IntKind.i64.wrap (y3 + 1)) y4 y5 y6 (([] : List (Int)) ++ ([(IntKind.i64.wrap ((IntKind.i64.wrap ((List.getD (ByteArray.data (List.getD y1 (3 : Int).toNat ByteArray.empty)).toList (y3 : Int).toNat 0).toNat : Int)) - 48))] : List (Int)))) else none) else none) else none) (i_ReadPlace_j6 y0 y4 y5 y6)) := by
  refine (loopK_eq Tryd.prog (i_ReadPlace_E) (sub (Tryd.f71.body.getD .skip) [1, 1, 1, 1, 1, 1, 1, 0, 1, 0, 0]) _ _).trans ?_
  kernel_rfl
theorem i_ReadPlace_j4_eq (y0 : ByteArray) (y1 : List (ByteArray)) (y2 : Int) (y3 : Int) (y4 : Int) (y5 : List (ByteArray)) (y6 : Int) (y7 : Int) (y8 : Int) (y9 : Int) (y10 : List (Int)) : i_ReadPlace_j4 y0 y1 y2 y3 y4 y5 y6 y7 y8 y9 y10 = (if (0 : Int) ≤ y3 ∧ y3 < (List.length y10 : Int) then (if y4 < 0 then none else (if (0 : Int) ≤ y3 ∧ y3 < (List.length y10 : Int) then (i_ReadPlace_j7 y0 y1 y2 y3 y4 y5 y6 y7 y8 y9 (List.set y10 (y3 : Int).toNat (Go.bits .or IntKind.i64 (List.getD y10 (y3 : Int).toNat 0) (IntKind.i64.wrap (1 * 2 ^ min (y4 : Int).toNat IntKind.i64.bits))))) else none)) else none) := by
  kernel_rfl
theorem i_ReadPlace_l5_eq (y0 : ByteArray) (y1 : List (ByteArray)) (y2 : Int) (y3 : Int) (y4 : Int) (y5 : Int) (y6 : List (Int)) (y7 : List (Int)) : i_ReadPlace_l5 y0 y1 y2 y3 y4 y5 y6 y7 = (cond ((decide (y3 < y2))) (if (0 : Int) ≤ 3 ∧ 3 < (List.length y1 : Int) then (if (0 : Int) ≤ y3 ∧ y3 < (ByteArray.size (List.getD y1 (3 : Int).toNat ByteArray.empty) : Int) then (if (List.length y7 + List.length ([(IntKind.i64.wrap ((IntKind.i64.wrap ((List.getD (ByteArray.data (List.getD y1 (3 : Int).toNat ByteArray.empty)).toList (y3 : Int).toNat 0).toNat : Int)) - 48))] : List (Int))) * 8 ≤ 140737488355328 then (i_ReadPlace_l5 y0 y1 y2 (IntKind.i64.wrap (y3 + 1)) y4 y5 y6 (y7 ++ ([(IntKind.i64.wrap ((IntKind.i64.wrap ((List.getD (ByteArray.data (List.getD y1 (3 : Int).toNat ByteArray.empty)).toList (y3 : Int).toNat 0).toNat : Int)) - 48))] : List (Int)))) else none) else none) else none) (i_ReadPlace_j8 y0 y4 y5 y6 y7)) := by
  refine (loopK_eq Tryd.prog (i_ReadPlace_E) (sub (Tryd.f71.body.getD .skip) [1, 1, 1, 1, 1, 1, 1, 0, 1, 0, 0]) _ _).trans ?_
  kernel_rfl
theorem i_ReadPlace_j6_eq (y0 : ByteArray) (y1 : Int) (y2 : Int) (y3 : List (Int)) : i_ReadPlace_j6 y0 y1 y2 y3 = (Option.bind (i_PlaceText_f (y3, y2, [])) fun r1 => (cond ((!(ByteArray.toList r1 == ByteArray.toList y0))) (some ([], 0, [], false)) (some (y3, y2, [], true)))) := by
  kernel_rfl
theorem i_ReadPlace_j7_eq (y0 : ByteArray) (y1 : List (ByteArray)) (y2 : Int) (y3 : Int) (y4 : Int) (y5 : List (ByteArray)) (y6 : Int) (y7 : Int) (y8 : Int) (y9 : Int) (y10 : List (Int)) : i_ReadPlace_j7 y0 y1 y2 y3 y4 y5 y6 y7 y8 y9 y10 = (if (0 : Int) ≤ y4 ∧ y4 < (List.length y10 : Int) then (if y3 < 0 then none else (if (0 : Int) ≤ y4 ∧ y4 < (List.length y10 : Int) then (i_ReadPlace_l0 y0 y1 y2 y5 y6 (IntKind.i64.wrap (y7 + 1)) y8 y9 (List.set y10 (y4 : Int).toNat (Go.bits .or IntKind.i64 (List.getD y10 (y4 : Int).toNat 0) (IntKind.i64.wrap (1 * 2 ^ min (y3 : Int).toNat IntKind.i64.bits))))) else none)) else none) := by
  kernel_rfl
theorem i_ReadPlace_j8_eq (y0 : ByteArray) (y1 : Int) (y2 : Int) (y3 : List (Int)) (y4 : List (Int)) : i_ReadPlace_j8 y0 y1 y2 y3 y4 = (Option.bind (i_PlaceText_f (y3, y2, y4)) fun r1 => (cond ((!(ByteArray.toList r1 == ByteArray.toList y0))) (some ([], 0, [], false)) (some (y3, y2, y4, true)))) := by
  kernel_rfl
theorem i_ReadPlace_ent : Entb Tryd.prog 71 := ⟨Tryd.f71, by kernel_rfl, by kernel_rfl, by kernel_rfl⟩
theorem i_ReadPlace_ok : CtrOk Tryd.prog 71 ⟨i_ReadPlace_sig, i_ReadPlace_f⟩ :=
  ctr_of (fn := Tryd.f71) (by kernel_rfl) (by kernel_rfl) (fun x : Ts i_ReadPlace_sig.pc => i_ReadPlace_E) (fun x => ⟨(fn_cons ⟨i_PlaceText_ok, i_PlaceText_ent⟩ (fn_cons ⟨x_strings_Split_ok, x_strings_Split_ent⟩ fn_none)), clo_none, wr_none⟩) (fun h => by cases h) follows_ (fun _ _ => trivial)
end FN
set_option linter.unusedVariables false
namespace FN
open Go Go.Proofs
/-! loop.example/firingnets/spec.ReadPlace -/
@[reducible] def s_ReadPlace_sig : Sig := { ps := [none], pc := [.str], rs := [some 3, none], rc := [.row 3 .i64, .int .i64, .row 3 .i64, .bool] }
noncomputable def s_ReadPlace_E : Env' := { fn := fun f => if f = 39 then some ⟨s_PlaceText_sig, s_PlaceText_f⟩ else if f = 70 then some ⟨s_l1In_sig, s_l1In_f⟩ else if f = 106 then some ⟨s_l1Cut_sig, s_l1Cut_f⟩ else if f = 107 then some ⟨s_l1Digits_sig, s_l1Digits_f⟩ else none, ck := ckT, cuts := [(7, [0, 2, 4, 5, 6, 7]), (13, [0, 2, 4, 5, 6, 7, 8, 9]), (15, [0, 2, 4, 5, 6, 7, 8, 9]), (16, [0, 2, 4, 5, 6, 7, 8, 9]), (17, [0, 2, 4, 5]), (18, [0, 2, 4, 5, 10]), (21, [0, 2, 5])], mine := fun i => false }
noncomputable def s_ReadPlace_f (x : Ts s_ReadPlace_sig.pc) : Option (Ts s_ReadPlace_sig.rc) := runFn Tryd.prog (s_ReadPlace_E) Tryd.f94 s_ReadPlace_sig x
noncomputable def s_ReadPlace_l0 (y0 : ByteArray) (y1 : List (ByteArray)) (y2 : List (ByteArray)) (y3 : Int) (y4 : Int) (y5 : Int) (y6 : List (Int)) : Option ((List (Int)) × (Int) × (List (Int)) × (Bool)) := from_ Tryd.prog (s_ReadPlace_E) Tryd.f94 s_ReadPlace_sig [1, 1, 1, 1, 1, 0, 1, 0] ⟨mkT 139 [(0, .str y0), (2, .ptr 0 0), (4, .row true .str y1), (5, .ptr 1 0), (6, .row true .str y2), (7, .int .i64 y3)], [some (.box 31 [.nilS, .int .i64 y4, .nilS]), some (.box 31 [.own 2, .int .i64 y5, .nilS]), some (.arr 3 true .i64 y6)]⟩
noncomputable def s_ReadPlace_j1 (y0 : ByteArray) (y1 : List (ByteArray)) (y2 : List (ByteArray)) (y3 : Int) (y4 : Int) (y5 : Int) (y6 : Int) (y7 : Int) (y8 : List (Int)) : Option ((List (Int)) × (Int) × (List (Int)) × (Bool)) := from_ Tryd.prog (s_ReadPlace_E) Tryd.f94 s_ReadPlace_sig [1, 1, 1, 1, 1, 0, 1, 0, 0, 1, 0, 0, 1, 1, 1] ⟨mkT 139 [(0, .str y0), (2, .ptr 0 0), (4, .row true .str y1), (5, .ptr 1 0), (6, .row true .str y2), (7, .int .i64 y3), (8, .int .i64 y4), (9, .int .i64 y5)], [some (.box 31 [.nilS, .int .i64 y6, .nilS]), some (.box 31 [.own 2, .int .i64 y7, .nilS]), some (.arr 3 true .i64 y8)]⟩
noncomputable def s_ReadPlace_j2 (y0 : ByteArray) (y1 : List (ByteArray)) (y2 : Int) (y3 : Int) (y4 : List (Int)) : Option ((List (Int)) × (Int) × (List (Int)) × (Bool)) := from_ Tryd.prog (s_ReadPlace_E) Tryd.f94 s_ReadPlace_sig [1, 1, 1, 1, 1, 1] ⟨mkT 139 [(0, .str y0), (2, .ptr 0 0), (4, .row true .str y1), (5, .ptr 1 0)], [some (.box 31 [.nilS, .int .i64 y2, .nilS]), some (.box 31 [.own 2, .int .i64 y3, .nilS]), some (.arr 3 true .i64 y4)]⟩
noncomputable def s_ReadPlace_j3 (y0 : ByteArray) (y1 : List (ByteArray)) (y2 : List (ByteArray)) (y3 : Int) (y4 : Int) (y5 : Int) (y6 : Int) (y7 : Int) (y8 : List (Int)) : Option ((List (Int)) × (Int) × (List (Int)) × (Bool)) := from_ Tryd.prog (s_ReadPlace_E) Tryd.f94 s_ReadPlace_sig [1, 1, 1, 1, 1, 0, 1, 0, 0, 1, 0, 0, 1, 1, 1, 1] ⟨mkT 139 [(0, .str y0), (2, .ptr 0 0), (4, .row true .str y1), (5, .ptr 1 0), (6, .row true .str y2), (7, .int .i64 y3), (8, .int .i64 y4), (9, .int .i64 y5)], [some (.box 31 [.nilS, .int .i64 y6, .nilS]), some (.box 31 [.own 2, .int .i64 y7, .nilS]), some (.arr 3 true .i64 y8)]⟩
noncomputable def s_ReadPlace_l4 (y0 : ByteArray) (y1 : List (ByteArray)) (y2 : Int) (y3 : Int) (y4 : Int) (y5 : List (Int)) : Option ((List (Int)) × (Int) × (List (Int)) × (Bool)) := from_ Tryd.prog (s_ReadPlace_E) Tryd.f94 s_ReadPlace_sig [1, 1, 1, 1, 1, 1, 0, 1, 0] ⟨mkT 139 [(0, .str y0), (2, .ptr 0 0), (4, .row true .str y1), (5, .ptr 1 0), (10, .int .i64 y2)], [some (.box 31 [.nilS, .int .i64 y3, .nilS]), some (.box 31 [.own 2, .int .i64 y4, .nilS]), some (.arr 3 true .i64 y5)]⟩
noncomputable def s_ReadPlace_j5 (y0 : ByteArray) (y1 : List (ByteArray)) (y2 : List (ByteArray)) (y3 : Int) (y4 : Int) (y5 : Int) (y6 : Int) (y7 : Int) (y8 : List (Int)) : Option ((List (Int)) × (Int) × (List (Int)) × (Bool)) := from_ Tryd.prog (s_ReadPlace_E) Tryd.f94 s_ReadPlace_sig [1, 1, 1, 1, 1, 0, 1, 0, 0, 1, 0, 0, 1, 1, 1, 1, 1] ⟨mkT 139 [(0, .str y0), (2, .ptr 0 0), (4, .row true .str y1), (5, .ptr 1 0), (6, .row true .str y2), (7, .int .i64 y3), (8, .int .i64 y4), (9, .int .i64 y5)], [some (.box 31 [.nilS, .int .i64 y6, .nilS]), some (.box 31 [.own 2, .int .i64 y7, .nilS]), some (.arr 3 true .i64 y8)]⟩
noncomputable def s_ReadPlace_l6 (y0 : ByteArray) (y1 : List (ByteArray)) (y2 : Int) (y3 : Int) (y4 : Int) (y5 : List (Int)) (y6 : List (Int)) : Option ((List (Int)) × (Int) × (List (Int)) × (Bool)) := from_ Tryd.prog (s_ReadPlace_E) Tryd.f94 s_ReadPlace_sig [1, 1, 1, 1, 1, 1, 0, 1, 0] ⟨mkT 139 [(0, .str y0), (2, .ptr 0 0), (4, .row true .str y1), (5, .ptr 1 0), (10, .int .i64 y2)], [some (.box 31 [.nilS, .int .i64 y3, .nilS]), some (.box 31 [.own 2, .int .i64 y4, .own 3]), some (.arr 3 true .i64 y5), some (.arr 3 true .i64 y6)]⟩
noncomputable def s_ReadPlace_j7 (y0 : ByteArray) (y1 : Int) (y2 : Int) (y3 : List (Int)) : Option ((List (Int)) × (Int) × (List (Int)) × (Bool)) := from_ Tryd.prog (s_ReadPlace_E) Tryd.f94 s_ReadPlace_sig [1, 1, 1, 1, 1, 1, 1] ⟨mkT 139 [(0, .str y0), (2, .ptr 0 0), (5, .ptr 1 0)], [some (.box 31 [.nilS, .int .i64 y1, .nilS]), some (.box 31 [.own 2, .int .i64 y2, .nilS]), some (.arr 3 true .i64 y3)]⟩
noncomputable def s_ReadPlace_j8 (y0 : ByteArray) (y1 : Int) (y2 : Int) (y3 : List (Int)) (y4 : List (Int)) : Option ((List (Int)) × (Int) × (List (Int)) × (Bool)) := from_ Tryd.prog (s_ReadPlace_E) Tryd.f94 s_ReadPlace_sig [1, 1, 1, 1, 1, 1, 1] ⟨mkT 139 [(0, .str y0), (2, .ptr 0 0), (5, .ptr 1 0)], [some (.box 31 [.nilS, .int .i64 y1, .nilS]), some (.box 31 [.own 2, .int .i64 y2, .own 3]), some (.arr 3 true .i64 y3), some (.arr 3 true .i64 y4)]⟩
theorem s_ReadPlace_f_eq (x0 : (ByteArray)) : s_ReadPlace_f x0 = (Option.bind (s_l1Cut_f (x0, 32)) fun r1 => (cond (((List.length r1 : Int) != 4)) (some ([], 0, [], false)) (if (0 : Int) ≤ 0 ∧ 0 < (List.length r1 : Int) then (Option.bind (s_l1Digits_f (List.getD r1 (0 : Int).toNat ByteArray.empty)) fun r2 => (Option.bind (s_l1In_f (r2, 1, 6)) fun r3 => (cond ((!r3)) (some ([], 0, [], false)) (if (0 : Int) ≤ 0 ∧ 0 < (List.length r1 : Int) then (if (0 : Int) ≤ 2 ∧ 2 < (List.length r1 : Int) then (Option.bind (s_l1Digits_f (List.getD r1 (0 : Int).toNat ByteArray.empty)) fun r4 => (if (0 : Int) ≤ r4 ∧ r4 * 8 ≤ 140737488355328 ∧ r4 ≤ 140737488355328 then (Option.bind (s_l1Digits_f (List.getD r1 (2 : Int).toNat ByteArray.empty)) fun r5 => (if (0 : Int) ≤ 1 ∧ 1 < (List.length r1 : Int) then (Option.bind (s_l1Cut_f ((List.getD r1 (1 : Int).toNat ByteArray.empty), 44)) fun r6 => (s_ReadPlace_l0 x0 r1 r6 0 0 r5 (List.replicate (r4 : Int).toNat 0 : List (Int)))) else none)) else none)) else none) else none)))) else none))) := by
  refine Eq.trans (b := (Option.bind (s_l1Cut_f (x0, 32)) fun r1 => (cond (((List.length r1 : Int) != 4)) (some ([], 0, [], false)) (if (0 : Int) ≤ 0 ∧ 0 < (List.length r1 : Int) then (Option.bind (s_l1Digits_f (List.getD r1 (0 : Int).toNat ByteArray.empty)) fun r2 => (Option.bind (s_l1In_f (r2, 1, 6)) fun r3 => (cond ((!r3)) (some ([], 0, [], false)) (if (0 : Int) ≤ 0 ∧ 0 < (List.length r1 : Int) then (if (0 : Int) ≤ 2 ∧ 2 < (List.length r1 : Int) then (same [(Option.bind (s_l1Digits_f (List.getD r1 (0 : Int).toNat ByteArray.empty)) fun r4 => (same [(if (0 : Int) ≤ r4 ∧ r4 * 8 ≤ 140737488355328 ∧ r4 ≤ 140737488355328 then (same [(Option.bind (s_l1Digits_f (List.getD r1 (2 : Int).toNat ByteArray.empty)) fun r5 => (if (0 : Int) ≤ 1 ∧ 1 < (List.length r1 : Int) then (Option.bind (s_l1Cut_f ((List.getD r1 (1 : Int).toNat ByteArray.empty), 44)) fun r6 => (s_ReadPlace_l0 x0 r1 r6 0 0 r5 (List.replicate (r4 : Int).toNat 0 : List (Int)))) else none)), (Option.bind (s_l1Digits_f (List.getD r1 (2 : Int).toNat ByteArray.empty)) fun r5 => (if (0 : Int) ≤ 1 ∧ 1 < (List.length r1 : Int) then (Option.bind (s_l1Cut_f ((List.getD r1 (1 : Int).toNat ByteArray.empty), 44)) fun r6 => (s_ReadPlace_l0 x0 r1 r6 0 0 r5 (List.replicate (r4 : Int).toNat 0 : List (Int)))) else none))]) else none), (Option.bind (s_l1Digits_f (List.getD r1 (2 : Int).toNat ByteArray.empty)) fun r5 => (same [(if (0 : Int) ≤ r4 ∧ r4 * 8 ≤ 140737488355328 ∧ r4 ≤ 140737488355328 then (if (0 : Int) ≤ 1 ∧ 1 < (List.length r1 : Int) then (Option.bind (s_l1Cut_f ((List.getD r1 (1 : Int).toNat ByteArray.empty), 44)) fun r6 => (s_ReadPlace_l0 x0 r1 r6 0 0 r5 (List.replicate (r4 : Int).toNat 0 : List (Int)))) else none) else none), (if (0 : Int) ≤ r4 ∧ r4 * 8 ≤ 140737488355328 ∧ r4 ≤ 140737488355328 then (if (0 : Int) ≤ 1 ∧ 1 < (List.length r1 : Int) then (Option.bind (s_l1Cut_f ((List.getD r1 (1 : Int).toNat ByteArray.empty), 44)) fun r6 => (s_ReadPlace_l0 x0 r1 r6 0 0 r5 (List.replicate (r4 : Int).toNat 0 : List (Int)))) else none) else none)])), (same [(if (0 : Int) ≤ r4 ∧ r4 * 8 ≤ 140737488355328 ∧ r4 ≤ 140737488355328 then (Option.bind (s_l1Digits_f (List.getD r1 (2 : Int).toNat ByteArray.empty)) fun r5 => (if (0 : Int) ≤ 1 ∧ 1 < (List.length r1 : Int) then (Option.bind (s_l1Cut_f ((List.getD r1 (1 : Int).toNat ByteArray.empty), 44)) fun r6 => (s_ReadPlace_l0 x0 r1 r6 0 0 r5 (List.replicate (r4 : Int).toNat 0 : List (Int)))) else none)) else none), (Option.bind (s_l1Digits_f (List.getD r1 (2 : Int).toNat ByteArray.empty)) fun r5 => (if (0 : Int) ≤ r4 ∧ r4 * 8 ≤ 140737488355328 ∧ r4 ≤ 140737488355328 then (if (0 : Int) ≤ 1 ∧ 1 < (List.length r1 : Int) then (Option.bind (s_l1Cut_f ((List.getD r1 (1 : Int).toNat ByteArray.empty), 44)) fun r6 => (s_ReadPlace_l0 x0 r1 r6 0 0 r5 (List.replicate (r4 : Int).toNat 0 : List (Int)))) else none) else none))])])), (Option.bind (s_l1Digits_f (List.getD r1 (0 : Int).toNat ByteArray.empty)) fun r4 => (same [(if (0 : Int) ≤ r4 ∧ r4 * 8 ≤ 140737488355328 ∧ r4 ≤ 140737488355328 then (Option.bind (s_l1Digits_f (List.getD r1 (2 : Int).toNat ByteArray.empty)) fun r5 => (if (0 : Int) ≤ 1 ∧ 1 < (List.length r1 : Int) then (Option.bind (s_l1Cut_f ((List.getD r1 (1 : Int).toNat ByteArray.empty), 44)) fun r6 => (s_ReadPlace_l0 x0 r1 r6 0 0 r5 (List.replicate (r4 : Int).toNat 0 : List (Int)))) else none)) else none), (Option.bind (s_l1Digits_f (List.getD r1 (2 : Int).toNat ByteArray.empty)) fun r5 => (if (0 : Int) ≤ r4 ∧ r4 * 8 ≤ 140737488355328 ∧ r4 ≤ 140737488355328 then (if (0 : Int) ≤ 1 ∧ 1 < (List.length r1 : Int) then (Option.bind (s_l1Cut_f ((List.getD r1 (1 : Int).toNat ByteArray.empty), 44)) fun r6 => (s_ReadPlace_l0 x0 r1 r6 0 0 r5 (List.replicate (r4 : Int).toNat 0 : List (Int)))) else none) else none))]))]) else none) else none)))) else none)))) (by kernel_rfl) ?_
  simp only [same2, same3, same4, same5, same6, obind_ite]
theorem s_ReadPlace_l0_eq (y0 : ByteArray) (y1 : List (ByteArray)) (y2 : List (ByteArray)) (y3 : Int) (y4 : Int) (y5 : Int) (y6 : List (Int)) : s_ReadPlace_l0 y0 y1 y2 y3 y4 y5 y6 = (cond ((decide (y3 < (List.length y2 : Int)))) (if (0 : Int) ≤ 1 ∧ 1 < (List.length y1 : Int) then (cond ((!(ByteArray.toList (List.getD y1 (1 : Int).toNat ByteArray.empty) == ByteArray.toList str15))) (if (0 : Int) ≤ y3 ∧ y3 < (List.length y2 : Int) then (cond (((ByteArray.size (List.getD y2 (y3 : Int).toNat ByteArray.empty) : Int) != 2)) (some ([], 0, [], false)) (if (0 : Int) ≤ y3 ∧ y3 < (List.length y2 : Int) then (if (0 : Int) ≤ 0 ∧ 0 < (ByteArray.size (List.getD y2 (y3 : Int).toNat ByteArray.empty) : Int) then (if (0 : Int) ≤ y3 ∧ y3 < (List.length y2 : Int) then (if (0 : Int) ≤ 1 ∧ 1 < (ByteArray.size (List.getD y2 (y3 : Int).toNat ByteArray.empty) : Int) then (s_ReadPlace_j1 y0 y1 y2 y3 (IntKind.i64.wrap ((IntKind.i64.wrap ((List.getD (ByteArray.data (List.getD y2 (y3 : Int).toNat ByteArray.empty)).toList (0 : Int).toNat 0).toNat : Int)) - 48)) (IntKind.i64.wrap ((IntKind.i64.wrap ((List.getD (ByteArray.data (List.getD y2 (y3 : Int).toNat ByteArray.empty)).toList (1 : Int).toNat 0).toNat : Int)) - 48)) y4 y5 y6) else none) else none) else none) else none)) else none) (s_ReadPlace_j2 y0 y1 y4 y5 y6)) else none) (s_ReadPlace_j2 y0 y1 y4 y5 y6)) := by
  refine (loopK_eq Tryd.prog (s_ReadPlace_E) (sub (Tryd.f94.body.getD .skip) [1, 1, 1, 1, 1, 0, 1, 0, 0]) _ _).trans ?_
  kernel_rfl
theorem s_ReadPlace_j1_eq (y0 : ByteArray) (y1 : List (ByteArray)) (y2 : List (ByteArray)) (y3 : Int) (y4 : Int) (y5 : Int) (y6 : Int) (y7 : Int) (y8 : List (Int)) : s_ReadPlace_j1 y0 y1 y2 y3 y4 y5 y6 y7 y8 = (Option.bind (s_l1In_f (y4, 0, (IntKind.i64.wrap ((List.length y8 : Int) - 1)))) fun r1 => (cond ((!r1)) (some ([], 0, [], false)) (Option.bind (s_l1In_f (y5, 0, (IntKind.i64.wrap ((List.length y8 : Int) - 1)))) fun r2 => (cond ((!r2)) (some ([], 0, [], false)) (s_ReadPlace_j3 y0 y1 y2 y3 y4 y5 y6 y7 y8))))) := by
  kernel_rfl
theorem s_ReadPlace_j2_eq (y0 : ByteArray) (y1 : List (ByteArray)) (y2 : Int) (y3 : Int) (y4 : List (Int)) : s_ReadPlace_j2 y0 y1 y2 y3 y4 = (s_ReadPlace_l4 y0 y1 0 y2 y3 y4) := by
  kernel_rfl
theorem s_ReadPlace_j3_eq (y0 : ByteArray) (y1 : List (ByteArray)) (y2 : List (ByteArray)) (y3 : Int) (y4 : Int) (y5 : Int) (y6 : Int) (y7 : Int) (y8 : List (Int)) : s_ReadPlace_j3 y0 y1 y2 y3 y4 y5 y6 y7 y8 = (if (0 : Int) ≤ y4 ∧ y4 < (List.length y8 : Int) then (if y5 < 0 then none else (if (0 : Int) ≤ y4 ∧ y4 < (List.length y8 : Int) then (s_ReadPlace_j5 y0 y1 y2 y3 y4 y5 y6 y7 (List.set y8 (y4 : Int).toNat (Go.bits .or IntKind.i64 (List.getD y8 (y4 : Int).toNat 0) (IntKind.i64.wrap (1 * 2 ^ min (y5 : Int).toNat IntKind.i64.bits))))) else none)) else none) := by
  kernel_rfl
theorem s_ReadPlace_l4_eq (y0 : ByteArray) (y1 : List (ByteArray)) (y2 : Int) (y3 : Int) (y4 : Int) (y5 : List (Int)) : s_ReadPlace_l4 y0 y1 y2 y3 y4 y5 = (if (0 : Int) ≤ 3 ∧ 3 < (List.length y1 : Int) then (cond ((decide (y2 < (ByteArray.size (List.getD y1 (3 : Int).toNat ByteArray.empty) : Int)))) (if (0 : Int) ≤ 3 ∧ 3 < (List.length y1 : Int) then (if (0 : Int) ≤ y2 ∧ y2 < (ByteArray.size (List.getD y1 (3 : Int).toNat ByteArray.empty) : Int) then (if (List.length ([] : List (Int)) + List.length ([(IntKind.i64.wrap ((IntKind.i64.wrap ((List.getD (ByteArray.data (List.getD y1 (3 : Int).toNat ByteArray.empty)).toList (y2 : Int).toNat 0).toNat : Int)) - 48))] : List (Int))) * 8 ≤ 140737488355328 then (s_ReadPlace_l6 y0 y1 (IntKind.i64.wrap (y2 + 1)) y3 y4 y5 (([] : List (Int)) ++ ([(IntKind.i64.wrap ((IntKind.i64.wrap ((List.getD (ByteArray.data (List.getD y1 (3 : Int).toNat ByteArray.empty)).toList (y2 : Int).toNat 0).toNat : Int)) - 48))] : List (Int)))) else none) else none) else none) (s_ReadPlace_j7 y0 y3 y4 y5)) else none) := by
  refine (loopK_eq Tryd.prog (s_ReadPlace_E) (sub (Tryd.f94.body.getD .skip) [1, 1, 1, 1, 1, 1, 0, 1, 0, 0]) _ _).trans ?_
  kernel_rfl
theorem s_ReadPlace_j5_eq (y0 : ByteArray) (y1 : List (ByteArray)) (y2 : List (ByteArray)) (y3 : Int) (y4 : Int) (y5 : Int) (y6 : Int) (y7 : Int) (y8 : List (Int)) : s_ReadPlace_j5 y0 y1 y2 y3 y4 y5 y6 y7 y8 = (if (0 : Int) ≤ y5 ∧ y5 < (List.length y8 : Int) then (if y4 < 0 then none else (if (0 : Int) ≤ y5 ∧ y5 < (List.length y8 : Int) then (s_ReadPlace_l0 y0 y1 y2 (IntKind.i64.wrap (y3 + 1)) y6 y7 (List.set y8 (y5 : Int).toNat (Go.bits .or IntKind.i64 (List.getD y8 (y5 : Int).toNat 0) (IntKind.i64.wrap (1 * 2 ^ min (y4 : Int).toNat IntKind.i64.bits))))) else none)) else none) := by
  kernel_rfl
theorem s_ReadPlace_l6_eq (y0 : ByteArray) (y1 : List (ByteArray)) (y2 : Int) (y3 : Int) (y4 : Int) (y5 : List (Int)) (y6 : List (Int)) : s_ReadPlace_l6 y0 y1 y2 y3 y4 y5 y6 = (if (0 : Int) ≤ 3 ∧ 3 < (List.length y1 : Int) then (cond ((decide (y2 < (ByteArray.size (List.getD y1 (3 : Int).toNat ByteArray.empty) : Int)))) (if (0 : Int) ≤ 3 ∧ 3 < (List.length y1 : Int) then (if (0 : Int) ≤ y2 ∧ y2 < (ByteArray.size (List.getD y1 (3 : Int).toNat ByteArray.empty) : Int) then (if (List.length y6 + List.length ([(IntKind.i64.wrap ((IntKind.i64.wrap ((List.getD (ByteArray.data (List.getD y1 (3 : Int).toNat ByteArray.empty)).toList (y2 : Int).toNat 0).toNat : Int)) - 48))] : List (Int))) * 8 ≤ 140737488355328 then (s_ReadPlace_l6 y0 y1 (IntKind.i64.wrap (y2 + 1)) y3 y4 y5 (y6 ++ ([(IntKind.i64.wrap ((IntKind.i64.wrap ((List.getD (ByteArray.data (List.getD y1 (3 : Int).toNat ByteArray.empty)).toList (y2 : Int).toNat 0).toNat : Int)) - 48))] : List (Int)))) else none) else none) else none) (s_ReadPlace_j8 y0 y3 y4 y5 y6)) else none) := by
  refine (loopK_eq Tryd.prog (s_ReadPlace_E) (sub (Tryd.f94.body.getD .skip) [1, 1, 1, 1, 1, 1, 0, 1, 0, 0]) _ _).trans ?_
  kernel_rfl
theorem s_ReadPlace_j7_eq (y0 : ByteArray) (y1 : Int) (y2 : Int) (y3 : List (Int)) : s_ReadPlace_j7 y0 y1 y2 y3 = (Option.bind (s_PlaceText_f (y3, y2, [])) fun r1 => (cond ((!(ByteArray.toList r1 == ByteArray.toList y0))) (some ([], 0, [], false)) (some (y3, y2, [], true)))) := by
  kernel_rfl
theorem s_ReadPlace_j8_eq (y0 : ByteArray) (y1 : Int) (y2 : Int) (y3 : List (Int)) (y4 : List (Int)) : s_ReadPlace_j8 y0 y1 y2 y3 y4 = (Option.bind (s_PlaceText_f (y3, y2, y4)) fun r1 => (cond ((!(ByteArray.toList r1 == ByteArray.toList y0))) (some ([], 0, [], false)) (some (y3, y2, y4, true)))) := by
  kernel_rfl
theorem s_ReadPlace_ent : Entb Tryd.prog 94 := ⟨Tryd.f94, by kernel_rfl, by kernel_rfl, by kernel_rfl⟩
theorem s_ReadPlace_ok : CtrOk Tryd.prog 94 ⟨s_ReadPlace_sig, s_ReadPlace_f⟩ :=
  ctr_of (fn := Tryd.f94) (by kernel_rfl) (by kernel_rfl) (fun x : Ts s_ReadPlace_sig.pc => s_ReadPlace_E) (fun x => ⟨(fn_cons ⟨s_PlaceText_ok, s_PlaceText_ent⟩ (fn_cons ⟨s_l1In_ok, s_l1In_ent⟩ (fn_cons ⟨s_l1Cut_ok, s_l1Cut_ent⟩ (fn_cons ⟨s_l1Digits_ok, s_l1Digits_ent⟩ fn_none)))), clo_none, wr_none⟩) (fun h => by cases h) follows_ (fun _ _ => trivial)
end FN
set_option linter.unusedVariables false
namespace FN
open Go Go.Proofs
/-! loop.example/firingnets/spec.ReadDeed -/
@[reducible] def s_ReadDeed_sig : Sig := { ps := [none], pc := [.str], rs := [some 3, none], rc := [.int .i64, .int .i64, .int .i64, .bool] }
noncomputable def s_ReadDeed_E : Env' := { fn := fun f => if f = 105 then some ⟨s_DeedText_sig, s_DeedText_f⟩ else if f = 106 then some ⟨s_l1Cut_sig, s_l1Cut_f⟩ else if f = 107 then some ⟨s_l1Digits_sig, s_l1Digits_f⟩ else none, ck := ckT, cuts := [(6, [0, 2, 4, 5]), (8, [0, 2, 5]), (9, [0, 2, 5, 7])], mine := fun i => false }
noncomputable def s_ReadDeed_f (x : Ts s_ReadDeed_sig.pc) : Option (Ts s_ReadDeed_sig.rc) := runFn Tryd.prog (s_ReadDeed_E) Tryd.f114 s_ReadDeed_sig x
noncomputable def s_ReadDeed_j0 (y0 : ByteArray) (y1 : List (ByteArray)) (y2 : Int) (y3 : Int) (y4 : Int) (y5 : List (Int × Int × Int)) : Option ((Int) × (Int) × (Int) × (Bool)) := from_ Tryd.prog (s_ReadDeed_E) Tryd.f114 s_ReadDeed_sig [1, 1, 1, 1] ⟨mkT 64 [(0, .str y0), (2, .ptr 0 0), (4, .row true .str y1), (5, .own 1)], [some (.box 38 [.int .i64 y2, .int .i64 y3, .int .i64 y4]), some (.arr 38 true .deed y5)]⟩
noncomputable def s_ReadDeed_j1 (y0 : ByteArray) (y1 : Int) (y2 : Int) (y3 : Int) (y4 : List (Int × Int × Int)) : Option ((Int) × (Int) × (Int) × (Bool)) := from_ Tryd.prog (s_ReadDeed_E) Tryd.f114 s_ReadDeed_sig [1, 1, 1, 1, 1] ⟨mkT 64 [(0, .str y0), (2, .ptr 0 0), (5, .own 1)], [some (.box 38 [.int .i64 y1, .int .i64 y2, .int .i64 y3]), some (.arr 38 true .deed y4)]⟩
noncomputable def s_ReadDeed_l2 (y0 : ByteArray) (y1 : Int) (y2 : Int) (y3 : Int) (y4 : Int) (y5 : List (Int × Int × Int)) : Option ((Int) × (Int) × (Int) × (Bool)) := from_ Tryd.prog (s_ReadDeed_E) Tryd.f114 s_ReadDeed_sig [1, 1, 1, 1, 1, 0, 1, 0] ⟨mkT 64 [(0, .str y0), (2, .ptr 0 0), (5, .own 1), (7, .int .i64 y1)], [some (.box 38 [.int .i64 y2, .int .i64 y3, .int .i64 y4]), some (.arr 38 true .deed y5)]⟩
theorem s_ReadDeed_f_eq (x0 : (ByteArray)) : s_ReadDeed_f x0 = (Option.bind (s_l1Cut_f (x0, 32)) fun r1 => (cond (((List.length r1 : Int) == 2)) (if (0 : Int) ≤ 1 ∧ 1 < (List.length r1 : Int) then (Option.bind (s_l1Digits_f (List.getD r1 (1 : Int).toNat ByteArray.empty)) fun r2 => (if (List.length ([(2, 0, 0), (4, 0, 0)] : List (Int × Int × Int)) + List.length ([(1, r2, 0), (3, r2, 0)] : List (Int × Int × Int))) * 24 ≤ 140737488355328 then (s_ReadDeed_j0 x0 r1 0 0 0 (([(2, 0, 0), (4, 0, 0)] : List (Int × Int × Int)) ++ ([(1, r2, 0), (3, r2, 0)] : List (Int × Int × Int)))) else none)) else none) (s_ReadDeed_j0 x0 r1 0 0 0 ([(2, 0, 0), (4, 0, 0)] : List (Int × Int × Int))))) := by
  kernel_rfl
theorem s_ReadDeed_j0_eq (y0 : ByteArray) (y1 : List (ByteArray)) (y2 : Int) (y3 : Int) (y4 : Int) (y5 : List (Int × Int × Int)) : s_ReadDeed_j0 y0 y1 y2 y3 y4 y5 = (cond (((List.length y1 : Int) == 3)) (if (0 : Int) ≤ 1 ∧ 1 < (List.length y1 : Int) then (if (0 : Int) ≤ 2 ∧ 2 < (List.length y1 : Int) then (Option.bind (s_l1Digits_f (List.getD y1 (1 : Int).toNat ByteArray.empty)) fun r1 => (Option.bind (s_l1Digits_f (List.getD y1 (2 : Int).toNat ByteArray.empty)) fun r2 => (if (List.length y5 + List.length ([(0, r1, r2)] : List (Int × Int × Int))) * 24 ≤ 140737488355328 then (s_ReadDeed_j1 y0 y2 y3 y4 (y5 ++ ([(0, r1, r2)] : List (Int × Int × Int)))) else none))) else none) else none) (s_ReadDeed_j1 y0 y2 y3 y4 y5)) := by
  kernel_rfl
theorem s_ReadDeed_j1_eq (y0 : ByteArray) (y1 : Int) (y2 : Int) (y3 : Int) (y4 : List (Int × Int × Int)) : s_ReadDeed_j1 y0 y1 y2 y3 y4 = (s_ReadDeed_l2 y0 0 y1 y2 y3 y4) := by
  kernel_rfl
theorem s_ReadDeed_l2_eq (y0 : ByteArray) (y1 : Int) (y2 : Int) (y3 : Int) (y4 : Int) (y5 : List (Int × Int × Int)) : s_ReadDeed_l2 y0 y1 y2 y3 y4 y5 = (cond ((decide (y1 < (List.length y5 : Int)))) (cond ((!(ByteArray.toList y0 == ByteArray.toList ByteArray.empty))) (if (0 : Int) ≤ y1 ∧ y1 < (List.length y5 : Int) then (Option.bind (s_DeedText_f ((List.getD y5 (y1 : Int).toNat (0, 0, 0)).1, (List.getD y5 (y1 : Int).toNat (0, 0, 0)).2.1, (List.getD y5 (y1 : Int).toNat (0, 0, 0)).2.2)) fun r1 => (cond ((ByteArray.toList r1 == ByteArray.toList y0)) (if (0 : Int) ≤ y1 ∧ y1 < (List.length y5 : Int) then (some ((List.getD y5 (y1 : Int).toNat (0, 0, 0)).1, (List.getD y5 (y1 : Int).toNat (0, 0, 0)).2.1, (List.getD y5 (y1 : Int).toNat (0, 0, 0)).2.2, true)) else none) (s_ReadDeed_l2 y0 (IntKind.i64.wrap (y1 + 1)) y2 y3 y4 y5))) else none) (s_ReadDeed_l2 y0 (IntKind.i64.wrap (y1 + 1)) y2 y3 y4 y5)) (some (0, 0, 0, false))) := by
  refine (loopK_eq Tryd.prog (s_ReadDeed_E) (sub (Tryd.f114.body.getD .skip) [1, 1, 1, 1, 1, 0, 1, 0, 0]) _ _).trans ?_
  kernel_rfl
theorem s_ReadDeed_ent : Entb Tryd.prog 114 := ⟨Tryd.f114, by kernel_rfl, by kernel_rfl, by kernel_rfl⟩
theorem s_ReadDeed_ok : CtrOk Tryd.prog 114 ⟨s_ReadDeed_sig, s_ReadDeed_f⟩ :=
  ctr_of (fn := Tryd.f114) (by kernel_rfl) (by kernel_rfl) (fun x : Ts s_ReadDeed_sig.pc => s_ReadDeed_E) (fun x => ⟨(fn_cons ⟨s_DeedText_ok, s_DeedText_ent⟩ (fn_cons ⟨s_l1Cut_ok, s_l1Cut_ent⟩ (fn_cons ⟨s_l1Digits_ok, s_l1Digits_ent⟩ fn_none))), clo_none, wr_none⟩) (fun h => by cases h) follows_ (fun _ _ => trivial)
end FN
set_option linter.unusedVariables false
namespace FN
open Go Go.Proofs
/-! loop.example/firingnets/spec.DeskOk -/
@[reducible] def s_DeskOk_sig : Sig := { ps := [some 4], pc := [.view .i64, .int .i64, .view .i64, .view .place], rs := [none], rc := [.bool] }
noncomputable def s_DeskOk_E : Env' := { fn := fun f => if f = 38 then some ⟨s_PlaceOk_sig, s_PlaceOk_f⟩ else none, ck := ckT, cuts := [(2, [1, 3]), (6, [1])], mine := fun i => false }
noncomputable def s_DeskOk_f (x : Ts s_DeskOk_sig.pc) : Option (Ts s_DeskOk_sig.rc) := runFn Tryd.prog (s_DeskOk_E) Tryd.f24 s_DeskOk_sig x
noncomputable def s_DeskOk_l0 (y0 : Int) (y1 : List (Int)) (y2 : Int) (y3 : List (Int)) (y4 : List (List Int × Int × List Int)) : Option ((Bool)) := from_ Tryd.prog (s_DeskOk_E) Tryd.f24 s_DeskOk_sig [1, 0, 1, 0] ⟨mkT 27 [(1, .ptr 0 0), (3, .int .i64 y0)], [some (.box 34 [.row false .i64 y1, .int .i64 y2, .row false .i64 y3, .row false .place y4])]⟩
noncomputable def s_DeskOk_j1 (y0 : List (Int)) (y1 : Int) (y2 : List (Int)) (y3 : List (List Int × Int × List Int)) : Option ((Bool)) := from_ Tryd.prog (s_DeskOk_E) Tryd.f24 s_DeskOk_sig [1, 1] ⟨mkT 27 [(1, .ptr 0 0)], [some (.box 34 [.row false .i64 y0, .int .i64 y1, .row false .i64 y2, .row false .place y3])]⟩
theorem s_DeskOk_f_eq (x0 : (List (Int))) (x1 : (Int)) (x2 : (List (Int))) (x3 : (List (List Int × Int × List Int))) : s_DeskOk_f (x0, x1, x2, x3) = (s_DeskOk_l0 0 x0 x1 x2 x3) := by
  kernel_rfl
theorem s_DeskOk_l0_eq (y0 : Int) (y1 : List (Int)) (y2 : Int) (y3 : List (Int)) (y4 : List (List Int × Int × List Int)) : s_DeskOk_l0 y0 y1 y2 y3 y4 = (cond ((decide (y0 < (List.length y4 : Int)))) (if (0 : Int) ≤ y0 ∧ y0 < (List.length y4 : Int) then (Option.bind (s_PlaceOk_f ((List.getD y4 (y0 : Int).toNat ([], 0, [])).1, (List.getD y4 (y0 : Int).toNat ([], 0, [])).2.1, (List.getD y4 (y0 : Int).toNat ([], 0, [])).2.2)) fun r1 => (cond ((!r1)) (some false) (s_DeskOk_l0 (IntKind.i64.wrap (y0 + 1)) y1 y2 y3 y4))) else none) (s_DeskOk_j1 y1 y2 y3 y4)) := by
  refine (loopK_eq Tryd.prog (s_DeskOk_E) (sub (Tryd.f24.body.getD .skip) [1, 0, 1, 0, 0]) _ _).trans ?_
  kernel_rfl
theorem s_DeskOk_j1_eq (y0 : List (Int)) (y1 : Int) (y2 : List (Int)) (y3 : List (List Int × Int × List Int)) : s_DeskOk_j1 y0 y1 y2 y3 = (Option.bind (s_PlaceOk_f (y0, y1, y2)) fun r1 => (cond (r1) (some (decide ((List.length y3 : Int) ≤ 8))) (some false))) := by
  kernel_rfl
theorem s_DeskOk_ent : Entb Tryd.prog 24 := ⟨Tryd.f24, by kernel_rfl, by kernel_rfl, by kernel_rfl⟩
theorem s_DeskOk_ok : CtrOk Tryd.prog 24 ⟨s_DeskOk_sig, s_DeskOk_f⟩ :=
  ctr_of (fn := Tryd.f24) (by kernel_rfl) (by kernel_rfl) (fun x : Ts s_DeskOk_sig.pc => s_DeskOk_E) (fun x => ⟨(fn_cons ⟨s_PlaceOk_ok, s_PlaceOk_ent⟩ fn_none), clo_none, wr_none⟩) (fun h => by cases h) follows_ (fun _ _ => trivial)
end FN
set_option linter.unusedVariables false
namespace FN
open Go Go.Proofs
/-! loop.example/firingnets/spec.l15Place -/
@[reducible] def s_l15Place_sig : Sig := { ps := [some 3], pc := [.view .i64, .int .i64, .view .i64], rs := [some 3], rc := [.row 3 .i64, .int .i64, .row 3 .i64] }
noncomputable def s_l15Place_E : Env' := { fn := fun f => none, ck := ckT, cuts := [], mine := fun i => false }
noncomputable def s_l15Place_f (x : Ts s_l15Place_sig.pc) : Option (Ts s_l15Place_sig.rc) := runFn Tryd.prog (s_l15Place_E) Tryd.f73 s_l15Place_sig x
theorem s_l15Place_f_eq (x0 : (List (Int))) (x1 : (Int)) (x2 : (List (Int))) : s_l15Place_f (x0, x1, x2) = (if (List.length ([] : List (Int)) + List.length x0) * 8 ≤ 140737488355328 then (if (List.length ([] : List (Int)) + List.length x2) * 8 ≤ 140737488355328 then (some ((([] : List (Int)) ++ x0), x1, (([] : List (Int)) ++ x2))) else none) else none) := by
  refine Eq.trans (b := (same [(same [(if (List.length ([] : List (Int)) + List.length x0) * 8 ≤ 140737488355328 then (if (List.length ([] : List (Int)) + List.length x2) * 8 ≤ 140737488355328 then (some ((([] : List (Int)) ++ x0), x1, (([] : List (Int)) ++ x2))) else none) else none), (if (List.length ([] : List (Int)) + List.length x0) * 8 ≤ 140737488355328 then (if (List.length ([] : List (Int)) + List.length x2) * 8 ≤ 140737488355328 then (some ((([] : List (Int)) ++ x0), x1, (([] : List (Int)) ++ x2))) else none) else none)]), (if (List.length ([] : List (Int)) + List.length x0) * 8 ≤ 140737488355328 then (if (List.length ([] : List (Int)) + List.length x2) * 8 ≤ 140737488355328 then (some ((([] : List (Int)) ++ x0), x1, (([] : List (Int)) ++ x2))) else none) else none)])) (by kernel_rfl) ?_
  simp only [same2, same3, same4, same5, same6, obind_ite]
theorem s_l15Place_ent : Entb Tryd.prog 73 := ⟨Tryd.f73, by kernel_rfl, by kernel_rfl, by kernel_rfl⟩
theorem s_l15Place_ok : CtrOk Tryd.prog 73 ⟨s_l15Place_sig, s_l15Place_f⟩ :=
  ctr_of (fn := Tryd.f73) (by kernel_rfl) (by kernel_rfl) (fun x : Ts s_l15Place_sig.pc => s_l15Place_E) (fun x => ⟨fn_none, clo_none, wr_none⟩) (fun h => by cases h) follows_ (fun _ _ => trivial)
end FN
set_option linter.unusedVariables false
namespace FN
open Go Go.Proofs
/-! loop.example/firingnets/spec.l15Copy -/
@[reducible] def s_l15Copy_sig : Sig := { ps := [some 4], pc := [.view .i64, .int .i64, .view .i64, .view .place], rs := [some 4], rc := [.row 3 .i64, .int .i64, .row 3 .i64, .row 31 .place] }
noncomputable def s_l15Copy_E : Env' := { fn := fun f => if f = 73 then some ⟨s_l15Place_sig, s_l15Place_f⟩ else none, ck := ckT, cuts := [(3, [1, 2, 3, 4])], mine := fun i => i == 7 || i == 23 }
noncomputable def s_l15Copy_f (x : Ts s_l15Copy_sig.pc) : Option (Ts s_l15Copy_sig.rc) := runFn Tryd.prog (s_l15Copy_E) Tryd.f36 s_l15Copy_sig x
noncomputable def s_l15Copy_l0 (y0 : Int) (y1 : List (Int)) (y2 : Int) (y3 : List (Int)) (y4 : List (List Int × Int × List Int)) (y5 : Int) (y6 : Int) (y7 : List (Int)) (y8 : List (Int)) : Option ((List (Int)) × (Int) × (List (Int)) × (List (List Int × Int × List Int))) := from_ Tryd.prog (s_l15Copy_E) Tryd.f36 s_l15Copy_sig [1, 1, 0, 1, 0] ⟨mkT 28 [(1, .ptr 0 0), (2, .ptr 1 0), (3, .ptr 2 0), (4, .int .i64 y0)], [some (.box 34 [.row false .i64 y1, .int .i64 y2, .row false .i64 y3, .row false .place y4]), some (.box 34 [.nilS, .int .i64 y5, .nilS, .nilS]), some (.box 34 [.own 3, .int .i64 y6, .own 4, .nilS]), some (.arr 3 true .i64 y7), some (.arr 3 true .i64 y8)]⟩
noncomputable def s_l15Copy_l1 (y0 : Int) (y1 : List (Int)) (y2 : Int) (y3 : List (Int)) (y4 : List (List Int × Int × List Int)) (y5 : Int) (y6 : Int) (y7 : List (Int)) (y8 : List (Int)) (y9 : List (List Int × Int × List Int)) : Option ((List (Int)) × (Int) × (List (Int)) × (List (List Int × Int × List Int))) := from_ Tryd.prog (s_l15Copy_E) Tryd.f36 s_l15Copy_sig [1, 1, 0, 1, 0] ⟨mkT 28 [(1, .ptr 0 0), (2, .ptr 1 0), (3, .ptr 2 0), (4, .int .i64 y0)], [some (.box 34 [.row false .i64 y1, .int .i64 y2, .row false .i64 y3, .row false .place y4]), some (.box 34 [.nilS, .int .i64 y5, .nilS, .nilS]), some (.box 34 [.own 3, .int .i64 y6, .own 4, .own 5]), some (.arr 3 true .i64 y7), some (.arr 3 true .i64 y8), some (.arr 31 true .place y9)]⟩
theorem s_l15Copy_f_eq (x0 : (List (Int))) (x1 : (Int)) (x2 : (List (Int))) (x3 : (List (List Int × Int × List Int))) : s_l15Copy_f (x0, x1, x2, x3) = (Option.bind (s_l15Place_f (x0, x1, x2)) fun r1 => (s_l15Copy_l0 0 x0 x1 x2 x3 0 r1.2.1 r1.1 r1.2.2)) := by
  kernel_rfl
theorem s_l15Copy_l0_eq (y0 : Int) (y1 : List (Int)) (y2 : Int) (y3 : List (Int)) (y4 : List (List Int × Int × List Int)) (y5 : Int) (y6 : Int) (y7 : List (Int)) (y8 : List (Int)) : s_l15Copy_l0 y0 y1 y2 y3 y4 y5 y6 y7 y8 = (cond ((decide (y0 < (List.length y4 : Int)))) (if (0 : Int) ≤ y0 ∧ y0 < (List.length y4 : Int) then (Option.bind (s_l15Place_f ((List.getD y4 (y0 : Int).toNat ([], 0, [])).1, (List.getD y4 (y0 : Int).toNat ([], 0, [])).2.1, (List.getD y4 (y0 : Int).toNat ([], 0, [])).2.2)) fun r1 => (if (List.length ([] : List (List Int × Int × List Int)) + List.length ([(r1.1, r1.2.1, r1.2.2)] : List (List Int × Int × List Int))) * 56 ≤ 140737488355328 then (s_l15Copy_l1 (IntKind.i64.wrap (y0 + 1)) y1 y2 y3 y4 y5 y6 y7 y8 (([] : List (List Int × Int × List Int)) ++ ([(r1.1, r1.2.1, r1.2.2)] : List (List Int × Int × List Int)))) else none)) else none) (some (y7, y6, y8, []))) := by
  refine (loopK_eq Tryd.prog (s_l15Copy_E) (sub (Tryd.f36.body.getD .skip) [1, 1, 0, 1, 0, 0]) _ _).trans ?_
  kernel_rfl
theorem s_l15Copy_l1_eq (y0 : Int) (y1 : List (Int)) (y2 : Int) (y3 : List (Int)) (y4 : List (List Int × Int × List Int)) (y5 : Int) (y6 : Int) (y7 : List (Int)) (y8 : List (Int)) (y9 : List (List Int × Int × List Int)) : s_l15Copy_l1 y0 y1 y2 y3 y4 y5 y6 y7 y8 y9 = (cond ((decide (y0 < (List.length y4 : Int)))) (if (0 : Int) ≤ y0 ∧ y0 < (List.length y4 : Int) then (Option.bind (s_l15Place_f ((List.getD y4 (y0 : Int).toNat ([], 0, [])).1, (List.getD y4 (y0 : Int).toNat ([], 0, [])).2.1, (List.getD y4 (y0 : Int).toNat ([], 0, [])).2.2)) fun r1 => (if (List.length y9 + List.length ([(r1.1, r1.2.1, r1.2.2)] : List (List Int × Int × List Int))) * 56 ≤ 140737488355328 then (s_l15Copy_l1 (IntKind.i64.wrap (y0 + 1)) y1 y2 y3 y4 y5 y6 y7 y8 (y9 ++ ([(r1.1, r1.2.1, r1.2.2)] : List (List Int × Int × List Int)))) else none)) else none) (some (y7, y6, y8, y9))) := by
  refine (loopK_eq Tryd.prog (s_l15Copy_E) (sub (Tryd.f36.body.getD .skip) [1, 1, 0, 1, 0, 0]) _ _).trans ?_
  kernel_rfl
theorem s_l15Copy_ent : Entb Tryd.prog 36 := ⟨Tryd.f36, by kernel_rfl, by kernel_rfl, by kernel_rfl⟩
theorem s_l15Copy_ok : CtrOk Tryd.prog 36 ⟨s_l15Copy_sig, s_l15Copy_f⟩ :=
  ctr_of (fn := Tryd.f36) (by kernel_rfl) (by kernel_rfl) (fun x : Ts s_l15Copy_sig.pc => s_l15Copy_E) (fun x => ⟨(fn_cons ⟨s_l15Place_ok, s_l15Place_ent⟩ fn_none), clo_none, wr_none⟩) (fun h => by cases h) follows_ (fun _ _ => trivial)
end FN
set_option linter.unusedVariables false
namespace FN
open Go Go.Proofs
/-! loop.example/firingnets/spec.l3Step -/
@[reducible] def s_l3Step_sig : Sig := { ps := [none, none, none], pc := [.view .i64, .int .i64, .view .i64], rs := [none], rc := [.row 3 .i64] }
noncomputable def s_l3Step_E : Env' := { fn := fun f => none, ck := ckT, cuts := [(3, [0, 1, 2, 7, 8]), (7, [0, 1, 2, 7]), (9, [0, 1, 2, 7, 9, 10])], mine := fun i => false }
noncomputable def s_l3Step_f (x : Ts s_l3Step_sig.pc) : Option (Ts s_l3Step_sig.rc) := runFn Tryd.prog (s_l3Step_E) Tryd.f74 s_l3Step_sig x
noncomputable def s_l3Step_l0 (y0 : List (Int)) (y1 : Int) (y2 : List (Int)) (y3 : Int) (y4 : Int) : Option ((List (Int))) := from_ Tryd.prog (s_l3Step_E) Tryd.f74 s_l3Step_sig [1, 1, 0, 1, 0] ⟨mkT 58 [(0, .row false .i64 y0), (1, .int .i64 y1), (2, .row false .i64 y2), (7, .int .i64 y3), (8, .int .i64 y4)], []⟩
noncomputable def s_l3Step_j1 (y0 : List (Int)) (y1 : Int) (y2 : List (Int)) (y3 : Int) : Option ((List (Int))) := from_ Tryd.prog (s_l3Step_E) Tryd.f74 s_l3Step_sig [1, 1, 1] ⟨mkT 58 [(0, .row false .i64 y0), (1, .int .i64 y1), (2, .row false .i64 y2), (7, .int .i64 y3)], []⟩
noncomputable def s_l3Step_l2 (y0 : List (Int)) (y1 : Int) (y2 : List (Int)) (y3 : Int) (y4 : Int) (y5 : List (Int)) : Option ((List (Int))) := from_ Tryd.prog (s_l3Step_E) Tryd.f74 s_l3Step_sig [1, 1, 1, 1, 0, 1, 0] ⟨mkT 58 [(0, .row false .i64 y0), (1, .int .i64 y1), (2, .row false .i64 y2), (7, .int .i64 y3), (9, .own 0), (10, .int .i64 y4)], [some (.arr 3 true .i64 y5)]⟩
theorem s_l3Step_f_eq (x0 : (List (Int))) (x1 : (Int)) (x2 : (List (Int))) : s_l3Step_f (x0, x1, x2) = (s_l3Step_l0 x0 x1 x2 0 0) := by
  kernel_rfl
theorem s_l3Step_l0_eq (y0 : List (Int)) (y1 : Int) (y2 : List (Int)) (y3 : Int) (y4 : Int) : s_l3Step_l0 y0 y1 y2 y3 y4 = (cond ((decide (y4 < (List.length y2 : Int)))) (if (0 : Int) ≤ y4 ∧ y4 < (List.length y2 : Int) then (cond (((List.getD y2 (y4 : Int).toNat 0) == 1)) (if y4 < 0 then none else (s_l3Step_l0 y0 y1 y2 (Go.bits .or IntKind.i64 y3 (IntKind.i64.wrap (1 * 2 ^ min (y4 : Int).toNat IntKind.i64.bits))) (IntKind.i64.wrap (y4 + 1)))) (s_l3Step_l0 y0 y1 y2 y3 (IntKind.i64.wrap (y4 + 1)))) else none) (s_l3Step_j1 y0 y1 y2 y3)) := by
  refine (loopK_eq Tryd.prog (s_l3Step_E) (sub (Tryd.f74.body.getD .skip) [1, 1, 0, 1, 0, 0]) _ _).trans ?_
  kernel_rfl
theorem s_l3Step_j1_eq (y0 : List (Int)) (y1 : Int) (y2 : List (Int)) (y3 : Int) : s_l3Step_j1 y0 y1 y2 y3 = (s_l3Step_l2 y0 y1 y2 y3 0 ([] : List (Int))) := by
  kernel_rfl
theorem s_l3Step_l2_eq (y0 : List (Int)) (y1 : Int) (y2 : List (Int)) (y3 : Int) (y4 : Int) (y5 : List (Int)) : s_l3Step_l2 y0 y1 y2 y3 y4 y5 = (cond ((decide (y4 < (List.length y2 : Int)))) (if (0 : Int) ≤ y4 ∧ y4 < (List.length y2 : Int) then (cond ((decide (0 < (List.getD y2 (y4 : Int).toNat 0)))) (if y1 = 0 then none else (if (List.length y5 + List.length ([(Int.tmod (IntKind.i64.wrap ((List.getD y2 (y4 : Int).toNat 0) + 1)) y1)] : List (Int))) * 8 ≤ 140737488355328 then (s_l3Step_l2 y0 y1 y2 y3 (IntKind.i64.wrap (y4 + 1)) (y5 ++ ([(Int.tmod (IntKind.i64.wrap ((List.getD y2 (y4 : Int).toNat 0) + 1)) y1)] : List (Int)))) else none)) (if (0 : Int) ≤ y4 ∧ y4 < (List.length y0 : Int) then (cond (((Go.bits .and IntKind.i64 (List.getD y0 (y4 : Int).toNat 0) y3) != 0)) (if (List.length y5 + List.length ([1] : List (Int))) * 8 ≤ 140737488355328 then (s_l3Step_l2 y0 y1 y2 y3 (IntKind.i64.wrap (y4 + 1)) (y5 ++ ([1] : List (Int)))) else none) (if (List.length y5 + List.length ([(List.getD y2 (y4 : Int).toNat 0)] : List (Int))) * 8 ≤ 140737488355328 then (s_l3Step_l2 y0 y1 y2 y3 (IntKind.i64.wrap (y4 + 1)) (y5 ++ ([(List.getD y2 (y4 : Int).toNat 0)] : List (Int)))) else none)) else none)) else none) (some y5)) := by
  refine (loopK_eq Tryd.prog (s_l3Step_E) (sub (Tryd.f74.body.getD .skip) [1, 1, 1, 1, 0, 1, 0, 0]) _ _).trans ?_
  kernel_rfl
theorem s_l3Step_ent : Entb Tryd.prog 74 := ⟨Tryd.f74, by kernel_rfl, by kernel_rfl, by kernel_rfl⟩
theorem s_l3Step_ok : CtrOk Tryd.prog 74 ⟨s_l3Step_sig, s_l3Step_f⟩ :=
  ctr_of (fn := Tryd.f74) (by kernel_rfl) (by kernel_rfl) (fun x : Ts s_l3Step_sig.pc => s_l3Step_E) (fun x => ⟨fn_none, clo_none, wr_none⟩) (fun h => by cases h) follows_ (fun _ _ => trivial)
end FN
set_option linter.unusedVariables false
namespace FN
open Go Go.Proofs
/-! loop.example/firingnets/spec.l15Made -/
@[reducible] def s_l15Made_sig : Sig := { ps := [some 3, some 3], pc := [.view .i64, .int .i64, .view .i64, .int .i64, .int .i64, .int .i64], rs := [some 3], rc := [.row 3 .i64, .int .i64, .row 3 .i64] }
noncomputable def s_l15Made_E : Env' := { fn := fun f => if f = 70 then some ⟨s_l1In_sig, s_l1In_f⟩ else if f = 73 then some ⟨s_l15Place_sig, s_l15Place_f⟩ else if f = 74 then some ⟨s_l3Step_sig, s_l3Step_f⟩ else none, ck := ckT, cuts := [], mine := fun i => i == 8 || i == 25 || i == 31 || i == 81 || i == 108 }
noncomputable def s_l15Made_f (x : Ts s_l15Made_sig.pc) : Option (Ts s_l15Made_sig.rc) := runFn Tryd.prog (s_l15Made_E) Tryd.f37 s_l15Made_sig x
theorem s_l15Made_f_eq (x0 : (List (Int))) (x1 : (Int)) (x2 : (List (Int))) (x3 : (Int)) (x4 : (Int)) (x5 : (Int)) : s_l15Made_f (x0, x1, x2, x3, x4, x5) = (Option.bind (s_l15Place_f (x0, x1, x2)) fun r1 => (cond (((x3 == 0) && ((x4 == x4) && ((x5 == x5) && true)))) (Option.bind (s_l1In_f (x4, 0, (IntKind.i64.wrap ((List.length x0 : Int) - 1)))) fun r2 => (cond (r2) (Option.bind (s_l1In_f (x5, 0, (IntKind.i64.wrap ((List.length x0 : Int) - 1)))) fun r3 => (cond (r3) (cond ((x4 != x5)) (if (0 : Int) ≤ x4 ∧ x4 < (List.length r1.1 : Int) then (if x5 < 0 then none else (if (0 : Int) ≤ x4 ∧ x4 < (List.length r1.1 : Int) then (if (0 : Int) ≤ x5 ∧ x5 < (List.length (List.set r1.1 (x4 : Int).toNat (Go.bits .xor IntKind.i64 (List.getD r1.1 (x4 : Int).toNat 0) (IntKind.i64.wrap (1 * 2 ^ min (x5 : Int).toNat IntKind.i64.bits)))) : Int) then (if x4 < 0 then none else (if (0 : Int) ≤ x5 ∧ x5 < (List.length (List.set r1.1 (x4 : Int).toNat (Go.bits .xor IntKind.i64 (List.getD r1.1 (x4 : Int).toNat 0) (IntKind.i64.wrap (1 * 2 ^ min (x5 : Int).toNat IntKind.i64.bits)))) : Int) then (some ((List.set (List.set r1.1 (x4 : Int).toNat (Go.bits .xor IntKind.i64 (List.getD r1.1 (x4 : Int).toNat 0) (IntKind.i64.wrap (1 * 2 ^ min (x5 : Int).toNat IntKind.i64.bits)))) (x5 : Int).toNat (Go.bits .xor IntKind.i64 (List.getD (List.set r1.1 (x4 : Int).toNat (Go.bits .xor IntKind.i64 (List.getD r1.1 (x4 : Int).toNat 0) (IntKind.i64.wrap (1 * 2 ^ min (x5 : Int).toNat IntKind.i64.bits)))) (x5 : Int).toNat 0) (IntKind.i64.wrap (1 * 2 ^ min (x4 : Int).toNat IntKind.i64.bits)))), r1.2.1, r1.2.2)) else none)) else none) else none)) else none) (cond (((x3 == 1) && ((x4 == x4) && ((x5 == 0) && true)))) (Option.bind (s_l1In_f (x4, 0, (IntKind.i64.wrap ((List.length x0 : Int) - 1)))) fun r4 => (cond (r4) (if (0 : Int) ≤ x4 ∧ x4 < (List.length x2 : Int) then (cond (((List.getD x2 (x4 : Int).toNat 0) == 0)) (if (0 : Int) ≤ x4 ∧ x4 < (List.length r1.2.2 : Int) then (some (r1.1, r1.2.1, (List.set r1.2.2 (x4 : Int).toNat 1))) else none) (cond (((x3 == 2) && ((x4 == 0) && ((x5 == 0) && true)))) (Option.bind (s_l3Step_f (x0, x1, x2)) fun r5 => (some (r1.1, r1.2.1, r5))) (cond (((x3 == 3) && ((x4 == x4) && ((x5 == 0) && true)))) (some (r1.1, x4, r1.2.2)) (some ([], 0, []))))) else none) (cond (((x3 == 2) && ((x4 == 0) && ((x5 == 0) && true)))) (Option.bind (s_l3Step_f (x0, x1, x2)) fun r6 => (some (r1.1, r1.2.1, r6))) (cond (((x3 == 3) && ((x4 == x4) && ((x5 == 0) && true)))) (some (r1.1, x4, r1.2.2)) (some ([], 0, [])))))) (cond (((x3 == 2) && ((x4 == 0) && ((x5 == 0) && true)))) (Option.bind (s_l3Step_f (x0, x1, x2)) fun r7 => (some (r1.1, r1.2.1, r7))) (cond (((x3 == 3) && ((x4 == x4) && ((x5 == 0) && true)))) (some (r1.1, x4, r1.2.2)) (some ([], 0, [])))))) (cond (((x3 == 1) && ((x4 == x4) && ((x5 == 0) && true)))) (Option.bind (s_l1In_f (x4, 0, (IntKind.i64.wrap ((List.length x0 : Int) - 1)))) fun r8 => (cond (r8) (if (0 : Int) ≤ x4 ∧ x4 < (List.length x2 : Int) then (cond (((List.getD x2 (x4 : Int).toNat 0) == 0)) (if (0 : Int) ≤ x4 ∧ x4 < (List.length r1.2.2 : Int) then (some (r1.1, r1.2.1, (List.set r1.2.2 (x4 : Int).toNat 1))) else none) (cond (((x3 == 2) && ((x4 == 0) && ((x5 == 0) && true)))) (Option.bind (s_l3Step_f (x0, x1, x2)) fun r9 => (some (r1.1, r1.2.1, r9))) (cond (((x3 == 3) && ((x4 == x4) && ((x5 == 0) && true)))) (some (r1.1, x4, r1.2.2)) (some ([], 0, []))))) else none) (cond (((x3 == 2) && ((x4 == 0) && ((x5 == 0) && true)))) (Option.bind (s_l3Step_f (x0, x1, x2)) fun r10 => (some (r1.1, r1.2.1, r10))) (cond (((x3 == 3) && ((x4 == x4) && ((x5 == 0) && true)))) (some (r1.1, x4, r1.2.2)) (some ([], 0, [])))))) (cond (((x3 == 2) && ((x4 == 0) && ((x5 == 0) && true)))) (Option.bind (s_l3Step_f (x0, x1, x2)) fun r11 => (some (r1.1, r1.2.1, r11))) (cond (((x3 == 3) && ((x4 == x4) && ((x5 == 0) && true)))) (some (r1.1, x4, r1.2.2)) (some ([], 0, []))))))) (cond (((x3 == 1) && ((x4 == x4) && ((x5 == 0) && true)))) (Option.bind (s_l1In_f (x4, 0, (IntKind.i64.wrap ((List.length x0 : Int) - 1)))) fun r12 => (cond (r12) (if (0 : Int) ≤ x4 ∧ x4 < (List.length x2 : Int) then (cond (((List.getD x2 (x4 : Int).toNat 0) == 0)) (if (0 : Int) ≤ x4 ∧ x4 < (List.length r1.2.2 : Int) then (some (r1.1, r1.2.1, (List.set r1.2.2 (x4 : Int).toNat 1))) else none) (cond (((x3 == 2) && ((x4 == 0) && ((x5 == 0) && true)))) (Option.bind (s_l3Step_f (x0, x1, x2)) fun r13 => (some (r1.1, r1.2.1, r13))) (cond (((x3 == 3) && ((x4 == x4) && ((x5 == 0) && true)))) (some (r1.1, x4, r1.2.2)) (some ([], 0, []))))) else none) (cond (((x3 == 2) && ((x4 == 0) && ((x5 == 0) && true)))) (Option.bind (s_l3Step_f (x0, x1, x2)) fun r14 => (some (r1.1, r1.2.1, r14))) (cond (((x3 == 3) && ((x4 == x4) && ((x5 == 0) && true)))) (some (r1.1, x4, r1.2.2)) (some ([], 0, [])))))) (cond (((x3 == 2) && ((x4 == 0) && ((x5 == 0) && true)))) (Option.bind (s_l3Step_f (x0, x1, x2)) fun r15 => (some (r1.1, r1.2.1, r15))) (cond (((x3 == 3) && ((x4 == x4) && ((x5 == 0) && true)))) (some (r1.1, x4, r1.2.2)) (some ([], 0, []))))))) (cond (((x3 == 1) && ((x4 == x4) && ((x5 == 0) && true)))) (Option.bind (s_l1In_f (x4, 0, (IntKind.i64.wrap ((List.length x0 : Int) - 1)))) fun r16 => (cond (r16) (if (0 : Int) ≤ x4 ∧ x4 < (List.length x2 : Int) then (cond (((List.getD x2 (x4 : Int).toNat 0) == 0)) (if (0 : Int) ≤ x4 ∧ x4 < (List.length r1.2.2 : Int) then (some (r1.1, r1.2.1, (List.set r1.2.2 (x4 : Int).toNat 1))) else none) (cond (((x3 == 2) && ((x4 == 0) && ((x5 == 0) && true)))) (Option.bind (s_l3Step_f (x0, x1, x2)) fun r17 => (some (r1.1, r1.2.1, r17))) (cond (((x3 == 3) && ((x4 == x4) && ((x5 == 0) && true)))) (some (r1.1, x4, r1.2.2)) (some ([], 0, []))))) else none) (cond (((x3 == 2) && ((x4 == 0) && ((x5 == 0) && true)))) (Option.bind (s_l3Step_f (x0, x1, x2)) fun r18 => (some (r1.1, r1.2.1, r18))) (cond (((x3 == 3) && ((x4 == x4) && ((x5 == 0) && true)))) (some (r1.1, x4, r1.2.2)) (some ([], 0, [])))))) (cond (((x3 == 2) && ((x4 == 0) && ((x5 == 0) && true)))) (Option.bind (s_l3Step_f (x0, x1, x2)) fun r19 => (some (r1.1, r1.2.1, r19))) (cond (((x3 == 3) && ((x4 == x4) && ((x5 == 0) && true)))) (some (r1.1, x4, r1.2.2)) (some ([], 0, []))))))) := by
  kernel_rfl
theorem s_l15Made_ent : Entb Tryd.prog 37 := ⟨Tryd.f37, by kernel_rfl, by kernel_rfl, by kernel_rfl⟩
theorem s_l15Made_ok : CtrOk Tryd.prog 37 ⟨s_l15Made_sig, s_l15Made_f⟩ :=
  ctr_of (fn := Tryd.f37) (by kernel_rfl) (by kernel_rfl) (fun x : Ts s_l15Made_sig.pc => s_l15Made_E) (fun x => ⟨(fn_cons ⟨s_l1In_ok, s_l1In_ent⟩ (fn_cons ⟨s_l15Place_ok, s_l15Place_ent⟩ (fn_cons ⟨s_l3Step_ok, s_l3Step_ent⟩ fn_none))), clo_none, wr_none⟩) (fun h => by cases h) follows_ (fun _ _ => trivial)
end FN
set_option linter.unusedVariables false
namespace FN
open Go Go.Proofs
/-! loop.example/firingnets/spec.DeskDo -/
@[reducible] def s_DeskDo_sig : Sig := { ps := [some 4, some 3], pc := [.view .i64, .int .i64, .view .i64, .view .place, .int .i64, .int .i64, .int .i64], rs := [some 4, none], rc := [.view .i64, .int .i64, .view .i64, .view .place, .bool] }
noncomputable def s_DeskDo_E : Env' := { fn := fun f => if f = 24 then some ⟨s_DeskOk_sig, s_DeskOk_f⟩ else if f = 36 then some ⟨s_l15Copy_sig, s_l15Copy_f⟩ else if f = 37 then some ⟨s_l15Made_sig, s_l15Made_f⟩ else if f = 38 then some ⟨s_PlaceOk_sig, s_PlaceOk_f⟩ else if f = 39 then some ⟨s_PlaceText_sig, s_PlaceText_f⟩ else none, ck := ckT, cuts := [(15, [4, 6, 8])], mine := fun i => i == 10 || i == 14 || i == 43 || i == 45 || i == 49 || i == 52 }
noncomputable def s_DeskDo_f (x : Ts s_DeskDo_sig.pc) : Option (Ts s_DeskDo_sig.rc) := runFn Tryd.prog (s_DeskDo_E) Tryd.f9 s_DeskDo_sig x
noncomputable def s_DeskDo_j0 (y0 : Int) (y1 : Int) (y2 : List (List Int × Int × List Int)) (y3 : Int) (y4 : List (Int)) (y5 : List (Int)) : Option ((List (Int)) × (Int) × (List (Int)) × (List (List Int × Int × List Int)) × (Bool)) := from_ Tryd.prog (s_DeskDo_E) Tryd.f9 s_DeskDo_sig [1, 1, 1, 1, 1, 1, 1, 1] ⟨mkT 74 [(4, .ptr 0 0), (6, .ptr 1 0), (8, .ptr 2 0)], [some (.box 34 [.nilS, .int .i64 y0, .nilS, .nilS]), some (.box 34 [.junk, .int .i64 y1, .junk, .row true .place y2]), some (.box 31 [.own 3, .int .i64 y3, .own 4]), some (.arr 3 true .i64 y4), some (.arr 3 true .i64 y5)]⟩
noncomputable def s_DeskDo_j1 (y0 : Int) (y1 : Int) (y2 : Int) (y3 : List (List Int × Int × List Int)) (y4 : List (Int)) (y5 : List (Int)) : Option ((List (Int)) × (Int) × (List (Int)) × (List (List Int × Int × List Int)) × (Bool)) := from_ Tryd.prog (s_DeskDo_E) Tryd.f9 s_DeskDo_sig [1, 1, 1, 1, 1, 1, 1, 1] ⟨mkT 74 [(4, .ptr 0 0), (6, .ptr 1 0), (8, .ptr 2 0)], [some (.box 34 [.nilS, .int .i64 y0, .nilS, .nilS]), some (.box 34 [.junk, .int .i64 y1, .junk, .own 3]), some (.box 31 [.own 4, .int .i64 y2, .own 5]), some (.arr 31 true .place y3), some (.arr 3 true .i64 y4), some (.arr 3 true .i64 y5)]⟩
theorem s_DeskDo_f_eq (x0 : (List (Int))) (x1 : (Int)) (x2 : (List (Int))) (x3 : (List (List Int × Int × List Int))) (x4 : (Int)) (x5 : (Int)) (x6 : (Int)) : s_DeskDo_f (x0, x1, x2, x3, x4, x5, x6) = (Option.bind (s_DeskOk_f (x0, x1, x2, x3)) fun r1 => (cond ((!r1)) (some ([], 0, [], [], false)) (Option.bind (s_l15Copy_f (x0, x1, x2, x3)) fun r2 => (cond (((x4 == 4) && ((x5 == 0) && ((x6 == 0) && true)))) (cond ((decide (0 < (List.length x3 : Int)))) (if (0 : Int) ≤ (IntKind.i64.wrap ((List.length r2.2.2.2 : Int) - 1)) ∧ (IntKind.i64.wrap ((List.length r2.2.2.2 : Int) - 1)) < (List.length r2.2.2.2 : Int) then (if (0 : Int) ≤ (IntKind.i64.wrap ((List.length r2.2.2.2 : Int) - 1)) ∧ (IntKind.i64.wrap ((List.length r2.2.2.2 : Int) - 1)) ≤ (List.length r2.2.2.2 : Int) then (some ((List.getD r2.2.2.2 ((IntKind.i64.wrap ((List.length r2.2.2.2 : Int) - 1)) : Int).toNat ([], 0, [])).1, (List.getD r2.2.2.2 ((IntKind.i64.wrap ((List.length r2.2.2.2 : Int) - 1)) : Int).toNat ([], 0, [])).2.1, (List.getD r2.2.2.2 ((IntKind.i64.wrap ((List.length r2.2.2.2 : Int) - 1)) : Int).toNat ([], 0, [])).2.2, (List.drop 0 (List.take (((IntKind.i64.wrap ((List.length r2.2.2.2 : Int) - 1)) : Int).toNat) r2.2.2.2)), true)) else none) else none) (Option.bind (s_l15Made_f (x0, x1, x2, x4, x5, x6)) fun r3 => (Option.bind (s_PlaceOk_f (r3.1, r3.2.1, r3.2.2)) fun r4 => (cond ((!r4)) (some (r2.1, r2.2.1, r2.2.2.1, r2.2.2.2, false)) (Option.bind (s_PlaceText_f (r3.1, r3.2.1, r3.2.2)) fun r5 => (Option.bind (s_PlaceText_f (x0, x1, x2)) fun r6 => (cond ((ByteArray.toList r5 == ByteArray.toList r6)) (some (r2.1, r2.2.1, r2.2.2.1, r2.2.2.2, false)) (if (List.length r2.2.2.2 + List.length ([(r2.1, r2.2.1, r2.2.2.1)] : List (List Int × Int × List Int))) * 56 ≤ 140737488355328 then (cond ((decide (8 < (List.length (r2.2.2.2 ++ ([(r2.1, r2.2.1, r2.2.2.1)] : List (List Int × Int × List Int))) : Int)))) (if (0 : Int) ≤ 1 ∧ 1 ≤ (List.length (r2.2.2.2 ++ ([(r2.1, r2.2.1, r2.2.2.1)] : List (List Int × Int × List Int))) : Int) then (s_DeskDo_j0 0 r2.2.1 (List.drop (1 : Int).toNat (List.take ((List.length (r2.2.2.2 ++ ([(r2.1, r2.2.1, r2.2.2.1)] : List (List Int × Int × List Int))))) (r2.2.2.2 ++ ([(r2.1, r2.2.1, r2.2.2.1)] : List (List Int × Int × List Int))))) r3.2.1 r3.1 r3.2.2) else none) (s_DeskDo_j1 0 r2.2.1 r3.2.1 (r2.2.2.2 ++ ([(r2.1, r2.2.1, r2.2.2.1)] : List (List Int × Int × List Int))) r3.1 r3.2.2)) else none)))))))) (Option.bind (s_l15Made_f (x0, x1, x2, x4, x5, x6)) fun r7 => (Option.bind (s_PlaceOk_f (r7.1, r7.2.1, r7.2.2)) fun r8 => (cond ((!r8)) (some (r2.1, r2.2.1, r2.2.2.1, r2.2.2.2, false)) (Option.bind (s_PlaceText_f (r7.1, r7.2.1, r7.2.2)) fun r9 => (Option.bind (s_PlaceText_f (x0, x1, x2)) fun r10 => (cond ((ByteArray.toList r9 == ByteArray.toList r10)) (some (r2.1, r2.2.1, r2.2.2.1, r2.2.2.2, false)) (if (List.length r2.2.2.2 + List.length ([(r2.1, r2.2.1, r2.2.2.1)] : List (List Int × Int × List Int))) * 56 ≤ 140737488355328 then (cond ((decide (8 < (List.length (r2.2.2.2 ++ ([(r2.1, r2.2.1, r2.2.2.1)] : List (List Int × Int × List Int))) : Int)))) (if (0 : Int) ≤ 1 ∧ 1 ≤ (List.length (r2.2.2.2 ++ ([(r2.1, r2.2.1, r2.2.2.1)] : List (List Int × Int × List Int))) : Int) then (s_DeskDo_j0 0 r2.2.1 (List.drop (1 : Int).toNat (List.take ((List.length (r2.2.2.2 ++ ([(r2.1, r2.2.1, r2.2.2.1)] : List (List Int × Int × List Int))))) (r2.2.2.2 ++ ([(r2.1, r2.2.1, r2.2.2.1)] : List (List Int × Int × List Int))))) r7.2.1 r7.1 r7.2.2) else none) (s_DeskDo_j1 0 r2.2.1 r7.2.1 (r2.2.2.2 ++ ([(r2.1, r2.2.1, r2.2.2.1)] : List (List Int × Int × List Int))) r7.1 r7.2.2)) else none))))))))))) := by
  kernel_rfl
theorem s_DeskDo_j0_eq (y0 : Int) (y1 : Int) (y2 : List (List Int × Int × List Int)) (y3 : Int) (y4 : List (Int)) (y5 : List (Int)) : s_DeskDo_j0 y0 y1 y2 y3 y4 y5 = (some (y4, y3, y5, y2, true)) := by
  kernel_rfl
theorem s_DeskDo_j1_eq (y0 : Int) (y1 : Int) (y2 : Int) (y3 : List (List Int × Int × List Int)) (y4 : List (Int)) (y5 : List (Int)) : s_DeskDo_j1 y0 y1 y2 y3 y4 y5 = (some (y4, y2, y5, y3, true)) := by
  kernel_rfl
theorem s_DeskDo_ent : Entb Tryd.prog 9 := ⟨Tryd.f9, by kernel_rfl, by kernel_rfl, by kernel_rfl⟩
theorem s_DeskDo_ok : CtrOk Tryd.prog 9 ⟨s_DeskDo_sig, s_DeskDo_f⟩ :=
  ctr_of (fn := Tryd.f9) (by kernel_rfl) (by kernel_rfl) (fun x : Ts s_DeskDo_sig.pc => s_DeskDo_E) (fun x => ⟨(fn_cons ⟨s_DeskOk_ok, s_DeskOk_ent⟩ (fn_cons ⟨s_l15Copy_ok, s_l15Copy_ent⟩ (fn_cons ⟨s_l15Made_ok, s_l15Made_ent⟩ (fn_cons ⟨s_PlaceOk_ok, s_PlaceOk_ent⟩ (fn_cons ⟨s_PlaceText_ok, s_PlaceText_ent⟩ fn_none))))), clo_none, wr_none⟩) (fun h => by cases h) follows_ (fun _ _ => trivial)
end FN
set_option linter.unusedVariables false
namespace FN
open Go Go.Proofs
/-! loop.example/firingnets/spec.l15Run -/
@[reducible] def s_l15Run_sig : Sig := { ps := [some 4, none], pc := [.view .i64, .int .i64, .view .i64, .view .place, .view .deed], rs := [some 4, none], rc := [.view .i64, .int .i64, .view .i64, .view .place, .int .i64] }
noncomputable def s_l15Run_E : Env' := { fn := fun f => if f = 9 then some ⟨s_DeskDo_sig, s_DeskDo_f⟩ else if f = 36 then some ⟨s_l15Copy_sig, s_l15Copy_f⟩ else none, ck := ckT, cuts := [(4, [1, 4, 6, 7, 8])], mine := fun i => false }
noncomputable def s_l15Run_f (x : Ts s_l15Run_sig.pc) : Option (Ts s_l15Run_sig.rc) := runFn Tryd.prog (s_l15Run_E) Tryd.f65 s_l15Run_sig x
noncomputable def s_l15Run_l0 (y0 : List (Int × Int × Int)) (y1 : Int) (y2 : Int) (y3 : Int) (y4 : List (Int)) (y5 : Int) (y6 : List (Int)) (y7 : List (List Int × Int × List Int)) : Option ((List (Int)) × (Int) × (List (Int)) × (List (List Int × Int × List Int)) × (Int)) := from_ Tryd.prog (s_l15Run_E) Tryd.f65 s_l15Run_sig [1, 1, 1, 0, 1, 0] ⟨mkT 34 [(1, .row false .deed y0), (4, .ptr 0 0), (6, .ptr 1 0), (7, .int .i64 y1), (8, .int .i64 y2)], [some (.box 34 [.nilS, .int .i64 y3, .nilS, .nilS]), some (.box 34 [.row true .i64 y4, .int .i64 y5, .row true .i64 y6, .row true .place y7])]⟩
noncomputable def s_l15Run_l1 (y0 : List (Int × Int × Int)) (y1 : Int) (y2 : Int) (y3 : Int) (y4 : List (Int)) (y5 : Int) (y6 : List (Int)) (y7 : List (List Int × Int × List Int)) : Option ((List (Int)) × (Int) × (List (Int)) × (List (List Int × Int × List Int)) × (Int)) := from_ Tryd.prog (s_l15Run_E) Tryd.f65 s_l15Run_sig [1, 1, 1, 0, 1, 0] ⟨mkT 34 [(1, .row false .deed y0), (4, .ptr 0 0), (6, .ptr 1 0), (7, .int .i64 y1), (8, .int .i64 y2)], [some (.box 34 [.nilS, .int .i64 y3, .nilS, .nilS]), some (.box 34 [.row false .i64 y4, .int .i64 y5, .row false .i64 y6, .row false .place y7])]⟩
theorem s_l15Run_f_eq (x0 : (List (Int))) (x1 : (Int)) (x2 : (List (Int))) (x3 : (List (List Int × Int × List Int))) (x4 : (List (Int × Int × Int))) : s_l15Run_f (x0, x1, x2, x3, x4) = (Option.bind (s_l15Copy_f (x0, x1, x2, x3)) fun r1 => (s_l15Run_l0 x4 0 0 0 r1.1 r1.2.1 r1.2.2.1 r1.2.2.2)) := by
  kernel_rfl
theorem s_l15Run_l0_eq (y0 : List (Int × Int × Int)) (y1 : Int) (y2 : Int) (y3 : Int) (y4 : List (Int)) (y5 : Int) (y6 : List (Int)) (y7 : List (List Int × Int × List Int)) : s_l15Run_l0 y0 y1 y2 y3 y4 y5 y6 y7 = (cond ((decide (y2 < (List.length y0 : Int)))) (if (0 : Int) ≤ y2 ∧ y2 < (List.length y0 : Int) then (Option.bind (s_DeskDo_f (y4, y5, y6, y7, (List.getD y0 (y2 : Int).toNat (0, 0, 0)).1, (List.getD y0 (y2 : Int).toNat (0, 0, 0)).2.1, (List.getD y0 (y2 : Int).toNat (0, 0, 0)).2.2)) fun r1 => (cond (r1.2.2.2.2) (s_l15Run_l1 y0 (IntKind.i64.wrap (y1 + 1)) (IntKind.i64.wrap (y2 + 1)) y3 r1.1 r1.2.1 r1.2.2.1 r1.2.2.2.1) (s_l15Run_l0 y0 y1 (IntKind.i64.wrap (y2 + 1)) y3 y4 y5 y6 y7))) else none) (some (y4, y5, y6, y7, y1))) := by
  refine (loopK_eq Tryd.prog (s_l15Run_E) (sub (Tryd.f65.body.getD .skip) [1, 1, 1, 0, 1, 0, 0]) _ _).trans ?_
  refine Eq.trans (b := (cond ((decide (y2 < (List.length y0 : Int)))) (if (0 : Int) ≤ y2 ∧ y2 < (List.length y0 : Int) then (same [(Option.bind (s_DeskDo_f (y4, y5, y6, y7, (List.getD y0 (y2 : Int).toNat (0, 0, 0)).1, (List.getD y0 (y2 : Int).toNat (0, 0, 0)).2.1, (List.getD y0 (y2 : Int).toNat (0, 0, 0)).2.2)) fun r1 => (cond (r1.2.2.2.2) (s_l15Run_l1 y0 (IntKind.i64.wrap (y1 + 1)) (IntKind.i64.wrap (y2 + 1)) y3 r1.1 r1.2.1 r1.2.2.1 r1.2.2.2.1) (s_l15Run_l0 y0 y1 (IntKind.i64.wrap (y2 + 1)) y3 y4 y5 y6 y7))), (Option.bind (s_DeskDo_f (y4, y5, y6, y7, (List.getD y0 (y2 : Int).toNat (0, 0, 0)).1, (List.getD y0 (y2 : Int).toNat (0, 0, 0)).2.1, (List.getD y0 (y2 : Int).toNat (0, 0, 0)).2.2)) fun r1 => (cond (r1.2.2.2.2) (s_l15Run_l1 y0 (IntKind.i64.wrap (y1 + 1)) (IntKind.i64.wrap (y2 + 1)) y3 r1.1 r1.2.1 r1.2.2.1 r1.2.2.2.1) (s_l15Run_l0 y0 y1 (IntKind.i64.wrap (y2 + 1)) y3 y4 y5 y6 y7)))]) else none) (some (y4, y5, y6, y7, y1)))) (by kernel_rfl) ?_
  simp only [same2, same3, same4, same5, same6, obind_ite]
theorem s_l15Run_l1_eq (y0 : List (Int × Int × Int)) (y1 : Int) (y2 : Int) (y3 : Int) (y4 : List (Int)) (y5 : Int) (y6 : List (Int)) (y7 : List (List Int × Int × List Int)) : s_l15Run_l1 y0 y1 y2 y3 y4 y5 y6 y7 = (cond ((decide (y2 < (List.length y0 : Int)))) (if (0 : Int) ≤ y2 ∧ y2 < (List.length y0 : Int) then (Option.bind (s_DeskDo_f (y4, y5, y6, y7, (List.getD y0 (y2 : Int).toNat (0, 0, 0)).1, (List.getD y0 (y2 : Int).toNat (0, 0, 0)).2.1, (List.getD y0 (y2 : Int).toNat (0, 0, 0)).2.2)) fun r1 => (cond (r1.2.2.2.2) (s_l15Run_l1 y0 (IntKind.i64.wrap (y1 + 1)) (IntKind.i64.wrap (y2 + 1)) y3 r1.1 r1.2.1 r1.2.2.1 r1.2.2.2.1) (s_l15Run_l1 y0 y1 (IntKind.i64.wrap (y2 + 1)) y3 y4 y5 y6 y7))) else none) (some (y4, y5, y6, y7, y1))) := by
  refine (loopK_eq Tryd.prog (s_l15Run_E) (sub (Tryd.f65.body.getD .skip) [1, 1, 1, 0, 1, 0, 0]) _ _).trans ?_
  refine Eq.trans (b := (cond ((decide (y2 < (List.length y0 : Int)))) (if (0 : Int) ≤ y2 ∧ y2 < (List.length y0 : Int) then (same [(Option.bind (s_DeskDo_f (y4, y5, y6, y7, (List.getD y0 (y2 : Int).toNat (0, 0, 0)).1, (List.getD y0 (y2 : Int).toNat (0, 0, 0)).2.1, (List.getD y0 (y2 : Int).toNat (0, 0, 0)).2.2)) fun r1 => (cond (r1.2.2.2.2) (s_l15Run_l1 y0 (IntKind.i64.wrap (y1 + 1)) (IntKind.i64.wrap (y2 + 1)) y3 r1.1 r1.2.1 r1.2.2.1 r1.2.2.2.1) (s_l15Run_l1 y0 y1 (IntKind.i64.wrap (y2 + 1)) y3 y4 y5 y6 y7))), (Option.bind (s_DeskDo_f (y4, y5, y6, y7, (List.getD y0 (y2 : Int).toNat (0, 0, 0)).1, (List.getD y0 (y2 : Int).toNat (0, 0, 0)).2.1, (List.getD y0 (y2 : Int).toNat (0, 0, 0)).2.2)) fun r1 => (cond (r1.2.2.2.2) (s_l15Run_l1 y0 (IntKind.i64.wrap (y1 + 1)) (IntKind.i64.wrap (y2 + 1)) y3 r1.1 r1.2.1 r1.2.2.1 r1.2.2.2.1) (s_l15Run_l1 y0 y1 (IntKind.i64.wrap (y2 + 1)) y3 y4 y5 y6 y7)))]) else none) (some (y4, y5, y6, y7, y1)))) (by kernel_rfl) ?_
  simp only [same2, same3, same4, same5, same6, obind_ite]
theorem s_l15Run_ent : Entb Tryd.prog 65 := ⟨Tryd.f65, by kernel_rfl, by kernel_rfl, by kernel_rfl⟩
theorem s_l15Run_ok : CtrOk Tryd.prog 65 ⟨s_l15Run_sig, s_l15Run_f⟩ :=
  ctr_of (fn := Tryd.f65) (by kernel_rfl) (by kernel_rfl) (fun x : Ts s_l15Run_sig.pc => s_l15Run_E) (fun x => ⟨(fn_cons ⟨s_DeskDo_ok, s_DeskDo_ent⟩ (fn_cons ⟨s_l15Copy_ok, s_l15Copy_ent⟩ fn_none)), clo_none, wr_none⟩) (fun h => by cases h) follows_ (fun _ _ => trivial)
end FN
set_option linter.unusedVariables false
namespace FN
open Go Go.Proofs
/-! loop.example/firingnets/impl.needStep -/
@[reducible] def i_needStep_sig : Sig := { ps := [none, none, none, none], pc := [.view .i64, .int .i64, .any, .view .i64], rs := [none], rc := [.row 3 .i64] }
noncomputable def i_needStep_E : Env' := { fn := fun f => none, ck := ckT, cuts := [(3, [0, 1, 2, 3, 9, 19, 20, 21]), (9, [0, 1, 2, 3, 9, 10, 12, 13, 19, 20, 21, 35, 36, 37]), (14, [0, 1, 2, 3, 9, 10, 12, 13, 19, 20, 21]), (16, [0, 1, 2, 3, 9, 10, 12, 13, 19, 20, 21])], mine := fun i => false }
noncomputable def i_needStep_f (x : Ts i_needStep_sig.pc) : Option (Ts i_needStep_sig.rc) := runFn Tryd.prog (i_needStep_E) Tryd.f43 i_needStep_sig x
noncomputable def i_needStep_l0 (y0 : List (Int)) (y1 : Int) (y2 : List (Int)) (y3 : List (Int)) (y4 : Int) (y5 : Int) (y6 : List (Int)) : Option ((List (Int))) := from_ Tryd.prog (i_needStep_E) Tryd.f43 i_needStep_sig [1, 1, 0, 1, 0] ⟨mkT 71 [(0, .row false .i64 y0), (1, .int .i64 y1), (2, .nilS), (3, .row false .i64 y2), (9, .own 0), (19, .row false .i64 y3), (20, .int .i64 y4), (21, .int .i64 y5)], [some (.arr 3 true .i64 y6)]⟩
noncomputable def i_needStep_l1 (y0 : List (Int)) (y1 : Int) (y2 : List (Int)) (y3 : Int) (y4 : Int) (y5 : Int) (y6 : List (Int)) (y7 : Int) (y8 : Int) (y9 : List (Int)) (y10 : Int) (y11 : Int) (y12 : List (Int)) : Option ((List (Int))) := from_ Tryd.prog (i_needStep_E) Tryd.f43 i_needStep_sig [1, 1, 0, 1, 0, 0, 1, 1, 0, 0, 1, 1, 1, 0, 1, 0] ⟨mkT 71 [(0, .row false .i64 y0), (1, .int .i64 y1), (2, .nilS), (3, .row false .i64 y2), (9, .own 0), (10, .int .i64 y3), (12, .int .i64 y4), (13, .int .i64 y5), (19, .row false .i64 y6), (20, .int .i64 y7), (21, .int .i64 y8), (35, .row false .i64 y9), (36, .int .i64 y10), (37, .int .i64 y11)], [some (.arr 3 true .i64 y12)]⟩
noncomputable def i_needStep_j2 (y0 : List (Int)) (y1 : Int) (y2 : List (Int)) (y3 : Int) (y4 : Int) (y5 : Int) (y6 : List (Int)) (y7 : Int) (y8 : Int) (y9 : List (Int)) : Option ((List (Int))) := from_ Tryd.prog (i_needStep_E) Tryd.f43 i_needStep_sig [1, 1, 0, 1, 0, 0, 1, 1, 0, 0, 1, 1, 1, 1] ⟨mkT 71 [(0, .row false .i64 y0), (1, .int .i64 y1), (2, .nilS), (3, .row false .i64 y2), (9, .own 0), (10, .int .i64 y3), (12, .int .i64 y4), (13, .int .i64 y5), (19, .row false .i64 y6), (20, .int .i64 y7), (21, .int .i64 y8)], [some (.arr 3 true .i64 y9)]⟩
noncomputable def i_needStep_j3 (y0 : List (Int)) (y1 : Int) (y2 : List (Int)) (y3 : Int) (y4 : Int) (y5 : Int) (y6 : List (Int)) (y7 : Int) (y8 : Int) (y9 : List (Int)) : Option ((List (Int))) := from_ Tryd.prog (i_needStep_E) Tryd.f43 i_needStep_sig [1, 1, 0, 1, 0, 0, 1, 1, 0, 0, 1, 1, 1, 1, 1] ⟨mkT 71 [(0, .row false .i64 y0), (1, .int .i64 y1), (2, .nilS), (3, .row false .i64 y2), (9, .own 0), (10, .int .i64 y3), (12, .int .i64 y4), (13, .int .i64 y5), (19, .row false .i64 y6), (20, .int .i64 y7), (21, .int .i64 y8)], [some (.arr 3 true .i64 y9)]⟩
theorem i_needStep_f_eq (x0 : (List (Int))) (x1 : (Int)) (x2 : (Unit)) (x3 : (List (Int))) : i_needStep_f (x0, x1, x2, x3) = (if (0 : Int) ≤ (List.length x3 : Int) ∧ (List.length x3 : Int) * 8 ≤ 140737488355328 ∧ (List.length x3 : Int) ≤ 140737488355328 then (i_needStep_l0 x0 x1 x3 x3 (List.length x3 : Int) 0 (List.replicate ((List.length x3 : Int) : Int).toNat 0 : List (Int))) else none) := by
  kernel_rfl
theorem i_needStep_l0_eq (y0 : List (Int)) (y1 : Int) (y2 : List (Int)) (y3 : List (Int)) (y4 : Int) (y5 : Int) (y6 : List (Int)) : i_needStep_l0 y0 y1 y2 y3 y4 y5 y6 = (cond ((decide (y5 < y4))) (if (0 : Int) ≤ y5 ∧ y5 < (List.length y3 : Int) then (cond ((decide (0 < (List.getD y3 (y5 : Int).toNat 0)))) (if y1 = 0 then none else (if (0 : Int) ≤ y5 ∧ y5 < (List.length y6 : Int) then (i_needStep_l0 y0 y1 y2 y3 y4 (IntKind.i64.wrap (y5 + 1)) (List.set y6 (y5 : Int).toNat (Int.tmod (IntKind.i64.wrap ((List.getD y3 (y5 : Int).toNat 0) + 1)) y1))) else none)) (i_needStep_l1 y0 y1 y2 y5 0 1 y3 y4 y5 y2 (List.length y2 : Int) 0 y6)) else none) (some y6)) := by
  refine (loopK_eq Tryd.prog (i_needStep_E) (sub (Tryd.f43.body.getD .skip) [1, 1, 0, 1, 0, 0]) _ _).trans ?_
  kernel_rfl
theorem i_needStep_l1_eq (y0 : List (Int)) (y1 : Int) (y2 : List (Int)) (y3 : Int) (y4 : Int) (y5 : Int) (y6 : List (Int)) (y7 : Int) (y8 : Int) (y9 : List (Int)) (y10 : Int) (y11 : Int) (y12 : List (Int)) : i_needStep_l1 y0 y1 y2 y3 y4 y5 y6 y7 y8 y9 y10 y11 y12 = (cond ((decide (y11 < y10))) (if (0 : Int) ≤ y11 ∧ y11 < (List.length y9 : Int) then (if (0 : Int) ≤ y3 ∧ y3 < (List.length y0 : Int) then (if y11 < 0 then none else (cond (((Go.bits .and IntKind.i64 (Int.fdiv (List.getD y0 (y3 : Int).toNat 0) (2 ^ min (y11 : Int).toNat IntKind.i64.bits)) 1) == 1)) (cond (((List.getD y9 (y11 : Int).toNat 0) == 1)) (i_needStep_l1 y0 y1 y2 y3 (IntKind.i64.wrap (y4 + 1)) y5 y6 y7 y8 y9 y10 (IntKind.i64.wrap (y11 + 1)) y12) (i_needStep_l1 y0 y1 y2 y3 y4 y5 y6 y7 y8 y9 y10 (IntKind.i64.wrap (y11 + 1)) y12)) (i_needStep_l1 y0 y1 y2 y3 y4 y5 y6 y7 y8 y9 y10 (IntKind.i64.wrap (y11 + 1)) y12))) else none) else none) (i_needStep_j2 y0 y1 y2 y3 y4 y5 y6 y7 y8 y12)) := by
  refine (loopK_eq Tryd.prog (i_needStep_E) (sub (Tryd.f43.body.getD .skip) [1, 1, 0, 1, 0, 0, 1, 1, 0, 0, 1, 1, 1, 0, 1, 0, 0]) _ _).trans ?_
  kernel_rfl
theorem i_needStep_j2_eq (y0 : List (Int)) (y1 : Int) (y2 : List (Int)) (y3 : Int) (y4 : Int) (y5 : Int) (y6 : List (Int)) (y7 : Int) (y8 : Int) (y9 : List (Int)) : i_needStep_j2 y0 y1 y2 y3 y4 y5 y6 y7 y8 y9 = (i_needStep_j3 y0 y1 y2 y3 y4 y5 y6 y7 y8 y9) := by
  kernel_rfl
theorem i_needStep_j3_eq (y0 : List (Int)) (y1 : Int) (y2 : List (Int)) (y3 : Int) (y4 : Int) (y5 : Int) (y6 : List (Int)) (y7 : Int) (y8 : Int) (y9 : List (Int)) : i_needStep_j3 y0 y1 y2 y3 y4 y5 y6 y7 y8 y9 = (cond ((decide (y5 ≤ y4))) (if (0 : Int) ≤ y3 ∧ y3 < (List.length y9 : Int) then (i_needStep_l0 y0 y1 y2 y6 y7 (IntKind.i64.wrap (y8 + 1)) (List.set y9 (y3 : Int).toNat 1)) else none) (i_needStep_l0 y0 y1 y2 y6 y7 (IntKind.i64.wrap (y8 + 1)) y9)) := by
  kernel_rfl
theorem i_needStep_ent : Entb Tryd.prog 43 := ⟨Tryd.f43, by kernel_rfl, by kernel_rfl, by kernel_rfl⟩
theorem i_needStep_ok : CtrOk Tryd.prog 43 ⟨i_needStep_sig, i_needStep_f⟩ :=
  ctr_of (fn := Tryd.f43) (by kernel_rfl) (by kernel_rfl) (fun x : Ts i_needStep_sig.pc => i_needStep_E) (fun x => ⟨fn_none, clo_none, wr_none⟩) (fun h => by cases h) follows_ (fun _ _ => trivial)
end FN
set_option linter.unusedVariables false
namespace FN
open Go Go.Proofs
/-! loop.example/firingnets/impl.DeskOk -/
@[reducible] def i_DeskOk_sig : Sig := { ps := [some 4], pc := [.view .i64, .int .i64, .view .i64, .view .place], rs := [none], rc := [.bool] }
noncomputable def i_DeskOk_E : Env' := { fn := fun f => if f = 45 then some ⟨i_PlaceOk_sig, i_PlaceOk_f⟩ else none, ck := ckT, cuts := [(2, [1, 6, 7, 8]), (7, [1])], mine := fun i => false }
noncomputable def i_DeskOk_f (x : Ts i_DeskOk_sig.pc) : Option (Ts i_DeskOk_sig.rc) := runFn Tryd.prog (i_DeskOk_E) Tryd.f18 i_DeskOk_sig x
noncomputable def i_DeskOk_l0 (y0 : List (List Int × Int × List Int)) (y1 : Int) (y2 : Int) (y3 : List (Int)) (y4 : Int) (y5 : List (Int)) (y6 : List (List Int × Int × List Int)) : Option ((Bool)) := from_ Tryd.prog (i_DeskOk_E) Tryd.f18 i_DeskOk_sig [1, 0, 1, 0] ⟨mkT 25 [(1, .ptr 0 0), (6, .row false .place y0), (7, .int .i64 y1), (8, .int .i64 y2)], [some (.box 34 [.row false .i64 y3, .int .i64 y4, .row false .i64 y5, .row false .place y6])]⟩
noncomputable def i_DeskOk_j1 (y0 : List (Int)) (y1 : Int) (y2 : List (Int)) (y3 : List (List Int × Int × List Int)) : Option ((Bool)) := from_ Tryd.prog (i_DeskOk_E) Tryd.f18 i_DeskOk_sig [1, 1] ⟨mkT 25 [(1, .ptr 0 0)], [some (.box 34 [.row false .i64 y0, .int .i64 y1, .row false .i64 y2, .row false .place y3])]⟩
theorem i_DeskOk_f_eq (x0 : (List (Int))) (x1 : (Int)) (x2 : (List (Int))) (x3 : (List (List Int × Int × List Int))) : i_DeskOk_f (x0, x1, x2, x3) = (i_DeskOk_l0 x3 (List.length x3 : Int) 0 x0 x1 x2 x3) := by
  kernel_rfl
theorem i_DeskOk_l0_eq (y0 : List (List Int × Int × List Int)) (y1 : Int) (y2 : Int) (y3 : List (Int)) (y4 : Int) (y5 : List (Int)) (y6 : List (List Int × Int × List Int)) : i_DeskOk_l0 y0 y1 y2 y3 y4 y5 y6 = (cond ((decide (y2 < y1))) (if (0 : Int) ≤ y2 ∧ y2 < (List.length y0 : Int) then (Option.bind (i_PlaceOk_f ((List.getD y0 (y2 : Int).toNat ([], 0, [])).1, (List.getD y0 (y2 : Int).toNat ([], 0, [])).2.1, (List.getD y0 (y2 : Int).toNat ([], 0, [])).2.2)) fun r1 => (cond ((!r1)) (some false) (i_DeskOk_l0 y0 y1 (IntKind.i64.wrap (y2 + 1)) y3 y4 y5 y6))) else none) (i_DeskOk_j1 y3 y4 y5 y6)) := by
  refine (loopK_eq Tryd.prog (i_DeskOk_E) (sub (Tryd.f18.body.getD .skip) [1, 0, 1, 0, 0]) _ _).trans ?_
  kernel_rfl
theorem i_DeskOk_j1_eq (y0 : List (Int)) (y1 : Int) (y2 : List (Int)) (y3 : List (List Int × Int × List Int)) : i_DeskOk_j1 y0 y1 y2 y3 = (Option.bind (i_PlaceOk_f (y0, y1, y2)) fun r1 => (cond (r1) (some (decide ((List.length y3 : Int) ≤ 8))) (some false))) := by
  kernel_rfl
theorem i_DeskOk_ent : Entb Tryd.prog 18 := ⟨Tryd.f18, by kernel_rfl, by kernel_rfl, by kernel_rfl⟩
theorem i_DeskOk_ok : CtrOk Tryd.prog 18 ⟨i_DeskOk_sig, i_DeskOk_f⟩ :=
  ctr_of (fn := Tryd.f18) (by kernel_rfl) (by kernel_rfl) (fun x : Ts i_DeskOk_sig.pc => i_DeskOk_E) (fun x => ⟨(fn_cons ⟨i_PlaceOk_ok, i_PlaceOk_ent⟩ fn_none), clo_none, wr_none⟩) (fun h => by cases h) follows_ (fun _ _ => trivial)
end FN
set_option linter.unusedVariables false
namespace FN
open Go Go.Proofs
/-! slices.Clone[[]int,int] -/
@[reducible] def x_slices_Clone_int_int_sig : Sig := { ps := [none], pc := [.view .i64], rs := [none], rc := [.row 3 .i64] }
noncomputable def x_slices_Clone_int_int_E : Env' := { fn := fun f => none, ck := ckT, cuts := [], mine := fun i => false }
noncomputable def x_slices_Clone_int_int_f (x : Ts x_slices_Clone_int_int_sig.pc) : Option (Ts x_slices_Clone_int_int_sig.rc) := runFn Tryd.prog (x_slices_Clone_int_int_E) Tryd.f80 x_slices_Clone_int_int_sig x
theorem x_slices_Clone_int_int_f_eq (x0 : (List (Int))) : x_slices_Clone_int_int_f x0 = (if true = true ∧ List.length x0 ≠ 0 then (if (List.length ([] : List (Int)) + List.length x0) * 8 ≤ 140737488355328 then (some (([] : List (Int)) ++ x0)) else none) else none) := by
  kernel_rfl
theorem x_slices_Clone_int_int_ent : Entb Tryd.prog 80 := ⟨Tryd.f80, by kernel_rfl, by kernel_rfl, by kernel_rfl⟩
theorem x_slices_Clone_int_int_ok : CtrOk Tryd.prog 80 ⟨x_slices_Clone_int_int_sig, x_slices_Clone_int_int_f⟩ :=
  ctr_of (fn := Tryd.f80) (by kernel_rfl) (by kernel_rfl) (fun x : Ts x_slices_Clone_int_int_sig.pc => x_slices_Clone_int_int_E) (fun x => ⟨fn_none, clo_none, wr_none⟩) (fun h => by cases h) follows_ (fun _ _ => trivial)
end FN
set_option linter.unusedVariables false
namespace FN
open Go Go.Proofs
/-! loop.example/firingnets/impl.copyPlace -/
@[reducible] def i_copyPlace_sig : Sig := { ps := [some 3], pc := [.view .i64, .int .i64, .view .i64], rs := [some 3], rc := [.row 3 .i64, .int .i64, .row 3 .i64] }
noncomputable def i_copyPlace_E : Env' := { fn := fun f => if f = 80 then some ⟨x_slices_Clone_int_int_sig, x_slices_Clone_int_int_f⟩ else none, ck := ckT, cuts := [], mine := fun i => i == 5 || i == 10 }
noncomputable def i_copyPlace_f (x : Ts i_copyPlace_sig.pc) : Option (Ts i_copyPlace_sig.rc) := runFn Tryd.prog (i_copyPlace_E) Tryd.f47 i_copyPlace_sig x
theorem i_copyPlace_f_eq (x0 : (List (Int))) (x1 : (Int)) (x2 : (List (Int))) : i_copyPlace_f (x0, x1, x2) = (Option.bind (x_slices_Clone_int_int_f x0) fun r1 => (Option.bind (x_slices_Clone_int_int_f x2) fun r2 => (some (r1, x1, r2)))) := by
  kernel_rfl
theorem i_copyPlace_ent : Entb Tryd.prog 47 := ⟨Tryd.f47, by kernel_rfl, by kernel_rfl, by kernel_rfl⟩
theorem i_copyPlace_ok : CtrOk Tryd.prog 47 ⟨i_copyPlace_sig, i_copyPlace_f⟩ :=
  ctr_of (fn := Tryd.f47) (by kernel_rfl) (by kernel_rfl) (fun x : Ts i_copyPlace_sig.pc => i_copyPlace_E) (fun x => ⟨(fn_cons ⟨x_slices_Clone_int_int_ok, x_slices_Clone_int_int_ent⟩ fn_none), clo_none, wr_none⟩) (fun h => by cases h) follows_ (fun _ _ => trivial)
end FN
set_option linter.unusedVariables false
namespace FN
open Go Go.Proofs
/-! loop.example/firingnets/impl.copyDesk -/
@[reducible] def i_copyDesk_sig : Sig := { ps := [some 4], pc := [.view .i64, .int .i64, .view .i64, .view .place], rs := [some 4], rc := [.row 3 .i64, .int .i64, .row 3 .i64, .drow true 31 3] }
noncomputable def i_copyDesk_E : Env' := { fn := fun f => if f = 47 then some ⟨i_copyPlace_sig, i_copyPlace_f⟩ else none, ck := ckT, cuts := [(3, [2, 3, 11, 12, 13])], mine := fun i => i == 8 || i == 20 || i == 21 }
noncomputable def i_copyDesk_f (x : Ts i_copyDesk_sig.pc) : Option (Ts i_copyDesk_sig.rc) := runFn Tryd.prog (i_copyDesk_E) Tryd.f42 i_copyDesk_sig x
noncomputable def i_copyDesk_l0 (y0 : List (List Int × Int × List Int)) (y1 : Int) (y2 : Int) (y3 : Int) (y4 : Int) (y5 : List (Int)) (y6 : List (Int)) : Option ((List (Int)) × (Int) × (List (Int)) × (List (List Int × Int × List Int))) := from_ Tryd.prog (i_copyDesk_E) Tryd.f42 i_copyDesk_sig [1, 1, 0, 1, 0] ⟨mkT 26 [(2, .ptr 0 0), (3, .ptr 1 0), (11, .row false .place y0), (12, .int .i64 y1), (13, .int .i64 y2)], [some (.box 34 [.nilS, .int .i64 y3, .nilS, .nilS]), some (.box 34 [.own 2, .int .i64 y4, .own 3, .nilS]), some (.arr 3 true .i64 y5), some (.arr 3 true .i64 y6)]⟩
noncomputable def i_copyDesk_l1 (y0 : List (List Int × Int × List Int)) (y1 : Int) (y2 : Int) (y3 : Int) (y4 : Int) (y5 : List (Int)) (y6 : List (Int)) (y7 : List (List Int × Int × List Int)) : Option ((List (Int)) × (Int) × (List (Int)) × (List (List Int × Int × List Int))) := from_ Tryd.prog (i_copyDesk_E) Tryd.f42 i_copyDesk_sig [1, 1, 0, 1, 0] ⟨mkT 26 [(2, .ptr 0 0), (3, .ptr 1 0), (11, .row false .place y0), (12, .int .i64 y1), (13, .int .i64 y2)], [some (.box 34 [.nilS, .int .i64 y3, .nilS, .nilS]), some (.box 34 [.own 2, .int .i64 y4, .own 3, .own 4]), some (.arr 3 true .i64 y5), some (.arr 3 true .i64 y6), some (.dp true 31 3 y7)]⟩
theorem i_copyDesk_f_eq (x0 : (List (Int))) (x1 : (Int)) (x2 : (List (Int))) (x3 : (List (List Int × Int × List Int))) : i_copyDesk_f (x0, x1, x2, x3) = (Option.bind (i_copyPlace_f (x0, x1, x2)) fun r1 => (i_copyDesk_l0 x3 (List.length x3 : Int) 0 0 r1.2.1 r1.1 r1.2.2)) := by
  kernel_rfl
theorem i_copyDesk_l0_eq (y0 : List (List Int × Int × List Int)) (y1 : Int) (y2 : Int) (y3 : Int) (y4 : Int) (y5 : List (Int)) (y6 : List (Int)) : i_copyDesk_l0 y0 y1 y2 y3 y4 y5 y6 = (cond ((decide (y2 < y1))) (if (0 : Int) ≤ y2 ∧ y2 < (List.length y0 : Int) then (Option.bind (i_copyPlace_f ((List.getD y0 (y2 : Int).toNat ([], 0, [])).1, (List.getD y0 (y2 : Int).toNat ([], 0, [])).2.1, (List.getD y0 (y2 : Int).toNat ([], 0, [])).2.2)) fun r1 => (if List.length ([(r1.1, r1.2.1, r1.2.2)] : List (List Int × Int × List Int)) * 56 ≤ 140737488355328 then (i_copyDesk_l1 y0 y1 (IntKind.i64.wrap (y2 + 1)) y3 y4 y5 y6 ([(r1.1, r1.2.1, r1.2.2)] : List (List Int × Int × List Int))) else none)) else none) (some (y5, y4, y6, []))) := by
  refine (loopK_eq Tryd.prog (i_copyDesk_E) (sub (Tryd.f42.body.getD .skip) [1, 1, 0, 1, 0, 0]) _ _).trans ?_
  kernel_rfl
theorem i_copyDesk_l1_eq (y0 : List (List Int × Int × List Int)) (y1 : Int) (y2 : Int) (y3 : Int) (y4 : Int) (y5 : List (Int)) (y6 : List (Int)) (y7 : List (List Int × Int × List Int)) : i_copyDesk_l1 y0 y1 y2 y3 y4 y5 y6 y7 = (cond ((decide (y2 < y1))) (if (0 : Int) ≤ y2 ∧ y2 < (List.length y0 : Int) then (Option.bind (i_copyPlace_f ((List.getD y0 (y2 : Int).toNat ([], 0, [])).1, (List.getD y0 (y2 : Int).toNat ([], 0, [])).2.1, (List.getD y0 (y2 : Int).toNat ([], 0, [])).2.2)) fun r1 => (if (List.length y7 + List.length ([(r1.1, r1.2.1, r1.2.2)] : List (List Int × Int × List Int))) * 56 ≤ 140737488355328 then (i_copyDesk_l1 y0 y1 (IntKind.i64.wrap (y2 + 1)) y3 y4 y5 y6 (y7 ++ ([(r1.1, r1.2.1, r1.2.2)] : List (List Int × Int × List Int)))) else none)) else none) (some (y5, y4, y6, y7))) := by
  refine (loopK_eq Tryd.prog (i_copyDesk_E) (sub (Tryd.f42.body.getD .skip) [1, 1, 0, 1, 0, 0]) _ _).trans ?_
  kernel_rfl
theorem i_copyDesk_ent : Entb Tryd.prog 42 := ⟨Tryd.f42, by kernel_rfl, by kernel_rfl, by kernel_rfl⟩
theorem i_copyDesk_ok : CtrOk Tryd.prog 42 ⟨i_copyDesk_sig, i_copyDesk_f⟩ :=
  ctr_of (fn := Tryd.f42) (by kernel_rfl) (by kernel_rfl) (fun x : Ts i_copyDesk_sig.pc => i_copyDesk_E) (fun x => ⟨(fn_cons ⟨i_copyPlace_ok, i_copyPlace_ent⟩ fn_none), clo_none, wr_none⟩) (fun h => by cases h) follows_ (fun _ _ => trivial)
end FN
/-! slices.Clip of the first places of a row of its own. -/
namespace FN
open Go Go.Proofs Go.RowKit
set_option maxRecDepth 100000 in
theorem clipC (W : World) (A : Option Addr) (n c : Nat) (h : n ≤ c) : Calls Tryd.prog 44 #[.slice A n c] W fun e W' => (∃ c', e = .returned (.slice A n c') ∧ n ≤ c' ∧ c' ≤ c) ∧ W' = W := by
  go_enter Tryd.func44, Tryd.ntmps44
  go_wp2
  go_ret
  exact ⟨⟨n, rfl, Nat.le_refl _, h⟩, rfl⟩
theorem x_impl_Place_mk : MkOk Tryd.prog 44 .clip := by
  intro ps h h' p pin base w ρ us hk hI hH hus
  refine ⟨⟨Tryd.f44, by kernel_rfl, by kernel_rfl, by kernel_rfl⟩, ?_⟩
  unfold markK at hk
  split at hk
  case h_5 id n hm =>
    injection hk with hk
    injection hk with h1 h2
    subst h1; subst h2
    have one : ∃ u, us = [u] ∧ V (vw w base ρ h) (.pre id n) u := by
      cases hus with
      | cons h1 h2 => cases h2; exact ⟨_, rfl, h1⟩
    obtain ⟨u, rfl, hu⟩ := one
    obtain ⟨hid, A, m, cp, cp', a1, a2, a3, a4, a5⟩ := (show id < (vw w base ρ h).N ∧ ∃ A m cp cp', (vw w base ρ h).ρ id = .slice A m cp ∧ u = .slice A n cp' ∧ n ≤ m ∧ n ≤ cp' ∧ cp' ≤ cp from hu)
    subst a2
    refine (clipC w A n cp' a4).mono ?_
    rintro e w' ⟨⟨c', rfl, b1, b2⟩, rfl⟩
    exact ⟨_, rfl, ρ, hH, Vw.Le.refl _, ⟨hid, A, m, cp, c', a1, rfl, a3, b1, Nat.le_trans b2 a5⟩, Kp.refl _ _ _⟩
  all_goals first | (rename_i hm _; cases hm; done) | (rename_i hm; cases hm; done) | (cases hk; done) | contradiction
end FN
set_option linter.unusedVariables false
namespace FN
open Go Go.Proofs
/-! loop.example/firingnets/impl.DeskDo -/
@[reducible] def i_DeskDo_sig : Sig := { ps := [some 4, some 3], pc := [.view .i64, .int .i64, .view .i64, .view .place, .int .i64, .int .i64, .int .i64], rs := [some 4, none], rc := [.row 3 .i64, .int .i64, .row 3 .i64, .drow false 31 3, .bool] }
noncomputable def i_DeskDo_E : Env' := withWr { fn := fun f => if f = 18 then some ⟨i_DeskOk_sig, i_DeskOk_f⟩ else if f = 42 then some ⟨i_copyDesk_sig, i_copyDesk_f⟩ else if f = 43 then some ⟨i_needStep_sig, i_needStep_f⟩ else if f = 45 then some ⟨i_PlaceOk_sig, i_PlaceOk_f⟩ else if f = 46 then some ⟨i_PlaceText_sig, i_PlaceText_f⟩ else if f = 47 then some ⟨i_copyPlace_sig, i_copyPlace_f⟩ else none, ck := ckT, cuts := [(5, [2, 3, 4, 6, 7, 8]), (7, [2, 3, 4, 6, 7, 8]), (13, [2, 3, 4, 6, 7, 8]), (14, [2, 3, 4, 6, 7, 8]), (18, [2, 3, 4, 6, 7, 8]), (25, [4, 6, 7, 10]), (27, [4, 7, 10]), (28, [2, 4, 6, 7, 8])], mine := fun i => i == 12 || i == 16 || i == 18 || i == 153 || i == 176 || i == 180 || i == 181 || i == 186 || i == 192 || i == 195 || i == 203 || i == 204 || i == 213 || i == 216 } (fun f => if f = 44 then some (.clip) else none)
noncomputable def i_DeskDo_f (x : Ts i_DeskDo_sig.pc) : Option (Ts i_DeskDo_sig.rc) := runFn Tryd.prog (i_DeskDo_E) Tryd.f12 i_DeskDo_sig x
noncomputable def i_DeskDo_j0 (y0 : List (Int)) (y1 : Int) (y2 : List (Int)) (y3 : List (List Int × Int × List Int)) (y4 : Int) (y5 : Int) (y6 : Int) (y7 : Int) (y8 : Int) (y9 : Int) (y10 : List (Int)) (y11 : List (Int)) (y12 : List (List Int × Int × List Int)) (y13 : List (Int)) (y14 : List (Int)) (y15 : List (List Int × Int × List Int)) : Option ((List (Int)) × (Int) × (List (Int)) × (List (List Int × Int × List Int)) × (Bool)) := from_ Tryd.prog (i_DeskDo_E) Tryd.f12 i_DeskDo_sig [1, 1, 1, 1] ⟨mkT 217 [(2, .ptr 0 0), (3, .ptr 1 0), (4, .ptr 2 0), (6, .ptr 3 0), (7, .ptr 4 0), (8, .ptr 4 0)], [some (.box 34 [.row false .i64 y0, .int .i64 y1, .row false .i64 y2, .row false .place y3]), some (.box 38 [.int .i64 y4, .int .i64 y5, .int .i64 y6]), some (.box 34 [.nilS, .int .i64 y7, .nilS, .nilS]), some (.box 34 [.own 5, .int .i64 y8, .own 6, .own 7]), some (.box 34 [.own 8, .int .i64 y9, .own 9, .own 10]), some (.arr 3 true .i64 y10), some (.arr 3 true .i64 y11), some (.dp true 31 3 y12), some (.arr 3 true .i64 y13), some (.arr 3 true .i64 y14), some (.dp true 31 3 y15)]⟩
noncomputable def i_DeskDo_j1 (y0 : List (Int)) (y1 : Int) (y2 : List (Int)) (y3 : List (List Int × Int × List Int)) (y4 : Int) (y5 : Int) (y6 : Int) (y7 : Int) (y8 : Int) (y9 : Int) (y10 : List (Int)) (y11 : List (Int)) (y12 : List (List Int × Int × List Int)) (y13 : List (Int)) (y14 : List (Int)) (y15 : List (List Int × Int × List Int)) : Option ((List (Int)) × (Int) × (List (Int)) × (List (List Int × Int × List Int)) × (Bool)) := from_ Tryd.prog (i_DeskDo_E) Tryd.f12 i_DeskDo_sig [1, 1, 1, 1, 1] ⟨mkT 217 [(2, .ptr 0 0), (3, .ptr 1 0), (4, .ptr 2 0), (6, .ptr 3 0), (7, .ptr 4 0), (8, .ptr 4 0)], [some (.box 34 [.row false .i64 y0, .int .i64 y1, .row false .i64 y2, .row false .place y3]), some (.box 38 [.int .i64 y4, .int .i64 y5, .int .i64 y6]), some (.box 34 [.nilS, .int .i64 y7, .nilS, .nilS]), some (.box 34 [.own 5, .int .i64 y8, .own 6, .own 7]), some (.box 34 [.own 8, .int .i64 y9, .own 9, .own 10]), some (.arr 3 true .i64 y10), some (.arr 3 true .i64 y11), some (.dp true 31 3 y12), some (.arr 3 true .i64 y13), some (.arr 3 true .i64 y14), some (.dp true 31 3 y15)]⟩
noncomputable def i_DeskDo_j2 (y0 : List (Int)) (y1 : Int) (y2 : List (Int)) (y3 : List (List Int × Int × List Int)) (y4 : Int) (y5 : Int) (y6 : Int) (y7 : Int) (y8 : Int) (y9 : Int) (y10 : List (Int)) (y11 : List (Int)) (y12 : List (List Int × Int × List Int)) (y13 : List (Int)) (y14 : List (Int)) (y15 : List (List Int × Int × List Int)) : Option ((List (Int)) × (Int) × (List (Int)) × (List (List Int × Int × List Int)) × (Bool)) := from_ Tryd.prog (i_DeskDo_E) Tryd.f12 i_DeskDo_sig [1, 1, 1, 1, 1, 1, 0, 1, 0, 1, 0, 1] ⟨mkT 217 [(2, .ptr 0 0), (3, .ptr 1 0), (4, .ptr 2 0), (6, .ptr 3 0), (7, .ptr 4 0), (8, .ptr 4 0)], [some (.box 34 [.row false .i64 y0, .int .i64 y1, .row false .i64 y2, .row false .place y3]), some (.box 38 [.int .i64 y4, .int .i64 y5, .int .i64 y6]), some (.box 34 [.nilS, .int .i64 y7, .nilS, .nilS]), some (.box 34 [.own 5, .int .i64 y8, .own 6, .own 7]), some (.box 34 [.own 8, .int .i64 y9, .own 9, .own 10]), some (.arr 3 true .i64 y10), some (.arr 3 true .i64 y11), some (.dp true 31 3 y12), some (.arr 3 true .i64 y13), some (.arr 3 true .i64 y14), some (.dp true 31 3 y15)]⟩
noncomputable def i_DeskDo_j3 (y0 : List (Int)) (y1 : Int) (y2 : List (Int)) (y3 : List (List Int × Int × List Int)) (y4 : Int) (y5 : Int) (y6 : Int) (y7 : Int) (y8 : Int) (y9 : Int) (y10 : List (Int)) (y11 : List (Int)) (y12 : List (List Int × Int × List Int)) (y13 : List (Int)) (y14 : List (Int)) (y15 : List (List Int × Int × List Int)) : Option ((List (Int)) × (Int) × (List (Int)) × (List (List Int × Int × List Int)) × (Bool)) := from_ Tryd.prog (i_DeskDo_E) Tryd.f12 i_DeskDo_sig [1, 1, 1, 1, 1, 1, 0, 1, 0, 1, 1, 1, 0, 1] ⟨mkT 217 [(2, .ptr 0 0), (3, .ptr 1 0), (4, .ptr 2 0), (6, .ptr 3 0), (7, .ptr 4 0), (8, .ptr 4 0)], [some (.box 34 [.row false .i64 y0, .int .i64 y1, .row false .i64 y2, .row false .place y3]), some (.box 38 [.int .i64 y4, .int .i64 y5, .int .i64 y6]), some (.box 34 [.nilS, .int .i64 y7, .nilS, .nilS]), some (.box 34 [.own 5, .int .i64 y8, .own 6, .own 7]), some (.box 34 [.own 8, .int .i64 y9, .own 9, .own 10]), some (.arr 3 true .i64 y10), some (.arr 3 true .i64 y11), some (.dp true 31 3 y12), some (.arr 3 true .i64 y13), some (.arr 3 true .i64 y14), some (.dp true 31 3 y15)]⟩
noncomputable def i_DeskDo_j4 (y0 : List (Int)) (y1 : Int) (y2 : List (Int)) (y3 : List (List Int × Int × List Int)) (y4 : Int) (y5 : Int) (y6 : Int) (y7 : List (Int)) (y8 : List (Int)) (y9 : List (List Int × Int × List Int)) (y10 : List (Int)) (y11 : List (Int)) (y12 : List (List Int × Int × List Int)) : Option ((List (Int)) × (Int) × (List (Int)) × (List (List Int × Int × List Int)) × (Bool)) := from_ Tryd.prog (i_DeskDo_E) Tryd.f12 i_DeskDo_sig [1, 1, 1, 1, 1, 1, 1] ⟨mkT 217 [(2, .ptr 0 0), (4, .ptr 1 0), (6, .ptr 2 0), (7, .ptr 3 0), (8, .ptr 3 0)], [some (.box 34 [.row false .i64 y0, .int .i64 y1, .row false .i64 y2, .row false .place y3]), some (.box 34 [.nilS, .int .i64 y4, .nilS, .nilS]), some (.box 34 [.own 4, .int .i64 y5, .own 5, .own 6]), some (.box 34 [.own 7, .int .i64 y6, .own 8, .own 9]), some (.arr 3 true .i64 y7), some (.arr 3 true .i64 y8), some (.dp true 31 3 y9), some (.arr 3 true .i64 y10), some (.arr 3 true .i64 y11), some (.dp true 31 3 y12)]⟩
noncomputable def i_DeskDo_j5 (y0 : Int) (y1 : Int) (y2 : Int) (y3 : Int) (y4 : List (Int)) (y5 : List (Int)) (y6 : List (List Int × Int × List Int)) (y7 : List (Int)) (y8 : List (Int)) (y9 : List (List Int × Int × List Int)) : Option ((List (Int)) × (Int) × (List (Int)) × (List (List Int × Int × List Int)) × (Bool)) := from_ Tryd.prog (i_DeskDo_E) Tryd.f12 i_DeskDo_sig [1, 1, 1, 1, 1, 1, 0, 1, 0, 1, 1, 1, 1, 1, 1, 1, 1, 1, 0, 1] ⟨mkT 217 [(4, .ptr 0 0), (6, .ptr 1 0), (7, .ptr 2 0), (10, .int .i64 y0)], [some (.box 34 [.nilS, .int .i64 y1, .nilS, .nilS]), some (.box 34 [.own 3, .int .i64 y2, .own 4, .own 5]), some (.box 34 [.own 6, .int .i64 y3, .own 7, .own 8]), some (.arr 3 true .i64 y4), some (.arr 3 true .i64 y5), some (.dp true 31 3 y6), some (.arr 3 true .i64 y7), some (.arr 3 true .i64 y8), some (.dp true 31 3 y9)]⟩
noncomputable def i_DeskDo_j6 (y0 : List (Int)) (y1 : Int) (y2 : List (Int)) (y3 : List (List Int × Int × List Int)) (y4 : Int) (y5 : Int) (y6 : Int) (y7 : Int) (y8 : Int) (y9 : Int) (y10 : List (Int)) (y11 : List (Int)) (y12 : List (List Int × Int × List Int)) (y13 : List (Int)) (y14 : List (Int)) (y15 : List (List Int × Int × List Int)) : Option ((List (Int)) × (Int) × (List (Int)) × (List (List Int × Int × List Int)) × (Bool)) := from_ Tryd.prog (i_DeskDo_E) Tryd.f12 i_DeskDo_sig [1, 1, 1, 1, 1, 1, 0, 1, 0, 1, 0, 1, 1] ⟨mkT 217 [(2, .ptr 0 0), (3, .ptr 1 0), (4, .ptr 2 0), (6, .ptr 3 0), (7, .ptr 4 0), (8, .ptr 4 0)], [some (.box 34 [.row false .i64 y0, .int .i64 y1, .row false .i64 y2, .row false .place y3]), some (.box 38 [.int .i64 y4, .int .i64 y5, .int .i64 y6]), some (.box 34 [.nilS, .int .i64 y7, .nilS, .nilS]), some (.box 34 [.own 5, .int .i64 y8, .own 6, .own 7]), some (.box 34 [.own 8, .int .i64 y9, .own 9, .own 10]), some (.arr 3 true .i64 y10), some (.arr 3 true .i64 y11), some (.dp true 31 3 y12), some (.arr 3 true .i64 y13), some (.arr 3 true .i64 y14), some (.dp true 31 3 y15)]⟩
noncomputable def i_DeskDo_j7 (y0 : Int) (y1 : Int) (y2 : Int) (y3 : List (Int)) (y4 : List (Int)) (y5 : List (List Int × Int × List Int)) : Option ((List (Int)) × (Int) × (List (Int)) × (List (List Int × Int × List Int)) × (Bool)) := from_ Tryd.prog (i_DeskDo_E) Tryd.f12 i_DeskDo_sig [1, 1, 1, 1, 1, 1, 0, 1, 0, 1, 1, 1, 1, 1, 1, 1, 1, 1, 0, 1, 1] ⟨mkT 217 [(4, .ptr 0 0), (7, .ptr 1 0), (10, .int .i64 y0)], [some (.box 34 [.nilS, .int .i64 y1, .nilS, .nilS]), some (.box 34 [.own 2, .int .i64 y2, .own 3, .own 4]), some (.arr 3 true .i64 y3), some (.arr 3 true .i64 y4), some (.dp true 31 3 y5)]⟩
theorem i_DeskDo_f_eq (x0 : (List (Int))) (x1 : (Int)) (x2 : (List (Int))) (x3 : (List (List Int × Int × List Int))) (x4 : (Int)) (x5 : (Int)) (x6 : (Int)) : i_DeskDo_f (x0, x1, x2, x3, x4, x5, x6) = (Option.bind (i_DeskOk_f (x0, x1, x2, x3)) fun r1 => (cond ((!r1)) (some ([], 0, [], [], false)) (Option.bind (i_copyDesk_f (x0, x1, x2, x3)) fun r2 => (Option.bind (i_copyDesk_f (x0, x1, x2, x3)) fun r3 => (i_DeskDo_j0 x0 x1 x2 x3 x4 x5 x6 0 r2.2.1 r3.2.1 r2.1 r2.2.2.1 r2.2.2.2 r3.1 r3.2.2.1 r3.2.2.2))))) := by
  refine Eq.trans (b := (Option.bind (i_DeskOk_f (x0, x1, x2, x3)) fun r1 => (cond ((!r1)) (some ([], 0, [], [], false)) (same [(Option.bind (i_copyDesk_f (x0, x1, x2, x3)) fun r2 => (same [(Option.bind (i_copyDesk_f (x0, x1, x2, x3)) fun r3 => (same [(i_DeskDo_j0 x0 x1 x2 x3 x4 x5 x6 0 r2.2.1 r3.2.1 r2.1 r2.2.2.1 r2.2.2.2 r3.1 r3.2.2.1 r3.2.2.2), (i_DeskDo_j0 x0 x1 x2 x3 x4 x5 x6 0 r2.2.1 r3.2.1 r2.1 r2.2.2.1 r2.2.2.2 r3.1 r3.2.2.1 r3.2.2.2)])), (same [(Option.bind (i_copyDesk_f (x0, x1, x2, x3)) fun r3 => (i_DeskDo_j0 x0 x1 x2 x3 x4 x5 x6 0 r2.2.1 r3.2.1 r2.1 r2.2.2.1 r2.2.2.2 r3.1 r3.2.2.1 r3.2.2.2)), (Option.bind (i_copyDesk_f (x0, x1, x2, x3)) fun r3 => (i_DeskDo_j0 x0 x1 x2 x3 x4 x5 x6 0 r2.2.1 r3.2.1 r2.1 r2.2.2.1 r2.2.2.2 r3.1 r3.2.2.1 r3.2.2.2))]), (same [(Option.bind (i_copyDesk_f (x0, x1, x2, x3)) fun r3 => (i_DeskDo_j0 x0 x1 x2 x3 x4 x5 x6 0 r2.2.1 r3.2.1 r2.1 r2.2.2.1 r2.2.2.2 r3.1 r3.2.2.1 r3.2.2.2)), (Option.bind (i_copyDesk_f (x0, x1, x2, x3)) fun r3 => (i_DeskDo_j0 x0 x1 x2 x3 x4 x5 x6 0 r2.2.1 r3.2.1 r2.1 r2.2.2.1 r2.2.2.2 r3.1 r3.2.2.1 r3.2.2.2))])])), (same [(Option.bind (i_copyDesk_f (x0, x1, x2, x3)) fun r2 => (same [(Option.bind (i_copyDesk_f (x0, x1, x2, x3)) fun r3 => (i_DeskDo_j0 x0 x1 x2 x3 x4 x5 x6 0 r2.2.1 r3.2.1 r2.1 r2.2.2.1 r2.2.2.2 r3.1 r3.2.2.1 r3.2.2.2)), (Option.bind (i_copyDesk_f (x0, x1, x2, x3)) fun r3 => (i_DeskDo_j0 x0 x1 x2 x3 x4 x5 x6 0 r2.2.1 r3.2.1 r2.1 r2.2.2.1 r2.2.2.2 r3.1 r3.2.2.1 r3.2.2.2))])), (Option.bind (i_copyDesk_f (x0, x1, x2, x3)) fun r2 => (Option.bind (i_copyDesk_f (x0, x1, x2, x3)) fun r3 => (i_DeskDo_j0 x0 x1 x2 x3 x4 x5 x6 0 r2.2.1 r3.2.1 r2.1 r2.2.2.1 r2.2.2.2 r3.1 r3.2.2.1 r3.2.2.2)))]), (same [(Option.bind (i_copyDesk_f (x0, x1, x2, x3)) fun r2 => (same [(Option.bind (i_copyDesk_f (x0, x1, x2, x3)) fun r3 => (i_DeskDo_j0 x0 x1 x2 x3 x4 x5 x6 0 r2.2.1 r3.2.1 r2.1 r2.2.2.1 r2.2.2.2 r3.1 r3.2.2.1 r3.2.2.2)), (Option.bind (i_copyDesk_f (x0, x1, x2, x3)) fun r3 => (i_DeskDo_j0 x0 x1 x2 x3 x4 x5 x6 0 r2.2.1 r3.2.1 r2.1 r2.2.2.1 r2.2.2.2 r3.1 r3.2.2.1 r3.2.2.2))])), (Option.bind (i_copyDesk_f (x0, x1, x2, x3)) fun r2 => (Option.bind (i_copyDesk_f (x0, x1, x2, x3)) fun r3 => (i_DeskDo_j0 x0 x1 x2 x3 x4 x5 x6 0 r2.2.1 r3.2.1 r2.1 r2.2.2.1 r2.2.2.2 r3.1 r3.2.2.1 r3.2.2.2)))])])))) (by kernel_rfl) ?_
  simp only [same2, same3, same4, same5, same6, obind_ite]
theorem i_DeskDo_j0_eq (y0 : List (Int)) (y1 : Int) (y2 : List (Int)) (y3 : List (List Int × Int × List Int)) (y4 : Int) (y5 : Int) (y6 : Int) (y7 : Int) (y8 : Int) (y9 : Int) (y10 : List (Int)) (y11 : List (Int)) (y12 : List (List Int × Int × List Int)) (y13 : List (Int)) (y14 : List (Int)) (y15 : List (List Int × Int × List Int)) : i_DeskDo_j0 y0 y1 y2 y3 y4 y5 y6 y7 y8 y9 y10 y11 y12 y13 y14 y15 = (cond ((y4 != 0)) (cond ((y6 != 0)) (some (y10, y8, y11, y12, false)) (cond ((y4 == 2)) (cond ((y5 != 0)) (some (y10, y8, y11, y12, false)) (i_DeskDo_j1 y0 y1 y2 y3 y4 y5 y6 y7 y8 y9 y10 y11 y12 y13 y14 y15)) (cond ((y4 == 4)) (cond ((y5 != 0)) (some (y10, y8, y11, y12, false)) (i_DeskDo_j1 y0 y1 y2 y3 y4 y5 y6 y7 y8 y9 y10 y11 y12 y13 y14 y15)) (i_DeskDo_j1 y0 y1 y2 y3 y4 y5 y6 y7 y8 y9 y10 y11 y12 y13 y14 y15)))) (cond ((y4 == 2)) (cond ((y5 != 0)) (some (y10, y8, y11, y12, false)) (i_DeskDo_j1 y0 y1 y2 y3 y4 y5 y6 y7 y8 y9 y10 y11 y12 y13 y14 y15)) (cond ((y4 == 4)) (cond ((y5 != 0)) (some (y10, y8, y11, y12, false)) (i_DeskDo_j1 y0 y1 y2 y3 y4 y5 y6 y7 y8 y9 y10 y11 y12 y13 y14 y15)) (i_DeskDo_j1 y0 y1 y2 y3 y4 y5 y6 y7 y8 y9 y10 y11 y12 y13 y14 y15)))) := by
  kernel_rfl
theorem i_DeskDo_j1_eq (y0 : List (Int)) (y1 : Int) (y2 : List (Int)) (y3 : List (List Int × Int × List Int)) (y4 : Int) (y5 : Int) (y6 : Int) (y7 : Int) (y8 : Int) (y9 : Int) (y10 : List (Int)) (y11 : List (Int)) (y12 : List (List Int × Int × List Int)) (y13 : List (Int)) (y14 : List (Int)) (y15 : List (List Int × Int × List Int)) : i_DeskDo_j1 y0 y1 y2 y3 y4 y5 y6 y7 y8 y9 y10 y11 y12 y13 y14 y15 = (cond ((y4 == 0)) (cond ((decide (y5 < 0))) (some (y10, y8, y11, y12, false)) (cond ((decide ((List.length y13 : Int) ≤ y5))) (some (y10, y8, y11, y12, false)) (cond ((decide (y6 < 0))) (some (y10, y8, y11, y12, false)) (cond ((decide ((List.length y13 : Int) ≤ y6))) (some (y10, y8, y11, y12, false)) (cond ((y5 == y6)) (some (y10, y8, y11, y12, false)) (i_DeskDo_j2 y0 y1 y2 y3 y4 y5 y6 y7 y8 y9 y10 y11 y12 y13 y14 y15)))))) (cond ((y4 == 1)) (cond ((decide (y5 < 0))) (some (y10, y8, y11, y12, false)) (cond ((decide ((List.length y13 : Int) ≤ y5))) (some (y10, y8, y11, y12, false)) (if (0 : Int) ≤ y5 ∧ y5 < (List.length y14 : Int) then (cond (((List.getD y14 (y5 : Int).toNat 0) != 0)) (some (y10, y8, y11, y12, false)) (i_DeskDo_j3 y0 y1 y2 y3 y4 y5 y6 y7 y8 y9 y10 y11 y12 y13 y14 y15)) else none))) (cond ((y4 == 2)) (Option.bind (i_needStep_f (y13, y9, (), y14)) fun r1 => (i_DeskDo_j4 y0 y1 y2 y3 y7 y8 y9 y10 y11 y12 y13 r1 y15)) (cond ((y4 == 3)) (i_DeskDo_j4 y0 y1 y2 y3 y7 y8 y5 y10 y11 y12 y13 y14 y15) (cond ((y4 == 4)) (i_DeskDo_j5 (IntKind.i64.wrap ((List.length y15 : Int) - 1)) y7 y8 y9 y10 y11 y12 y13 y14 y15) (some (y10, y8, y11, y12, false))))))) := by
  kernel_rfl
theorem i_DeskDo_j2_eq (y0 : List (Int)) (y1 : Int) (y2 : List (Int)) (y3 : List (List Int × Int × List Int)) (y4 : Int) (y5 : Int) (y6 : Int) (y7 : Int) (y8 : Int) (y9 : Int) (y10 : List (Int)) (y11 : List (Int)) (y12 : List (List Int × Int × List Int)) (y13 : List (Int)) (y14 : List (Int)) (y15 : List (List Int × Int × List Int)) : i_DeskDo_j2 y0 y1 y2 y3 y4 y5 y6 y7 y8 y9 y10 y11 y12 y13 y14 y15 = (if (0 : Int) ≤ y5 ∧ y5 < (List.length y13 : Int) then (if y6 < 0 then none else (if (0 : Int) ≤ y5 ∧ y5 < (List.length y13 : Int) then (i_DeskDo_j6 y0 y1 y2 y3 y4 y5 y6 y7 y8 y9 y10 y11 y12 (List.set y13 (y5 : Int).toNat (Go.bits .xor IntKind.i64 (List.getD y13 (y5 : Int).toNat 0) (IntKind.i64.wrap (1 * 2 ^ min (y6 : Int).toNat IntKind.i64.bits)))) y14 y15) else none)) else none) := by
  kernel_rfl
theorem i_DeskDo_j3_eq (y0 : List (Int)) (y1 : Int) (y2 : List (Int)) (y3 : List (List Int × Int × List Int)) (y4 : Int) (y5 : Int) (y6 : Int) (y7 : Int) (y8 : Int) (y9 : Int) (y10 : List (Int)) (y11 : List (Int)) (y12 : List (List Int × Int × List Int)) (y13 : List (Int)) (y14 : List (Int)) (y15 : List (List Int × Int × List Int)) : i_DeskDo_j3 y0 y1 y2 y3 y4 y5 y6 y7 y8 y9 y10 y11 y12 y13 y14 y15 = (if (0 : Int) ≤ y5 ∧ y5 < (List.length y14 : Int) then (i_DeskDo_j4 y0 y1 y2 y3 y7 y8 y9 y10 y11 y12 y13 (List.set y14 (y5 : Int).toNat 1) y15) else none) := by
  kernel_rfl
theorem i_DeskDo_j4_eq (y0 : List (Int)) (y1 : Int) (y2 : List (Int)) (y3 : List (List Int × Int × List Int)) (y4 : Int) (y5 : Int) (y6 : Int) (y7 : List (Int)) (y8 : List (Int)) (y9 : List (List Int × Int × List Int)) (y10 : List (Int)) (y11 : List (Int)) (y12 : List (List Int × Int × List Int)) : i_DeskDo_j4 y0 y1 y2 y3 y4 y5 y6 y7 y8 y9 y10 y11 y12 = (Option.bind (i_PlaceOk_f (y10, y6, y11)) fun r1 => (cond ((!r1)) (some (y7, y5, y8, y9, false)) (Option.bind (i_PlaceText_f (y10, y6, y11)) fun r2 => (Option.bind (i_PlaceText_f (y0, y1, y2)) fun r3 => (cond ((ByteArray.toList r2 == ByteArray.toList r3)) (some (y7, y5, y8, y9, false)) (Option.bind (i_copyPlace_f (y0, y1, y2)) fun r4 => (if (List.length y12 + List.length ([(r4.1, r4.2.1, r4.2.2)] : List (List Int × Int × List Int))) * 56 ≤ 140737488355328 then (cond ((decide (8 < (List.length (y12 ++ ([(r4.1, r4.2.1, r4.2.2)] : List (List Int × Int × List Int))) : Int)))) (if (0 : Int) ≤ 1 ∧ 1 ≤ (List.length (y12 ++ ([(r4.1, r4.2.1, r4.2.2)] : List (List Int × Int × List Int))) : Int) then (Option.bind (i_copyDesk_f (y10, y6, y11, (List.drop (1 : Int).toNat (List.take ((List.length (y12 ++ ([(r4.1, r4.2.1, r4.2.2)] : List (List Int × Int × List Int))))) (y12 ++ ([(r4.1, r4.2.1, r4.2.2)] : List (List Int × Int × List Int))))))) fun r5 => (some (r5.1, r5.2.1, r5.2.2.1, r5.2.2.2, true))) else none) (Option.bind (i_copyDesk_f (y10, y6, y11, (y12 ++ ([(r4.1, r4.2.1, r4.2.2)] : List (List Int × Int × List Int))))) fun r6 => (some (r6.1, r6.2.1, r6.2.2.1, r6.2.2.2, true)))) else none))))))) := by
  kernel_rfl
theorem i_DeskDo_j5_eq (y0 : Int) (y1 : Int) (y2 : Int) (y3 : Int) (y4 : List (Int)) (y5 : List (Int)) (y6 : List (List Int × Int × List Int)) (y7 : List (Int)) (y8 : List (Int)) (y9 : List (List Int × Int × List Int)) : i_DeskDo_j5 y0 y1 y2 y3 y4 y5 y6 y7 y8 y9 = (cond ((decide (y0 < 0))) (some (y4, y2, y5, y6, false)) (i_DeskDo_j7 y0 y1 y3 y7 y8 y9)) := by
  kernel_rfl
theorem i_DeskDo_j6_eq (y0 : List (Int)) (y1 : Int) (y2 : List (Int)) (y3 : List (List Int × Int × List Int)) (y4 : Int) (y5 : Int) (y6 : Int) (y7 : Int) (y8 : Int) (y9 : Int) (y10 : List (Int)) (y11 : List (Int)) (y12 : List (List Int × Int × List Int)) (y13 : List (Int)) (y14 : List (Int)) (y15 : List (List Int × Int × List Int)) : i_DeskDo_j6 y0 y1 y2 y3 y4 y5 y6 y7 y8 y9 y10 y11 y12 y13 y14 y15 = (if (0 : Int) ≤ y6 ∧ y6 < (List.length y13 : Int) then (if y5 < 0 then none else (if (0 : Int) ≤ y6 ∧ y6 < (List.length y13 : Int) then (i_DeskDo_j4 y0 y1 y2 y3 y7 y8 y9 y10 y11 y12 (List.set y13 (y6 : Int).toNat (Go.bits .xor IntKind.i64 (List.getD y13 (y6 : Int).toNat 0) (IntKind.i64.wrap (1 * 2 ^ min (y5 : Int).toNat IntKind.i64.bits)))) y14 y15) else none)) else none) := by
  kernel_rfl
theorem i_DeskDo_j7_eq (y0 : Int) (y1 : Int) (y2 : Int) (y3 : List (Int)) (y4 : List (Int)) (y5 : List (List Int × Int × List Int)) : i_DeskDo_j7 y0 y1 y2 y3 y4 y5 = (if (0 : Int) ≤ y0 ∧ y0 ≤ (List.length y5 : Int) then (if (0 : Int) ≤ y0 ∧ y0 < (List.length y5 : Int) then (if (y0 : Int).toNat < List.length y5 then (Option.bind (Option.bind (Option.bind (Option.bind (if (y0 : Int).toNat ≤ List.length (List.take (y0 : Int).toNat y5) then (some (List.take (y0 : Int).toNat (List.take (y0 : Int).toNat y5))) else none) fun q => (some (q, true))) fun q => (some ((List.getD y5 (y0 : Int).toNat ([], 0, [])).2.2, q))) fun q => (some ((List.getD y5 (y0 : Int).toNat ([], 0, [])).2.1, q))) fun q => (some ((List.getD y5 (y0 : Int).toNat ([], 0, [])).1, q))) else none) else none) else none) := by
  refine Eq.trans (b := (same [(same [(if (0 : Int) ≤ y0 ∧ y0 < (List.length y5 : Int) then (same [(if (y0 : Int).toNat < List.length y5 then (if (0 : Int) ≤ y0 ∧ y0 ≤ (List.length (List.take (y0 : Int).toNat y5) : Int) then (Option.bind (Option.bind (Option.bind (Option.bind (if (y0 : Int).toNat ≤ List.length (List.take (y0 : Int).toNat y5) then (some (List.take (y0 : Int).toNat (List.take (y0 : Int).toNat y5))) else none) fun q => (some (q, true))) fun q => (some ((List.getD y5 (y0 : Int).toNat ([], 0, [])).2.2, q))) fun q => (some ((List.getD y5 (y0 : Int).toNat ([], 0, [])).2.1, q))) fun q => (some ((List.getD y5 (y0 : Int).toNat ([], 0, [])).1, q))) else none) else none), (if (0 : Int) ≤ y0 ∧ y0 ≤ (List.length y5 : Int) then (same [(if (y0 : Int).toNat < List.length y5 then (Option.bind (Option.bind (Option.bind (Option.bind (if (y0 : Int).toNat ≤ List.length (List.take (y0 : Int).toNat y5) then (some (List.take (y0 : Int).toNat (List.take (y0 : Int).toNat y5))) else none) fun q => (some (q, true))) fun q => (some ((List.getD y5 (y0 : Int).toNat ([], 0, [])).2.2, q))) fun q => (some ((List.getD y5 (y0 : Int).toNat ([], 0, [])).2.1, q))) fun q => (some ((List.getD y5 (y0 : Int).toNat ([], 0, [])).1, q))) else none), (if (y0 : Int).toNat < List.length y5 then (Option.bind (Option.bind (Option.bind (Option.bind (if (y0 : Int).toNat ≤ List.length (List.take (y0 : Int).toNat y5) then (some (List.take (y0 : Int).toNat (List.take (y0 : Int).toNat y5))) else none) fun q => (some (q, true))) fun q => (some ((List.getD y5 (y0 : Int).toNat ([], 0, [])).2.2, q))) fun q => (some ((List.getD y5 (y0 : Int).toNat ([], 0, [])).2.1, q))) fun q => (some ((List.getD y5 (y0 : Int).toNat ([], 0, [])).1, q))) else none)]) else none)]) else none), (if (0 : Int) ≤ y0 ∧ y0 ≤ (List.length y5 : Int) then (same [(if (0 : Int) ≤ y0 ∧ y0 < (List.length y5 : Int) then (same [(if (y0 : Int).toNat < List.length y5 then (Option.bind (Option.bind (Option.bind (Option.bind (if (y0 : Int).toNat ≤ List.length (List.take (y0 : Int).toNat y5) then (some (List.take (y0 : Int).toNat (List.take (y0 : Int).toNat y5))) else none) fun q => (some (q, true))) fun q => (some ((List.getD y5 (y0 : Int).toNat ([], 0, [])).2.2, q))) fun q => (some ((List.getD y5 (y0 : Int).toNat ([], 0, [])).2.1, q))) fun q => (some ((List.getD y5 (y0 : Int).toNat ([], 0, [])).1, q))) else none), (if (y0 : Int).toNat < List.length y5 then (Option.bind (Option.bind (Option.bind (Option.bind (if (y0 : Int).toNat ≤ List.length (List.take (y0 : Int).toNat y5) then (some (List.take (y0 : Int).toNat (List.take (y0 : Int).toNat y5))) else none) fun q => (some (q, true))) fun q => (some ((List.getD y5 (y0 : Int).toNat ([], 0, [])).2.2, q))) fun q => (some ((List.getD y5 (y0 : Int).toNat ([], 0, [])).2.1, q))) fun q => (some ((List.getD y5 (y0 : Int).toNat ([], 0, [])).1, q))) else none)]) else none), (if (0 : Int) ≤ y0 ∧ y0 < (List.length y5 : Int) then (if (y0 : Int).toNat < List.length y5 then (Option.bind (Option.bind (Option.bind (Option.bind (if (y0 : Int).toNat ≤ List.length (List.take (y0 : Int).toNat y5) then (some (List.take (y0 : Int).toNat (List.take (y0 : Int).toNat y5))) else none) fun q => (some (q, true))) fun q => (some ((List.getD y5 (y0 : Int).toNat ([], 0, [])).2.2, q))) fun q => (some ((List.getD y5 (y0 : Int).toNat ([], 0, [])).2.1, q))) fun q => (some ((List.getD y5 (y0 : Int).toNat ([], 0, [])).1, q))) else none) else none)]) else none)]), (if (0 : Int) ≤ y0 ∧ y0 ≤ (List.length y5 : Int) then (same [(same [(if (0 : Int) ≤ y0 ∧ y0 < (List.length y5 : Int) then (same [(if (y0 : Int).toNat < List.length y5 then (Option.bind (Option.bind (Option.bind (Option.bind (if (y0 : Int).toNat ≤ List.length (List.take (y0 : Int).toNat y5) then (some (List.take (y0 : Int).toNat (List.take (y0 : Int).toNat y5))) else none) fun q => (some (q, true))) fun q => (some ((List.getD y5 (y0 : Int).toNat ([], 0, [])).2.2, q))) fun q => (some ((List.getD y5 (y0 : Int).toNat ([], 0, [])).2.1, q))) fun q => (some ((List.getD y5 (y0 : Int).toNat ([], 0, [])).1, q))) else none), (if (y0 : Int).toNat < List.length y5 then (Option.bind (Option.bind (Option.bind (Option.bind (if (y0 : Int).toNat ≤ List.length (List.take (y0 : Int).toNat y5) then (some (List.take (y0 : Int).toNat (List.take (y0 : Int).toNat y5))) else none) fun q => (some (q, true))) fun q => (some ((List.getD y5 (y0 : Int).toNat ([], 0, [])).2.2, q))) fun q => (some ((List.getD y5 (y0 : Int).toNat ([], 0, [])).2.1, q))) fun q => (some ((List.getD y5 (y0 : Int).toNat ([], 0, [])).1, q))) else none)]) else none), (if (0 : Int) ≤ y0 ∧ y0 < (List.length y5 : Int) then (if (y0 : Int).toNat < List.length y5 then (Option.bind (Option.bind (Option.bind (Option.bind (if (y0 : Int).toNat ≤ List.length (List.take (y0 : Int).toNat y5) then (some (List.take (y0 : Int).toNat (List.take (y0 : Int).toNat y5))) else none) fun q => (some (q, true))) fun q => (some ((List.getD y5 (y0 : Int).toNat ([], 0, [])).2.2, q))) fun q => (some ((List.getD y5 (y0 : Int).toNat ([], 0, [])).2.1, q))) fun q => (some ((List.getD y5 (y0 : Int).toNat ([], 0, [])).1, q))) else none) else none)]), (if (0 : Int) ≤ y0 ∧ y0 < (List.length y5 : Int) then (if (y0 : Int).toNat < List.length y5 then (Option.bind (Option.bind (Option.bind (Option.bind (if (y0 : Int).toNat ≤ List.length (List.take (y0 : Int).toNat y5) then (some (List.take (y0 : Int).toNat (List.take (y0 : Int).toNat y5))) else none) fun q => (some (q, true))) fun q => (some ((List.getD y5 (y0 : Int).toNat ([], 0, [])).2.2, q))) fun q => (some ((List.getD y5 (y0 : Int).toNat ([], 0, [])).2.1, q))) fun q => (some ((List.getD y5 (y0 : Int).toNat ([], 0, [])).1, q))) else none) else none)]) else none)])) (by kernel_rfl) ?_
  by_cases h0 : (0 : Int) ≤ y0
  · by_cases h1 : y0 < (List.length y5 : Int)
    · have c1 : (0 : Int) ≤ y0 ∧ y0 < (List.length y5 : Int) := ⟨h0, h1⟩
      have c2 : (0 : Int) ≤ y0 ∧ y0 ≤ (List.length y5 : Int) := ⟨h0, by omega⟩
      have c3 : (y0 : Int).toNat < List.length y5 := by omega
      have c4 : (0 : Int) ≤ y0 ∧ y0 ≤ (List.length (List.take (y0 : Int).toNat y5) : Int) := ⟨h0, by rw [List.length_take]; omega⟩
      simp only [if_pos c1, if_pos c2, if_pos c3, if_pos c4, same2, same3, same4, same5, same6, ite_self]
    · have c1 : ¬ ((0 : Int) ≤ y0 ∧ y0 < (List.length y5 : Int)) := fun h => h1 h.2
      have c3 : ¬ ((y0 : Int).toNat < List.length y5) := by omega
      simp only [if_neg c1, if_neg c3, same2, same3, same4, same5, same6, ite_self]
  · have c1 : ¬ ((0 : Int) ≤ y0 ∧ y0 < (List.length y5 : Int)) := fun h => h0 h.1
    have c2 : ¬ ((0 : Int) ≤ y0 ∧ y0 ≤ (List.length y5 : Int)) := fun h => h0 h.1
    have c4 : ¬ ((0 : Int) ≤ y0 ∧ y0 ≤ (List.length (List.take (y0 : Int).toNat y5) : Int)) := fun h => h0 h.1
    simp only [if_neg c1, if_neg c2, if_neg c4, same2, same3, same4, same5, same6, ite_self]
theorem i_DeskDo_ent : Entb Tryd.prog 12 := ⟨Tryd.f12, by kernel_rfl, by kernel_rfl, by kernel_rfl⟩
theorem i_DeskDo_ok : CtrOk Tryd.prog 12 ⟨i_DeskDo_sig, i_DeskDo_f⟩ :=
  ctr_of (fn := Tryd.f12) (by kernel_rfl) (by kernel_rfl) (fun x : Ts i_DeskDo_sig.pc => i_DeskDo_E) (fun x => withWr_ok ⟨(fn_cons ⟨i_DeskOk_ok, i_DeskOk_ent⟩ (fn_cons ⟨i_copyDesk_ok, i_copyDesk_ent⟩ (fn_cons ⟨i_needStep_ok, i_needStep_ent⟩ (fn_cons ⟨i_PlaceOk_ok, i_PlaceOk_ent⟩ (fn_cons ⟨i_PlaceText_ok, i_PlaceText_ent⟩ (fn_cons ⟨i_copyPlace_ok, i_copyPlace_ent⟩ fn_none)))))), clo_none, wr_none⟩ (tab_cons x_impl_Place_mk (tab_none))) (fun h => by cases h) follows_ (fun _ _ => trivial)
end FN
set_option linter.unusedVariables false
namespace FN
open Go Go.Proofs
/-! loop.example/firingnets/impl.doAll -/
@[reducible] def i_doAll_sig : Sig := { ps := [some 4, none], pc := [.view .i64, .int .i64, .view .i64, .view .place, .view .deed], rs := [some 4, none], rc := [.row 3 .i64, .int .i64, .row 3 .i64, .drow false 31 3, .int .i64] }
noncomputable def i_doAll_E : Env' := { fn := fun f => if f = 12 then some ⟨i_DeskDo_sig, i_DeskDo_f⟩ else if f = 42 then some ⟨i_copyDesk_sig, i_copyDesk_f⟩ else none, ck := ckT, cuts := [(4, [2, 4, 6, 13, 14, 15])], mine := fun i => i == 12 || i == 22 }
noncomputable def i_doAll_f (x : Ts i_doAll_sig.pc) : Option (Ts i_doAll_sig.rc) := runFn Tryd.prog (i_doAll_E) Tryd.f64 i_doAll_sig x
noncomputable def i_doAll_l0 (y0 : Int) (y1 : List (Int × Int × Int)) (y2 : Int) (y3 : Int) (y4 : Int) (y5 : Int) (y6 : List (Int)) (y7 : List (Int)) (y8 : List (List Int × Int × List Int)) : Option ((List (Int)) × (Int) × (List (Int)) × (List (List Int × Int × List Int)) × (Int)) := from_ Tryd.prog (i_doAll_E) Tryd.f64 i_doAll_sig [1, 1, 1, 0, 1, 0] ⟨mkT 32 [(2, .ptr 0 0), (4, .ptr 1 0), (6, .int .i64 y0), (13, .row false .deed y1), (14, .int .i64 y2), (15, .int .i64 y3)], [some (.box 34 [.own 2, .int .i64 y4, .own 3, .own 4]), some (.box 34 [.nilS, .int .i64 y5, .nilS, .nilS]), some (.arr 3 true .i64 y6), some (.arr 3 true .i64 y7), some (.dp true 31 3 y8)]⟩
noncomputable def i_doAll_l1 (y0 : Int) (y1 : List (Int × Int × Int)) (y2 : Int) (y3 : Int) (y4 : Int) (y5 : Int) (y6 : List (Int)) (y7 : List (Int)) (y8 : List (List Int × Int × List Int)) : Option ((List (Int)) × (Int) × (List (Int)) × (List (List Int × Int × List Int)) × (Int)) := from_ Tryd.prog (i_doAll_E) Tryd.f64 i_doAll_sig [1, 1, 1, 0, 1, 0] ⟨mkT 32 [(2, .ptr 0 0), (4, .ptr 1 0), (6, .int .i64 y0), (13, .row false .deed y1), (14, .int .i64 y2), (15, .int .i64 y3)], [some (.box 34 [.own 2, .int .i64 y4, .own 3, .own 4]), some (.box 34 [.nilS, .int .i64 y5, .nilS, .nilS]), some (.arr 3 true .i64 y6), some (.arr 3 true .i64 y7), some (.dp false 31 3 y8)]⟩
theorem i_doAll_f_eq (x0 : (List (Int))) (x1 : (Int)) (x2 : (List (Int))) (x3 : (List (List Int × Int × List Int))) (x4 : (List (Int × Int × Int))) : i_doAll_f (x0, x1, x2, x3, x4) = (Option.bind (i_copyDesk_f (x0, x1, x2, x3)) fun r1 => (i_doAll_l0 0 x4 (List.length x4 : Int) 0 r1.2.1 0 r1.1 r1.2.2.1 r1.2.2.2)) := by
  kernel_rfl
theorem i_doAll_l0_eq (y0 : Int) (y1 : List (Int × Int × Int)) (y2 : Int) (y3 : Int) (y4 : Int) (y5 : Int) (y6 : List (Int)) (y7 : List (Int)) (y8 : List (List Int × Int × List Int)) : i_doAll_l0 y0 y1 y2 y3 y4 y5 y6 y7 y8 = (cond ((decide (y3 < y2))) (if (0 : Int) ≤ y3 ∧ y3 < (List.length y1 : Int) then (Option.bind (i_DeskDo_f (y6, y4, y7, y8, (List.getD y1 (y3 : Int).toNat (0, 0, 0)).1, (List.getD y1 (y3 : Int).toNat (0, 0, 0)).2.1, (List.getD y1 (y3 : Int).toNat (0, 0, 0)).2.2)) fun r1 => (cond (r1.2.2.2.2) (i_doAll_l1 (IntKind.i64.wrap (y0 + 1)) y1 y2 (IntKind.i64.wrap (y3 + 1)) r1.2.1 y5 r1.1 r1.2.2.1 r1.2.2.2.1) (i_doAll_l0 y0 y1 y2 (IntKind.i64.wrap (y3 + 1)) y4 y5 y6 y7 y8))) else none) (some (y6, y4, y7, y8, y0))) := by
  refine (loopK_eq Tryd.prog (i_doAll_E) (sub (Tryd.f64.body.getD .skip) [1, 1, 1, 0, 1, 0, 0]) _ _).trans ?_
  kernel_rfl
theorem i_doAll_l1_eq (y0 : Int) (y1 : List (Int × Int × Int)) (y2 : Int) (y3 : Int) (y4 : Int) (y5 : Int) (y6 : List (Int)) (y7 : List (Int)) (y8 : List (List Int × Int × List Int)) : i_doAll_l1 y0 y1 y2 y3 y4 y5 y6 y7 y8 = (cond ((decide (y3 < y2))) (if (0 : Int) ≤ y3 ∧ y3 < (List.length y1 : Int) then (Option.bind (i_DeskDo_f (y6, y4, y7, y8, (List.getD y1 (y3 : Int).toNat (0, 0, 0)).1, (List.getD y1 (y3 : Int).toNat (0, 0, 0)).2.1, (List.getD y1 (y3 : Int).toNat (0, 0, 0)).2.2)) fun r1 => (cond (r1.2.2.2.2) (i_doAll_l1 (IntKind.i64.wrap (y0 + 1)) y1 y2 (IntKind.i64.wrap (y3 + 1)) r1.2.1 y5 r1.1 r1.2.2.1 r1.2.2.2.1) (i_doAll_l1 y0 y1 y2 (IntKind.i64.wrap (y3 + 1)) y4 y5 y6 y7 y8))) else none) (some (y6, y4, y7, y8, y0))) := by
  refine (loopK_eq Tryd.prog (i_doAll_E) (sub (Tryd.f64.body.getD .skip) [1, 1, 1, 0, 1, 0, 0]) _ _).trans ?_
  kernel_rfl
theorem i_doAll_ent : Entb Tryd.prog 64 := ⟨Tryd.f64, by kernel_rfl, by kernel_rfl, by kernel_rfl⟩
theorem i_doAll_ok : CtrOk Tryd.prog 64 ⟨i_doAll_sig, i_doAll_f⟩ :=
  ctr_of (fn := Tryd.f64) (by kernel_rfl) (by kernel_rfl) (fun x : Ts i_doAll_sig.pc => i_doAll_E) (fun x => ⟨(fn_cons ⟨i_DeskDo_ok, i_DeskDo_ent⟩ (fn_cons ⟨i_copyDesk_ok, i_copyDesk_ent⟩ fn_none)), clo_none, wr_none⟩) (fun h => by cases h) follows_ (fun _ _ => trivial)
end FN
set_option linter.unusedVariables false
namespace FN
open Go Go.Proofs
/-! (*loop.example/firingnets/spec.l20Rd).pick -/
@[reducible] def r_pick_sig : Sig := { rd := some 108, ps := [none], pc := [.view .u8, .int .i64, .int .i64], rs := [none], rc := [.int .i64, .int .i64] }
noncomputable def r_pick_E (b : List Int) : Env' := { keep := [0], rdb := b, fn := fun f => none, ck := ckT, cuts := [], mine := fun i => false }
noncomputable def r_pick_f (x : Ts r_pick_sig.pc) : Option (Ts r_pick_sig.rc) := runFn Tryd.prog (r_pick_E x.1) Tryd.f68 r_pick_sig x
theorem r_pick_f_eq (x0 : (List (Int))) (x1 : (Int)) (x2 : (Int)) : r_pick_f (x0, x1, x2) = (cond ((decide (x2 < 1))) (if 108 = 108 ∧ x0 = x0 then (some (0, (IntKind.i64.wrap (x1 + 1)))) else none) (cond (((List.length x0 : Int) == 0)) (if 108 = 108 ∧ x0 = x0 then (some (0, (IntKind.i64.wrap (x1 + 1)))) else none) (cond ((decide ((IntKind.i64.wrap ((IntKind.i64.wrap (x1 + 1)) - 1)) < (List.length x0 : Int)))) (if (0 : Int) ≤ (IntKind.i64.wrap ((IntKind.i64.wrap (x1 + 1)) - 1)) ∧ (IntKind.i64.wrap ((IntKind.i64.wrap (x1 + 1)) - 1)) < (List.length x0 : Int) then (if x2 = 0 then none else (if 108 = 108 ∧ x0 = x0 then (some ((Int.tmod (IntKind.i64.wrap (List.getD x0 ((IntKind.i64.wrap ((IntKind.i64.wrap (x1 + 1)) - 1)) : Int).toNat 0)) x2), (IntKind.i64.wrap (x1 + 1)))) else none)) else none) (if (List.length x0 : Int) = 0 then none else (if (0 : Int) ≤ (Int.tmod (IntKind.i64.wrap ((IntKind.i64.wrap (x1 + 1)) - 1)) (List.length x0 : Int)) ∧ (Int.tmod (IntKind.i64.wrap ((IntKind.i64.wrap (x1 + 1)) - 1)) (List.length x0 : Int)) < (List.length x0 : Int) then (if (List.length x0 : Int) = 0 then none else (if (0 : Int) ≤ (Int.tmod (IntKind.i64.wrap ((IntKind.i64.wrap ((IntKind.i64.wrap ((IntKind.i64.wrap (x1 + 1)) - 1)) * 7)) + 3)) (List.length x0 : Int)) ∧ (Int.tmod (IntKind.i64.wrap ((IntKind.i64.wrap ((IntKind.i64.wrap ((IntKind.i64.wrap (x1 + 1)) - 1)) * 7)) + 3)) (List.length x0 : Int)) < (List.length x0 : Int) then (if (List.length x0 : Int) = 0 then none else (if x2 = 0 then none else (if 108 = 108 ∧ x0 = x0 then (some ((Int.tmod (Go.bits .xor IntKind.i64 (IntKind.i64.wrap ((IntKind.i64.wrap ((IntKind.i64.wrap ((IntKind.i64.wrap ((IntKind.i64.wrap (List.getD x0 ((Int.tmod (IntKind.i64.wrap ((IntKind.i64.wrap (x1 + 1)) - 1)) (List.length x0 : Int)) : Int).toNat 0)) * 131)) + (IntKind.i64.wrap ((IntKind.i64.wrap (List.getD x0 ((Int.tmod (IntKind.i64.wrap ((IntKind.i64.wrap ((IntKind.i64.wrap ((IntKind.i64.wrap (x1 + 1)) - 1)) * 7)) + 3)) (List.length x0 : Int)) : Int).toNat 0)) * 1117)))) + (IntKind.i64.wrap ((IntKind.i64.wrap ((IntKind.i64.wrap (x1 + 1)) - 1)) * 29)))) + (IntKind.i64.wrap ((IntKind.i64.wrap (Int.tdiv (IntKind.i64.wrap ((IntKind.i64.wrap (x1 + 1)) - 1)) (List.length x0 : Int))) * 53)))) (IntKind.i64.wrap (Int.tdiv (IntKind.i64.wrap ((IntKind.i64.wrap ((IntKind.i64.wrap ((IntKind.i64.wrap ((IntKind.i64.wrap (List.getD x0 ((Int.tmod (IntKind.i64.wrap ((IntKind.i64.wrap (x1 + 1)) - 1)) (List.length x0 : Int)) : Int).toNat 0)) * 131)) + (IntKind.i64.wrap ((IntKind.i64.wrap (List.getD x0 ((Int.tmod (IntKind.i64.wrap ((IntKind.i64.wrap ((IntKind.i64.wrap ((IntKind.i64.wrap (x1 + 1)) - 1)) * 7)) + 3)) (List.length x0 : Int)) : Int).toNat 0)) * 1117)))) + (IntKind.i64.wrap ((IntKind.i64.wrap ((IntKind.i64.wrap (x1 + 1)) - 1)) * 29)))) + (IntKind.i64.wrap ((IntKind.i64.wrap (Int.tdiv (IntKind.i64.wrap ((IntKind.i64.wrap (x1 + 1)) - 1)) (List.length x0 : Int))) * 53)))) 64))) x2), (IntKind.i64.wrap (x1 + 1)))) else none))) else none)) else none))))) := by
  kernel_rfl
theorem r_pick_ent : Entb Tryd.prog 68 := ⟨Tryd.f68, by kernel_rfl, by kernel_rfl, by kernel_rfl⟩
theorem r_pick_ok : CtrOk Tryd.prog 68 ⟨r_pick_sig, r_pick_f⟩ :=
  ctr_of (fn := Tryd.f68) (by kernel_rfl) (by kernel_rfl) (fun x : Ts r_pick_sig.pc => r_pick_E x.1) (fun x => ⟨fn_none, clo_none, wr_none⟩) (fun _ x => ⟨rfl, fun b ps h => rd_head h⟩) follows_ (fun _ _ => trivial)
end FN
set_option linter.unusedVariables false
namespace FN
open Go Go.Proofs
/-! loop.example/firingnets/spec.l20Open -/
@[reducible] def s_l20Open_sig : Sig := { ps := [none], pc := [.view .u8], nw := some 108, rs := [none], rc := [.view .u8, .int .i64] }
noncomputable def s_l20Open_E : Env' := { fn := fun f => none, ck := ckT, cuts := [], mine := fun i => false }
noncomputable def s_l20Open_f (x : Ts s_l20Open_sig.pc) : Option (Ts s_l20Open_sig.rc) := runFn Tryd.prog (s_l20Open_E) Tryd.f54 s_l20Open_sig x
theorem s_l20Open_f_eq (x0 : (List (Int))) : s_l20Open_f x0 = (cond ((decide (2000 < (List.length x0 : Int)))) (if (0 : Int) ≤ 2000 ∧ 2000 ≤ (List.length x0 : Int) then (some ((List.drop 0 (List.take ((2000 : Int).toNat) x0)), 0)) else none) (some (x0, 0))) := by
  kernel_rfl
theorem s_l20Open_ent : Entb Tryd.prog 54 := ⟨Tryd.f54, by kernel_rfl, by kernel_rfl, by kernel_rfl⟩
theorem s_l20Open_ok : CtrOk Tryd.prog 54 ⟨s_l20Open_sig, s_l20Open_f⟩ :=
  ctr_of (fn := Tryd.f54) (by kernel_rfl) (by kernel_rfl) (fun x : Ts s_l20Open_sig.pc => s_l20Open_E) (fun x => ⟨fn_none, clo_none, wr_none⟩) (fun h => by cases h) follows_ (fun _ _ => trivial)
end FN
set_option linter.unusedVariables false
namespace FN
open Go Go.Proofs
/-! (*loop.example/firingnets/spec.l20Rd).odd -/
@[reducible] def r_odd_sig : Sig := { rd := some 108, ps := [none], pc := [.view .u8, .int .i64, .int .i64], rs := [none], rc := [.bool, .int .i64] }
noncomputable def r_odd_E (b : List Int) : Env' := { keep := [0], rdb := b, fn := fun f => if f = 68 then some ⟨r_pick_sig, r_pick_f⟩ else none, ck := ckT, cuts := [], mine := fun i => false }
noncomputable def r_odd_f (x : Ts r_odd_sig.pc) : Option (Ts r_odd_sig.rc) := runFn Tryd.prog (r_odd_E x.1) Tryd.f62 r_odd_sig x
theorem r_odd_f_eq (x0 : (List (Int))) (x1 : (Int)) (x2 : (Int)) : r_odd_f (x0, x1, x2) = (cond ((decide (0 < x2))) (Option.bind (r_pick_f (x0, x1, x2)) fun r1 => (if 108 = 108 ∧ x0 = x0 then (some ((r1.1 == (IntKind.i64.wrap (x2 - 1))), r1.2)) else none)) (if 108 = 108 ∧ x0 = x0 then (some (false, x1)) else none)) := by
  kernel_rfl
theorem r_odd_ent : Entb Tryd.prog 62 := ⟨Tryd.f62, by kernel_rfl, by kernel_rfl, by kernel_rfl⟩
theorem r_odd_ok : CtrOk Tryd.prog 62 ⟨r_odd_sig, r_odd_f⟩ :=
  ctr_of (fn := Tryd.f62) (by kernel_rfl) (by kernel_rfl) (fun x : Ts r_odd_sig.pc => r_odd_E x.1) (fun x => ⟨(fn_cons ⟨r_pick_ok, r_pick_ent⟩ fn_none), clo_none, wr_none⟩) (fun _ x => ⟨rfl, fun b ps h => rd_head h⟩) follows_ (fun _ _ => trivial)
end FN
set_option linter.unusedVariables false
namespace FN
open Go Go.Proofs
/-! loop.example/firingnets/spec.PathNet -/
@[reducible] def s_PathNet_sig : Sig := { ps := [none], pc := [.int .i64], rs := [none], rc := [.row 3 .i64] }
noncomputable def s_PathNet_E : Env' := { fn := fun f => if f = 70 then some ⟨s_l1In_sig, s_l1In_f⟩ else none, ck := ckT, cuts := [(3, [0, 3, 4]), (8, [0, 3, 4, 5])], mine := fun i => false }
noncomputable def s_PathNet_f (x : Ts s_PathNet_sig.pc) : Option (Ts s_PathNet_sig.rc) := runFn Tryd.prog (s_PathNet_E) Tryd.f112 s_PathNet_sig x
noncomputable def s_PathNet_l0 (y0 : Int) (y1 : Int) (y2 : List (Int)) : Option ((List (Int))) := from_ Tryd.prog (s_PathNet_E) Tryd.f112 s_PathNet_sig [1, 1, 0, 1, 0] ⟨mkT 37 [(0, .int .i64 y0), (3, .own 0), (4, .int .i64 y1)], [some (.arr 3 true .i64 y2)]⟩
noncomputable def s_PathNet_j1 (y0 : Int) (y1 : Int) (y2 : Int) (y3 : List (Int)) : Option ((List (Int))) := from_ Tryd.prog (s_PathNet_E) Tryd.f112 s_PathNet_sig [1, 1, 0, 1, 0, 0, 1, 0, 0, 1, 1] ⟨mkT 37 [(0, .int .i64 y0), (3, .own 0), (4, .int .i64 y1), (5, .int .i64 y2)], [some (.arr 3 true .i64 y3)]⟩
theorem s_PathNet_f_eq (x0 : (Int)) : s_PathNet_f x0 = (s_PathNet_l0 x0 0 ([] : List (Int))) := by
  kernel_rfl
theorem s_PathNet_l0_eq (y0 : Int) (y1 : Int) (y2 : List (Int)) : s_PathNet_l0 y0 y1 y2 = (cond ((decide (y1 < y0))) (Option.bind (s_l1In_f (y0, 1, 6)) fun r1 => (cond (r1) (cond ((decide (0 < y1))) (if (IntKind.i64.wrap (y1 - 1)) < 0 then none else (s_PathNet_j1 y0 y1 (Go.bits .or IntKind.i64 0 (IntKind.i64.wrap (1 * 2 ^ min ((IntKind.i64.wrap (y1 - 1)) : Int).toNat IntKind.i64.bits))) y2)) (s_PathNet_j1 y0 y1 0 y2)) (some y2))) (some y2)) := by
  refine (loopK_eq Tryd.prog (s_PathNet_E) (sub (Tryd.f112.body.getD .skip) [1, 1, 0, 1, 0, 0]) _ _).trans ?_
  kernel_rfl
theorem s_PathNet_j1_eq (y0 : Int) (y1 : Int) (y2 : Int) (y3 : List (Int)) : s_PathNet_j1 y0 y1 y2 y3 = (cond ((decide ((IntKind.i64.wrap (y1 + 1)) < y0))) (if (IntKind.i64.wrap (y1 + 1)) < 0 then none else (if (List.length y3 + List.length ([(Go.bits .or IntKind.i64 y2 (IntKind.i64.wrap (1 * 2 ^ min ((IntKind.i64.wrap (y1 + 1)) : Int).toNat IntKind.i64.bits)))] : List (Int))) * 8 ≤ 140737488355328 then (s_PathNet_l0 y0 (IntKind.i64.wrap (y1 + 1)) (y3 ++ ([(Go.bits .or IntKind.i64 y2 (IntKind.i64.wrap (1 * 2 ^ min ((IntKind.i64.wrap (y1 + 1)) : Int).toNat IntKind.i64.bits)))] : List (Int)))) else none)) (if (List.length y3 + List.length ([y2] : List (Int))) * 8 ≤ 140737488355328 then (s_PathNet_l0 y0 (IntKind.i64.wrap (y1 + 1)) (y3 ++ ([y2] : List (Int)))) else none)) := by
  kernel_rfl
theorem s_PathNet_ent : Entb Tryd.prog 112 := ⟨Tryd.f112, by kernel_rfl, by kernel_rfl, by kernel_rfl⟩
theorem s_PathNet_ok : CtrOk Tryd.prog 112 ⟨s_PathNet_sig, s_PathNet_f⟩ :=
  ctr_of (fn := Tryd.f112) (by kernel_rfl) (by kernel_rfl) (fun x : Ts s_PathNet_sig.pc => s_PathNet_E) (fun x => ⟨(fn_cons ⟨s_l1In_ok, s_l1In_ent⟩ fn_none), clo_none, wr_none⟩) (fun h => by cases h) follows_ (fun _ _ => trivial)
end FN
set_option linter.unusedVariables false
namespace FN
open Go Go.Proofs
/-! loop.example/firingnets/spec.RingNet -/
@[reducible] def s_RingNet_sig : Sig := { ps := [none], pc := [.int .i64], rs := [none], rc := [.row 3 .i64] }
noncomputable def s_RingNet_E : Env' := { fn := fun f => if f = 70 then some ⟨s_l1In_sig, s_l1In_f⟩ else none, ck := ckT, cuts := [(3, [0, 3, 4])], mine := fun i => false }
noncomputable def s_RingNet_f (x : Ts s_RingNet_sig.pc) : Option (Ts s_RingNet_sig.rc) := runFn Tryd.prog (s_RingNet_E) Tryd.f113 s_RingNet_sig x
noncomputable def s_RingNet_l0 (y0 : Int) (y1 : Int) (y2 : List (Int)) : Option ((List (Int))) := from_ Tryd.prog (s_RingNet_E) Tryd.f113 s_RingNet_sig [1, 1, 0, 1, 0] ⟨mkT 32 [(0, .int .i64 y0), (3, .own 0), (4, .int .i64 y1)], [some (.arr 3 true .i64 y2)]⟩
theorem s_RingNet_f_eq (x0 : (Int)) : s_RingNet_f x0 = (s_RingNet_l0 x0 0 ([] : List (Int))) := by
  kernel_rfl
theorem s_RingNet_l0_eq (y0 : Int) (y1 : Int) (y2 : List (Int)) : s_RingNet_l0 y0 y1 y2 = (cond ((decide (y1 < y0))) (Option.bind (s_l1In_f (y0, 3, 6)) fun r1 => (cond (r1) (if y0 = 0 then none else (if (Int.tmod (IntKind.i64.wrap (y1 + 1)) y0) < 0 then none else (if y0 = 0 then none else (if (Int.tmod (IntKind.i64.wrap ((IntKind.i64.wrap (y1 + y0)) - 1)) y0) < 0 then none else (if (List.length y2 + List.length ([(Go.bits .or IntKind.i64 (IntKind.i64.wrap (1 * 2 ^ min ((Int.tmod (IntKind.i64.wrap (y1 + 1)) y0) : Int).toNat IntKind.i64.bits)) (IntKind.i64.wrap (1 * 2 ^ min ((Int.tmod (IntKind.i64.wrap ((IntKind.i64.wrap (y1 + y0)) - 1)) y0) : Int).toNat IntKind.i64.bits)))] : List (Int))) * 8 ≤ 140737488355328 then (s_RingNet_l0 y0 (IntKind.i64.wrap (y1 + 1)) (y2 ++ ([(Go.bits .or IntKind.i64 (IntKind.i64.wrap (1 * 2 ^ min ((Int.tmod (IntKind.i64.wrap (y1 + 1)) y0) : Int).toNat IntKind.i64.bits)) (IntKind.i64.wrap (1 * 2 ^ min ((Int.tmod (IntKind.i64.wrap ((IntKind.i64.wrap (y1 + y0)) - 1)) y0) : Int).toNat IntKind.i64.bits)))] : List (Int)))) else none))))) (some y2))) (some y2)) := by
  refine (loopK_eq Tryd.prog (s_RingNet_E) (sub (Tryd.f113.body.getD .skip) [1, 1, 0, 1, 0, 0]) _ _).trans ?_
  kernel_rfl
theorem s_RingNet_ent : Entb Tryd.prog 113 := ⟨Tryd.f113, by kernel_rfl, by kernel_rfl, by kernel_rfl⟩
theorem s_RingNet_ok : CtrOk Tryd.prog 113 ⟨s_RingNet_sig, s_RingNet_f⟩ :=
  ctr_of (fn := Tryd.f113) (by kernel_rfl) (by kernel_rfl) (fun x : Ts s_RingNet_sig.pc => s_RingNet_E) (fun x => ⟨(fn_cons ⟨s_l1In_ok, s_l1In_ent⟩ fn_none), clo_none, wr_none⟩) (fun h => by cases h) follows_ (fun _ _ => trivial)
end FN
set_option linter.unusedVariables false
namespace FN
open Go Go.Proofs
/-! loop.example/firingnets/spec.l20Net -/
@[reducible] def s_l20Net_sig : Sig := { rd := some 108, ps := [none], pc := [.view .u8, .int .i64, .int .i64], rs := [none], rc := [.row 3 .i64, .int .i64] }
noncomputable def s_l20Net_E (b : List Int) : Env' := { keep := [0], rdb := b, fn := fun f => if f = 62 then some ⟨r_odd_sig, r_odd_f⟩ else if f = 68 then some ⟨r_pick_sig, r_pick_f⟩ else if f = 112 then some ⟨s_PathNet_sig, s_PathNet_f⟩ else if f = 113 then some ⟨s_RingNet_sig, s_RingNet_f⟩ else none, ck := ckT, cuts := [(9, [0, 1, 5, 6]), (10, [0, 1, 5, 6, 7]), (17, [0, 1, 5, 6])], mine := fun i => i == 11 || i == 14 || i == 16 || i == 22 || i == 28 || i == 35 || i == 38 || i == 64 || i == 66 }
noncomputable def s_l20Net_f (x : Ts s_l20Net_sig.pc) : Option (Ts s_l20Net_sig.rc) := runFn Tryd.prog (s_l20Net_E x.1) Tryd.f102 s_l20Net_sig x
noncomputable def s_l20Net_j0 (b : List Int) (y0 : Int) (y1 : Int) (y2 : List (Int)) (y3 : Int) (y4 : List (Int)) : Option ((List (Int)) × (Int)) := from_ Tryd.prog (s_l20Net_E b) Tryd.f102 s_l20Net_sig [1, 1, 1, 1] ⟨mkT 92 [(0, .ptr 0 0), (1, .int .i64 y0), (5, .int .i64 y1), (6, .own 1)], [some (.box 108 [.row false .u8 y2, .int .i64 y3]), some (.arr 3 true .i64 y4)]⟩
noncomputable def s_l20Net_l1 (b : List Int) (y0 : Int) (y1 : Int) (y2 : Int) (y3 : List (Int)) (y4 : Int) (y5 : List (Int)) : Option ((List (Int)) × (Int)) := from_ Tryd.prog (s_l20Net_E b) Tryd.f102 s_l20Net_sig [1, 1, 1, 1, 0, 1, 0] ⟨mkT 92 [(0, .ptr 0 0), (1, .int .i64 y0), (5, .int .i64 y1), (6, .own 1), (7, .int .i64 y2)], [some (.box 108 [.row false .u8 y3, .int .i64 y4]), some (.arr 3 true .i64 y5)]⟩
noncomputable def s_l20Net_j2 (b : List Int) (y0 : Int) (y1 : Int) (y2 : List (Int)) (y3 : Int) (y4 : List (Int)) : Option ((List (Int)) × (Int)) := from_ Tryd.prog (s_l20Net_E b) Tryd.f102 s_l20Net_sig [1, 1, 1, 1, 1] ⟨mkT 92 [(0, .ptr 0 0), (1, .int .i64 y0), (5, .int .i64 y1), (6, .own 1)], [some (.box 108 [.row false .u8 y2, .int .i64 y3]), some (.arr 3 true .i64 y4)]⟩
theorem s_l20Net_f_eq (x0 : (List (Int))) (x1 : (Int)) (x2 : (Int)) : s_l20Net_f (x0, x1, x2) = (Option.bind (r_pick_f (x0, x1, 6)) fun r1 => (Option.bind (s_PathNet_f (IntKind.i64.wrap (1 + r1.1))) fun r2 => (Option.bind (r_pick_f (x0, r1.2, 4)) fun r3 => (cond ((r3.1 == 0)) (cond ((decide (3 ≤ (IntKind.i64.wrap (1 + r1.1))))) (Option.bind (s_RingNet_f (IntKind.i64.wrap (1 + r1.1))) fun r4 => (s_l20Net_j0 x0 x2 (IntKind.i64.wrap (1 + r1.1)) x0 r3.2 r4)) (s_l20Net_j0 x0 x2 (IntKind.i64.wrap (1 + r1.1)) x0 r3.2 r2)) (cond ((r3.1 == 1)) (if (0 : Int) ≤ (IntKind.i64.wrap (1 + r1.1)) ∧ (IntKind.i64.wrap (1 + r1.1)) * 8 ≤ 140737488355328 ∧ (IntKind.i64.wrap (1 + r1.1)) ≤ 140737488355328 then (s_l20Net_j0 x0 x2 (IntKind.i64.wrap (1 + r1.1)) x0 r3.2 (List.replicate ((IntKind.i64.wrap (1 + r1.1)) : Int).toNat 0 : List (Int))) else none) (s_l20Net_j0 x0 x2 (IntKind.i64.wrap (1 + r1.1)) x0 r3.2 r2)))))) := by
  kernel_rfl
theorem s_l20Net_j0_eq (b : List Int) (y0 : Int) (y1 : Int) (y2 : List (Int)) (y3 : Int) (y4 : List (Int)) : s_l20Net_j0 b y0 y1 y2 y3 y4 = (Option.bind (r_pick_f (y2, y3, 6)) fun r1 => (s_l20Net_l1 b y0 y1 r1.1 y2 r1.2 y4)) := by
  kernel_rfl
theorem s_l20Net_l1_eq (b : List Int) (y0 : Int) (y1 : Int) (y2 : Int) (y3 : List (Int)) (y4 : Int) (y5 : List (Int)) : s_l20Net_l1 b y0 y1 y2 y3 y4 y5 = (cond ((decide (0 < y2))) (Option.bind (r_pick_f (y3, y4, y1)) fun r1 => (Option.bind (r_pick_f (y3, r1.2, y1)) fun r2 => (cond ((r1.1 != r2.1)) (if (0 : Int) ≤ r1.1 ∧ r1.1 < (List.length y5 : Int) then (if r2.1 < 0 then none else (if (0 : Int) ≤ r1.1 ∧ r1.1 < (List.length y5 : Int) then (if (0 : Int) ≤ r2.1 ∧ r2.1 < (List.length (List.set y5 (r1.1 : Int).toNat (Go.bits .or IntKind.i64 (List.getD y5 (r1.1 : Int).toNat 0) (IntKind.i64.wrap (1 * 2 ^ min (r2.1 : Int).toNat IntKind.i64.bits)))) : Int) then (if r1.1 < 0 then none else (if (0 : Int) ≤ r2.1 ∧ r2.1 < (List.length (List.set y5 (r1.1 : Int).toNat (Go.bits .or IntKind.i64 (List.getD y5 (r1.1 : Int).toNat 0) (IntKind.i64.wrap (1 * 2 ^ min (r2.1 : Int).toNat IntKind.i64.bits)))) : Int) then (s_l20Net_l1 b y0 y1 (IntKind.i64.wrap (y2 - 1)) y3 r2.2 (List.set (List.set y5 (r1.1 : Int).toNat (Go.bits .or IntKind.i64 (List.getD y5 (r1.1 : Int).toNat 0) (IntKind.i64.wrap (1 * 2 ^ min (r2.1 : Int).toNat IntKind.i64.bits)))) (r2.1 : Int).toNat (Go.bits .or IntKind.i64 (List.getD (List.set y5 (r1.1 : Int).toNat (Go.bits .or IntKind.i64 (List.getD y5 (r1.1 : Int).toNat 0) (IntKind.i64.wrap (1 * 2 ^ min (r2.1 : Int).toNat IntKind.i64.bits)))) (r2.1 : Int).toNat 0) (IntKind.i64.wrap (1 * 2 ^ min (r1.1 : Int).toNat IntKind.i64.bits))))) else none)) else none) else none)) else none) (s_l20Net_l1 b y0 y1 (IntKind.i64.wrap (y2 - 1)) y3 r2.2 y5)))) (s_l20Net_j2 b y0 y1 y3 y4 y5)) := by
  refine (loopK_eq Tryd.prog (s_l20Net_E b) (sub (Tryd.f102.body.getD .skip) [1, 1, 1, 1, 0, 1, 0, 0]) _ _).trans ?_
  kernel_rfl
theorem s_l20Net_j2_eq (b : List Int) (y0 : Int) (y1 : Int) (y2 : List (Int)) (y3 : Int) (y4 : List (Int)) : s_l20Net_j2 b y0 y1 y2 y3 y4 = (Option.bind (r_odd_f (y2, y3, y0)) fun r1 => (cond (r1.1) (Option.bind (r_pick_f (y2, r1.2, 3)) fun r2 => (cond ((r2.1 == 0)) (if 108 = 108 ∧ y2 = b then (some (([] : List (Int)), r2.2)) else none) (cond ((r2.1 == 1)) (if (0 : Int) ≤ 0 ∧ 0 < (List.length y4 : Int) then (if (0 : Int) ≤ 0 ∧ 0 < (List.length y4 : Int) then (if 108 = 108 ∧ y2 = b then (some ((List.set y4 (0 : Int).toNat (Go.bits .or IntKind.i64 (List.getD y4 (0 : Int).toNat 0) 1)), r2.2)) else none) else none) else none) (if (0 : Int) ≤ 0 ∧ 0 < (List.length y4 : Int) then (if (IntKind.i64.wrap (y1 - 1)) < 0 then none else (if (0 : Int) ≤ 0 ∧ 0 < (List.length y4 : Int) then (cond ((y1 == 1)) (if (0 : Int) ≤ 0 ∧ 0 < (List.length (List.set y4 (0 : Int).toNat (Go.bits .xor IntKind.i64 (List.getD y4 (0 : Int).toNat 0) (IntKind.i64.wrap (1 * 2 ^ min ((IntKind.i64.wrap (y1 - 1)) : Int).toNat IntKind.i64.bits)))) : Int) then (if 108 = 108 ∧ y2 = b then (some ((List.set (List.set y4 (0 : Int).toNat (Go.bits .xor IntKind.i64 (List.getD y4 (0 : Int).toNat 0) (IntKind.i64.wrap (1 * 2 ^ min ((IntKind.i64.wrap (y1 - 1)) : Int).toNat IntKind.i64.bits)))) (0 : Int).toNat (-1)), r2.2)) else none) else none) (if 108 = 108 ∧ y2 = b then (some ((List.set y4 (0 : Int).toNat (Go.bits .xor IntKind.i64 (List.getD y4 (0 : Int).toNat 0) (IntKind.i64.wrap (1 * 2 ^ min ((IntKind.i64.wrap (y1 - 1)) : Int).toNat IntKind.i64.bits)))), r2.2)) else none)) else none)) else none)))) (if 108 = 108 ∧ y2 = b then (some (y4, r1.2)) else none))) := by
  kernel_rfl
theorem s_l20Net_ent : Entb Tryd.prog 102 := ⟨Tryd.f102, by kernel_rfl, by kernel_rfl, by kernel_rfl⟩
theorem s_l20Net_ok : CtrOk Tryd.prog 102 ⟨s_l20Net_sig, s_l20Net_f⟩ :=
  ctr_of (fn := Tryd.f102) (by kernel_rfl) (by kernel_rfl) (fun x : Ts s_l20Net_sig.pc => s_l20Net_E x.1) (fun x => ⟨(fn_cons ⟨r_odd_ok, r_odd_ent⟩ (fn_cons ⟨r_pick_ok, r_pick_ent⟩ (fn_cons ⟨s_PathNet_ok, s_PathNet_ent⟩ (fn_cons ⟨s_RingNet_ok, s_RingNet_ent⟩ fn_none)))), clo_none, wr_none⟩) (fun _ x => ⟨rfl, fun b ps h => rd_head h⟩) follows_ (fun _ _ => trivial)
end FN
set_option linter.unusedVariables false
namespace FN
open Go Go.Proofs
/-! loop.example/firingnets/spec.l20State -/
@[reducible] def s_l20State_sig : Sig := { rd := some 108, ps := [none, none, none], pc := [.view .u8, .int .i64, .int .i64, .int .i64, .int .i64], rs := [none], rc := [.row 3 .i64, .int .i64] }
noncomputable def s_l20State_E (b : List Int) : Env' := { keep := [0], rdb := b, fn := fun f => if f = 62 then some ⟨r_odd_sig, r_odd_f⟩ else if f = 68 then some ⟨r_pick_sig, r_pick_f⟩ else none, ck := ckT, cuts := [(4, [0, 1, 2, 3, 9, 10, 11]), (9, [0, 2, 3, 9])], mine := fun i => false }
noncomputable def s_l20State_f (x : Ts s_l20State_sig.pc) : Option (Ts s_l20State_sig.rc) := runFn Tryd.prog (s_l20State_E x.1) Tryd.f103 s_l20State_sig x
noncomputable def s_l20State_l0 (b : List Int) (y0 : Int) (y1 : Int) (y2 : Int) (y3 : Int) (y4 : Int) (y5 : List (Int)) (y6 : Int) (y7 : List (Int)) : Option ((List (Int)) × (Int)) := from_ Tryd.prog (s_l20State_E b) Tryd.f103 s_l20State_sig [1, 1, 1, 0, 1, 0] ⟨mkT 52 [(0, .ptr 0 0), (1, .int .i64 y0), (2, .int .i64 y1), (3, .int .i64 y2), (9, .own 1), (10, .int .i64 y3), (11, .int .i64 y4)], [some (.box 108 [.row false .u8 y5, .int .i64 y6]), some (.arr 3 true .i64 y7)]⟩
noncomputable def s_l20State_j1 (b : List Int) (y0 : Int) (y1 : Int) (y2 : List (Int)) (y3 : Int) (y4 : List (Int)) : Option ((List (Int)) × (Int)) := from_ Tryd.prog (s_l20State_E b) Tryd.f103 s_l20State_sig [1, 1, 1, 1] ⟨mkT 52 [(0, .ptr 0 0), (2, .int .i64 y0), (3, .int .i64 y1), (9, .own 1)], [some (.box 108 [.row false .u8 y2, .int .i64 y3]), some (.arr 3 true .i64 y4)]⟩
theorem s_l20State_f_eq (x0 : (List (Int))) (x1 : (Int)) (x2 : (Int)) (x3 : (Int)) (x4 : (Int)) : s_l20State_f (x0, x1, x2, x3, x4) = (Option.bind (r_pick_f (x0, x1, 3)) fun r1 => (s_l20State_l0 x0 x2 x3 x4 r1.1 0 x0 r1.2 ([] : List (Int)))) := by
  kernel_rfl
theorem s_l20State_l0_eq (b : List Int) (y0 : Int) (y1 : Int) (y2 : Int) (y3 : Int) (y4 : Int) (y5 : List (Int)) (y6 : Int) (y7 : List (Int)) : s_l20State_l0 b y0 y1 y2 y3 y4 y5 y6 y7 = (cond ((decide (y4 < y0))) (cond ((decide (0 < y3))) (Option.bind (r_pick_f (y5, y6, 3)) fun r1 => (cond ((decide (r1.1 < y3))) (if (List.length y7 + List.length ([0] : List (Int))) * 8 ≤ 140737488355328 then (s_l20State_l0 b y0 y1 y2 y3 (IntKind.i64.wrap (y4 + 1)) y5 r1.2 (y7 ++ ([0] : List (Int)))) else none) (Option.bind (r_pick_f (y5, r1.2, y1)) fun r2 => (if (List.length y7 + List.length ([r2.1] : List (Int))) * 8 ≤ 140737488355328 then (s_l20State_l0 b y0 y1 y2 y3 (IntKind.i64.wrap (y4 + 1)) y5 r2.2 (y7 ++ ([r2.1] : List (Int)))) else none)))) (Option.bind (r_pick_f (y5, y6, y1)) fun r3 => (if (List.length y7 + List.length ([r3.1] : List (Int))) * 8 ≤ 140737488355328 then (s_l20State_l0 b y0 y1 y2 y3 (IntKind.i64.wrap (y4 + 1)) y5 r3.2 (y7 ++ ([r3.1] : List (Int)))) else none))) (s_l20State_j1 b y1 y2 y5 y6 y7)) := by
  refine (loopK_eq Tryd.prog (s_l20State_E b) (sub (Tryd.f103.body.getD .skip) [1, 1, 1, 0, 1, 0, 0]) _ _).trans ?_
  kernel_rfl
theorem s_l20State_j1_eq (b : List Int) (y0 : Int) (y1 : Int) (y2 : List (Int)) (y3 : Int) (y4 : List (Int)) : s_l20State_j1 b y0 y1 y2 y3 y4 = (Option.bind (r_odd_f (y2, y3, y1)) fun r1 => (cond (r1.1) (Option.bind (r_pick_f (y2, r1.2, 2)) fun r2 => (cond ((r2.1 == 0)) (if 108 = 108 ∧ y2 = b then (some (([] : List (Int)), r2.2)) else none) (if (0 : Int) ≤ (IntKind.i64.wrap ((List.length y4 : Int) - 1)) ∧ (IntKind.i64.wrap ((List.length y4 : Int) - 1)) < (List.length y4 : Int) then (if 108 = 108 ∧ y2 = b then (some ((List.set y4 ((IntKind.i64.wrap ((List.length y4 : Int) - 1)) : Int).toNat y0), r2.2)) else none) else none))) (if 108 = 108 ∧ y2 = b then (some (y4, r1.2)) else none))) := by
  kernel_rfl
theorem s_l20State_ent : Entb Tryd.prog 103 := ⟨Tryd.f103, by kernel_rfl, by kernel_rfl, by kernel_rfl⟩
theorem s_l20State_ok : CtrOk Tryd.prog 103 ⟨s_l20State_sig, s_l20State_f⟩ :=
  ctr_of (fn := Tryd.f103) (by kernel_rfl) (by kernel_rfl) (fun x : Ts s_l20State_sig.pc => s_l20State_E x.1) (fun x => ⟨(fn_cons ⟨r_odd_ok, r_odd_ent⟩ (fn_cons ⟨r_pick_ok, r_pick_ent⟩ fn_none)), clo_none, wr_none⟩) (fun _ x => ⟨rfl, fun b ps h => rd_head h⟩) follows_ (fun _ _ => trivial)
end FN
set_option linter.unusedVariables false
namespace FN
open Go Go.Proofs
/-! loop.example/firingnets/spec.l20Place -/
@[reducible] def s_l20Place_sig : Sig := { rd := some 108, ps := [none], pc := [.view .u8, .int .i64, .int .i64], rs := [some 3], rc := [.row 3 .i64, .int .i64, .row 3 .i64, .int .i64] }
noncomputable def s_l20Place_E (b : List Int) : Env' := { keep := [0], rdb := b, fn := fun f => if f = 62 then some ⟨r_odd_sig, r_odd_f⟩ else if f = 68 then some ⟨r_pick_sig, r_pick_f⟩ else if f = 102 then some ⟨s_l20Net_sig, s_l20Net_f⟩ else if f = 103 then some ⟨s_l20State_sig, s_l20State_f⟩ else none, ck := ckT, cuts := [], mine := fun i => i == 7 || i == 9 || i == 11 || i == 21 || i == 25 || i == 27 || i == 40 }
noncomputable def s_l20Place_f (x : Ts s_l20Place_sig.pc) : Option (Ts s_l20Place_sig.rc) := runFn Tryd.prog (s_l20Place_E x.1) Tryd.f85 s_l20Place_sig x
theorem s_l20Place_f_eq (x0 : (List (Int))) (x1 : (Int)) (x2 : (Int)) : s_l20Place_f (x0, x1, x2) = (Option.bind (s_l20Net_f (x0, x1, 0)) fun r1 => (Option.bind (r_pick_f (x0, r1.2, 3)) fun r2 => (Option.bind (r_pick_f (x0, r2.2, 2)) fun r3 => (Option.bind (s_l20State_f (x0, r3.2, (List.length r1.1 : Int), (IntKind.i64.wrap (3 + (IntKind.i64.wrap (r2.1 * r3.1)))), 0)) fun r4 => (Option.bind (r_odd_f (x0, r4.2, x2)) fun r5 => (cond (r5.1) (Option.bind (r_pick_f (x0, r5.2, 3)) fun r6 => (cond ((r6.1 == 0)) (if (List.length r4.1 + List.length ([0] : List (Int))) * 8 ≤ 140737488355328 then (if 108 = 108 ∧ x0 = x0 then (some (r1.1, (IntKind.i64.wrap (3 + (IntKind.i64.wrap (r2.1 * r3.1)))), (r4.1 ++ ([0] : List (Int))), r6.2)) else none) else none) (cond ((r6.1 == 1)) (Option.bind (r_pick_f (x0, r6.2, 2)) fun r7 => (if (0 : Int) ≤ r7.1 ∧ r7.1 < (List.length ([2, 6] : List (Int)) : Int) then (if 108 = 108 ∧ x0 = x0 then (some (r1.1, (List.getD ([2, 6] : List (Int)) (r7.1 : Int).toNat 0), r4.1, r7.2)) else none) else none)) (if 108 = 108 ∧ x0 = x0 then (some ([], 0, [], r6.2)) else none)))) (if 108 = 108 ∧ x0 = x0 then (some (r1.1, (IntKind.i64.wrap (3 + (IntKind.i64.wrap (r2.1 * r3.1)))), r4.1, r5.2)) else none))))))) := by
  kernel_rfl
theorem s_l20Place_ent : Entb Tryd.prog 85 := ⟨Tryd.f85, by kernel_rfl, by kernel_rfl, by kernel_rfl⟩
theorem s_l20Place_ok : CtrOk Tryd.prog 85 ⟨s_l20Place_sig, s_l20Place_f⟩ :=
  ctr_of (fn := Tryd.f85) (by kernel_rfl) (by kernel_rfl) (fun x : Ts s_l20Place_sig.pc => s_l20Place_E x.1) (fun x => ⟨(fn_cons ⟨r_odd_ok, r_odd_ent⟩ (fn_cons ⟨r_pick_ok, r_pick_ent⟩ (fn_cons ⟨s_l20Net_ok, s_l20Net_ent⟩ (fn_cons ⟨s_l20State_ok, s_l20State_ent⟩ fn_none)))), clo_none, wr_none⟩) (fun _ x => ⟨rfl, fun b ps h => rd_head h⟩) follows_ (fun _ _ => trivial)
end FN
set_option linter.unusedVariables false
namespace FN
open Go Go.Proofs
/-! loop.example/firingnets/laws.sameInts -/
@[reducible] def w_sameInts_sig : Sig := { ps := [none, none], pc := [.view .i64, .view .i64], rs := [none], rc := [.bool] }
noncomputable def w_sameInts_E : Env' := { fn := fun f => none, ck := ckT, cuts := [(4, [0, 1, 5])], mine := fun i => false }
noncomputable def w_sameInts_f (x : Ts w_sameInts_sig.pc) : Option (Ts w_sameInts_sig.rc) := runFn Tryd.prog (w_sameInts_E) Tryd.f86 w_sameInts_sig x
noncomputable def w_sameInts_l0 (y0 : List (Int)) (y1 : List (Int)) (y2 : Int) : Option ((Bool)) := from_ Tryd.prog (w_sameInts_E) Tryd.f86 w_sameInts_sig [1, 1, 0, 1, 0] ⟨mkT 26 [(0, .row false .i64 y0), (1, .row false .i64 y1), (5, .int .i64 y2)], []⟩
theorem w_sameInts_f_eq (x0 : (List (Int))) (x1 : (List (Int))) : w_sameInts_f (x0, x1) = (cond (((List.length x0 : Int) != (List.length x1 : Int))) (some false) (w_sameInts_l0 x0 x1 0)) := by
  kernel_rfl
theorem w_sameInts_l0_eq (y0 : List (Int)) (y1 : List (Int)) (y2 : Int) : w_sameInts_l0 y0 y1 y2 = (cond ((decide (y2 < (List.length y0 : Int)))) (if (0 : Int) ≤ y2 ∧ y2 < (List.length y0 : Int) then (if (0 : Int) ≤ y2 ∧ y2 < (List.length y1 : Int) then (cond (((List.getD y0 (y2 : Int).toNat 0) != (List.getD y1 (y2 : Int).toNat 0))) (some false) (w_sameInts_l0 y0 y1 (IntKind.i64.wrap (y2 + 1)))) else none) else none) (some true)) := by
  refine (loopK_eq Tryd.prog (w_sameInts_E) (sub (Tryd.f86.body.getD .skip) [1, 1, 0, 1, 0, 0]) _ _).trans ?_
  kernel_rfl
theorem w_sameInts_ent : Entb Tryd.prog 86 := ⟨Tryd.f86, by kernel_rfl, by kernel_rfl, by kernel_rfl⟩
theorem w_sameInts_ok : CtrOk Tryd.prog 86 ⟨w_sameInts_sig, w_sameInts_f⟩ :=
  ctr_of (fn := Tryd.f86) (by kernel_rfl) (by kernel_rfl) (fun x : Ts w_sameInts_sig.pc => w_sameInts_E) (fun x => ⟨fn_none, clo_none, wr_none⟩) (fun h => by cases h) follows_ (fun _ _ => trivial)
end FN
set_option linter.unusedVariables false
namespace FN
open Go Go.Proofs
/-! loop.example/firingnets/laws.samePlace -/
@[reducible] def w_samePlace_sig : Sig := { ps := [some 3, some 3], pc := [.view .i64, .int .i64, .view .i64, .view .i64, .int .i64, .view .i64], rs := [none], rc := [.bool] }
noncomputable def w_samePlace_E : Env' := { fn := fun f => if f = 86 then some ⟨w_sameInts_sig, w_sameInts_f⟩ else none, ck := ckT, cuts := [], mine := fun i => false }
noncomputable def w_samePlace_f (x : Ts w_samePlace_sig.pc) : Option (Ts w_samePlace_sig.rc) := runFn Tryd.prog (w_samePlace_E) Tryd.f57 w_samePlace_sig x
theorem w_samePlace_f_eq (x0 : (List (Int))) (x1 : (Int)) (x2 : (List (Int))) (x3 : (List (Int))) (x4 : (Int)) (x5 : (List (Int))) : w_samePlace_f (x0, x1, x2, x3, x4, x5) = (Option.bind (w_sameInts_f (x0, x3)) fun r1 => (cond (r1) (cond ((x1 == x4)) (Option.bind (w_sameInts_f (x2, x5)) fun r2 => (some r2)) (some false)) (some false))) := by
  kernel_rfl
theorem w_samePlace_ent : Entb Tryd.prog 57 := ⟨Tryd.f57, by kernel_rfl, by kernel_rfl, by kernel_rfl⟩
theorem w_samePlace_ok : CtrOk Tryd.prog 57 ⟨w_samePlace_sig, w_samePlace_f⟩ :=
  ctr_of (fn := Tryd.f57) (by kernel_rfl) (by kernel_rfl) (fun x : Ts w_samePlace_sig.pc => w_samePlace_E) (fun x => ⟨(fn_cons ⟨w_sameInts_ok, w_sameInts_ent⟩ fn_none), clo_none, wr_none⟩) (fun h => by cases h) follows_ (fun _ _ => trivial)
end FN
set_option linter.unusedVariables false
namespace FN
open Go Go.Proofs
/-! loop.example/firingnets/laws.alive -/
@[reducible] def w_alive_sig : Sig := { ps := [], pc := [], rs := [none], rc := [.bool] }
noncomputable def w_alive_E : Env' := { fn := fun f => if f = 58 then some ⟨i_NetOk_sig, i_NetOk_f⟩ else none, ck := ckT, cuts := [], mine := fun i => false }
noncomputable def w_alive_f (x : Ts w_alive_sig.pc) : Option (Ts w_alive_sig.rc) := runFn Tryd.prog (w_alive_E) Tryd.f19 w_alive_sig x
theorem w_alive_f_eq  : w_alive_f () = (Option.bind (i_NetOk_f ([2, 1] : List (Int))) fun r1 => (cond (r1) (Option.bind (i_NetOk_f ([1] : List (Int))) fun r2 => (some (!r2))) (some false))) := by
  kernel_rfl
theorem w_alive_ent : Entb Tryd.prog 19 := ⟨Tryd.f19, by kernel_rfl, by kernel_rfl, by kernel_rfl⟩
theorem w_alive_ok : CtrOk Tryd.prog 19 ⟨w_alive_sig, w_alive_f⟩ :=
  ctr_of (fn := Tryd.f19) (by kernel_rfl) (by kernel_rfl) (fun x : Ts w_alive_sig.pc => w_alive_E) (fun x => ⟨(fn_cons ⟨i_NetOk_ok, i_NetOk_ent⟩ fn_none), clo_none, wr_none⟩) (fun h => by cases h) follows_ (fun _ _ => trivial)
end FN
set_option linter.unusedVariables false
namespace FN
open Go Go.Proofs
/-! loop.example/firingnets/laws.szIntS -/
@[reducible] def w_szIntS_sig : Sig := { ps := [none, none], pc := [.view .i64, .int .i64], rs := [none], rc := [.int .i64] }
noncomputable def w_szIntS_E : Env' := { fn := fun f => none, ck := ckT, cuts := [], mine := fun i => false }
noncomputable def w_szIntS_f (x : Ts w_szIntS_sig.pc) : Option (Ts w_szIntS_sig.rc) := runFn Tryd.prog (w_szIntS_E) Tryd.f72 w_szIntS_sig x
theorem w_szIntS_f_eq (x0 : (List (Int))) (x1 : (Int)) : w_szIntS_f (x0, x1) = (cond ((decide ((IntKind.i64.wrap (x1 - (List.length x0 : Int))) < 0))) (some (-1)) (some (IntKind.i64.wrap (x1 - (List.length x0 : Int))))) := by
  kernel_rfl
theorem w_szIntS_ent : Entb Tryd.prog 72 := ⟨Tryd.f72, by kernel_rfl, by kernel_rfl, by kernel_rfl⟩
theorem w_szIntS_ok : CtrOk Tryd.prog 72 ⟨w_szIntS_sig, w_szIntS_f⟩ :=
  ctr_of (fn := Tryd.f72) (by kernel_rfl) (by kernel_rfl) (fun x : Ts w_szIntS_sig.pc => w_szIntS_E) (fun x => ⟨fn_none, clo_none, wr_none⟩) (fun h => by cases h) follows_ (fun _ _ => trivial)
end FN
set_option linter.unusedVariables false
namespace FN
open Go Go.Proofs
/-! loop.example/firingnets/laws.szPlace -/
@[reducible] def w_szPlace_sig : Sig := { ps := [some 3, none], pc := [.view .i64, .int .i64, .view .i64, .int .i64], rs := [none], rc := [.int .i64] }
noncomputable def w_szPlace_E : Env' := { fn := fun f => if f = 72 then some ⟨w_szIntS_sig, w_szIntS_f⟩ else none, ck := ckT, cuts := [], mine := fun i => false }
noncomputable def w_szPlace_f (x : Ts w_szPlace_sig.pc) : Option (Ts w_szPlace_sig.rc) := runFn Tryd.prog (w_szPlace_E) Tryd.f34 w_szPlace_sig x
theorem w_szPlace_f_eq (x0 : (List (Int))) (x1 : (Int)) (x2 : (List (Int))) (x3 : (Int)) : w_szPlace_f (x0, x1, x2, x3) = (Option.bind (w_szIntS_f (x0, x3)) fun r1 => (cond ((decide (r1 < 0))) (some (-1)) (Option.bind (w_szIntS_f (x2, r1)) fun r2 => (cond ((decide (r2 < 0))) (some (-1)) (some r2))))) := by
  kernel_rfl
theorem w_szPlace_ent : Entb Tryd.prog 34 := ⟨Tryd.f34, by kernel_rfl, by kernel_rfl, by kernel_rfl⟩
theorem w_szPlace_ok : CtrOk Tryd.prog 34 ⟨w_szPlace_sig, w_szPlace_f⟩ :=
  ctr_of (fn := Tryd.f34) (by kernel_rfl) (by kernel_rfl) (fun x : Ts w_szPlace_sig.pc => w_szPlace_E) (fun x => ⟨(fn_cons ⟨w_szIntS_ok, w_szIntS_ent⟩ fn_none), clo_none, wr_none⟩) (fun h => by cases h) follows_ (fun _ _ => trivial)
end FN
set_option linter.unusedVariables false
namespace FN
open Go Go.Proofs
/-! loop.example/firingnets/laws.toIntS -/
@[reducible] def w_toIntS_sig : Sig := { ps := [none], pc := [.view .i64], rs := [none], rc := [.row 3 .i64] }
noncomputable def w_toIntS_E : Env' := { fn := fun f => none, ck := ckT, cuts := [(3, [0, 3, 4])], mine := fun i => false }
noncomputable def w_toIntS_f (x : Ts w_toIntS_sig.pc) : Option (Ts w_toIntS_sig.rc) := runFn Tryd.prog (w_toIntS_E) Tryd.f77 w_toIntS_sig x
noncomputable def w_toIntS_l0 (y0 : List (Int)) (y1 : Int) (y2 : List (Int)) : Option ((List (Int))) := from_ Tryd.prog (w_toIntS_E) Tryd.f77 w_toIntS_sig [1, 1, 0, 1, 0] ⟨mkT 22 [(0, .row false .i64 y0), (3, .own 0), (4, .int .i64 y1)], [some (.arr 3 true .i64 y2)]⟩
theorem w_toIntS_f_eq (x0 : (List (Int))) : w_toIntS_f x0 = (if (0 : Int) ≤ (List.length x0 : Int) ∧ (List.length x0 : Int) * 8 ≤ 140737488355328 ∧ (List.length x0 : Int) ≤ 140737488355328 then (w_toIntS_l0 x0 0 (List.replicate ((List.length x0 : Int) : Int).toNat 0 : List (Int))) else none) := by
  kernel_rfl
theorem w_toIntS_l0_eq (y0 : List (Int)) (y1 : Int) (y2 : List (Int)) : w_toIntS_l0 y0 y1 y2 = (cond ((decide (y1 < (List.length y0 : Int)))) (if (0 : Int) ≤ y1 ∧ y1 < (List.length y0 : Int) then (if (0 : Int) ≤ y1 ∧ y1 < (List.length y2 : Int) then (w_toIntS_l0 y0 (IntKind.i64.wrap (y1 + 1)) (List.set y2 (y1 : Int).toNat (List.getD y0 (y1 : Int).toNat 0))) else none) else none) (some y2)) := by
  refine (loopK_eq Tryd.prog (w_toIntS_E) (sub (Tryd.f77.body.getD .skip) [1, 1, 0, 1, 0, 0]) _ _).trans ?_
  kernel_rfl
theorem w_toIntS_ent : Entb Tryd.prog 77 := ⟨Tryd.f77, by kernel_rfl, by kernel_rfl, by kernel_rfl⟩
theorem w_toIntS_ok : CtrOk Tryd.prog 77 ⟨w_toIntS_sig, w_toIntS_f⟩ :=
  ctr_of (fn := Tryd.f77) (by kernel_rfl) (by kernel_rfl) (fun x : Ts w_toIntS_sig.pc => w_toIntS_E) (fun x => ⟨fn_none, clo_none, wr_none⟩) (fun h => by cases h) follows_ (fun _ _ => trivial)
end FN
set_option linter.unusedVariables false
namespace FN
open Go Go.Proofs
/-! loop.example/firingnets/laws.toPlace -/
@[reducible] def w_toPlace_sig : Sig := { ps := [some 3], pc := [.view .i64, .int .i64, .view .i64], rs := [some 3], rc := [.row 3 .i64, .int .i64, .row 3 .i64] }
noncomputable def w_toPlace_E : Env' := { fn := fun f => if f = 77 then some ⟨w_toIntS_sig, w_toIntS_f⟩ else none, ck := ckT, cuts := [], mine := fun i => i == 6 || i == 13 }
noncomputable def w_toPlace_f (x : Ts w_toPlace_sig.pc) : Option (Ts w_toPlace_sig.rc) := runFn Tryd.prog (w_toPlace_E) Tryd.f40 w_toPlace_sig x
theorem w_toPlace_f_eq (x0 : (List (Int))) (x1 : (Int)) (x2 : (List (Int))) : w_toPlace_f (x0, x1, x2) = (Option.bind (w_toIntS_f x0) fun r1 => (Option.bind (w_toIntS_f x2) fun r2 => (some (r1, x1, r2)))) := by
  kernel_rfl
theorem w_toPlace_ent : Entb Tryd.prog 40 := ⟨Tryd.f40, by kernel_rfl, by kernel_rfl, by kernel_rfl⟩
theorem w_toPlace_ok : CtrOk Tryd.prog 40 ⟨w_toPlace_sig, w_toPlace_f⟩ :=
  ctr_of (fn := Tryd.f40) (by kernel_rfl) (by kernel_rfl) (fun x : Ts w_toPlace_sig.pc => w_toPlace_E) (fun x => ⟨(fn_cons ⟨w_toIntS_ok, w_toIntS_ent⟩ fn_none), clo_none, wr_none⟩) (fun h => by cases h) follows_ (fun _ _ => trivial)
end FN
set_option linter.unusedVariables false
namespace FN
open Go Go.Proofs
/-! loop.example/firingnets/laws.eqIntS -/
@[reducible] def w_eqIntS_sig : Sig := { ps := [none, none], pc := [.view .i64, .view .i64], rs := [none], rc := [.bool] }
noncomputable def w_eqIntS_E : Env' := { fn := fun f => none, ck := ckT, cuts := [(4, [0, 1, 5])], mine := fun i => false }
noncomputable def w_eqIntS_f (x : Ts w_eqIntS_sig.pc) : Option (Ts w_eqIntS_sig.rc) := runFn Tryd.prog (w_eqIntS_E) Tryd.f81 w_eqIntS_sig x
noncomputable def w_eqIntS_l0 (y0 : List (Int)) (y1 : List (Int)) (y2 : Int) : Option ((Bool)) := from_ Tryd.prog (w_eqIntS_E) Tryd.f81 w_eqIntS_sig [1, 1, 0, 1, 0] ⟨mkT 26 [(0, .row false .i64 y0), (1, .row false .i64 y1), (5, .int .i64 y2)], []⟩
theorem w_eqIntS_f_eq (x0 : (List (Int))) (x1 : (List (Int))) : w_eqIntS_f (x0, x1) = (cond (((List.length x0 : Int) != (List.length x1 : Int))) (some false) (w_eqIntS_l0 x0 x1 0)) := by
  kernel_rfl
theorem w_eqIntS_l0_eq (y0 : List (Int)) (y1 : List (Int)) (y2 : Int) : w_eqIntS_l0 y0 y1 y2 = (cond ((decide (y2 < (List.length y0 : Int)))) (if (0 : Int) ≤ y2 ∧ y2 < (List.length y0 : Int) then (if (0 : Int) ≤ y2 ∧ y2 < (List.length y1 : Int) then (cond (((List.getD y0 (y2 : Int).toNat 0) != (List.getD y1 (y2 : Int).toNat 0))) (some false) (w_eqIntS_l0 y0 y1 (IntKind.i64.wrap (y2 + 1)))) else none) else none) (some true)) := by
  refine (loopK_eq Tryd.prog (w_eqIntS_E) (sub (Tryd.f81.body.getD .skip) [1, 1, 0, 1, 0, 0]) _ _).trans ?_
  kernel_rfl
theorem w_eqIntS_ent : Entb Tryd.prog 81 := ⟨Tryd.f81, by kernel_rfl, by kernel_rfl, by kernel_rfl⟩
theorem w_eqIntS_ok : CtrOk Tryd.prog 81 ⟨w_eqIntS_sig, w_eqIntS_f⟩ :=
  ctr_of (fn := Tryd.f81) (by kernel_rfl) (by kernel_rfl) (fun x : Ts w_eqIntS_sig.pc => w_eqIntS_E) (fun x => ⟨fn_none, clo_none, wr_none⟩) (fun h => by cases h) follows_ (fun _ _ => trivial)
end FN
set_option linter.unusedVariables false
namespace FN
open Go Go.Proofs
/-! loop.example/firingnets/laws.eqPlace -/
@[reducible] def w_eqPlace_sig : Sig := { ps := [some 3, some 3], pc := [.view .i64, .int .i64, .view .i64, .view .i64, .int .i64, .view .i64], rs := [none], rc := [.bool] }
noncomputable def w_eqPlace_E : Env' := { fn := fun f => if f = 81 then some ⟨w_eqIntS_sig, w_eqIntS_f⟩ else none, ck := ckT, cuts := [], mine := fun i => false }
noncomputable def w_eqPlace_f (x : Ts w_eqPlace_sig.pc) : Option (Ts w_eqPlace_sig.rc) := runFn Tryd.prog (w_eqPlace_E) Tryd.f48 w_eqPlace_sig x
theorem w_eqPlace_f_eq (x0 : (List (Int))) (x1 : (Int)) (x2 : (List (Int))) (x3 : (List (Int))) (x4 : (Int)) (x5 : (List (Int))) : w_eqPlace_f (x0, x1, x2, x3, x4, x5) = (Option.bind (w_eqIntS_f (x0, x3)) fun r1 => (cond ((!r1)) (some false) (cond ((x1 != x4)) (some false) (Option.bind (w_eqIntS_f (x2, x5)) fun r2 => (cond ((!r2)) (some false) (some true)))))) := by
  kernel_rfl
theorem w_eqPlace_ent : Entb Tryd.prog 48 := ⟨Tryd.f48, by kernel_rfl, by kernel_rfl, by kernel_rfl⟩
theorem w_eqPlace_ok : CtrOk Tryd.prog 48 ⟨w_eqPlace_sig, w_eqPlace_f⟩ :=
  ctr_of (fn := Tryd.f48) (by kernel_rfl) (by kernel_rfl) (fun x : Ts w_eqPlace_sig.pc => w_eqPlace_E) (fun x => ⟨(fn_cons ⟨w_eqIntS_ok, w_eqIntS_ent⟩ fn_none), clo_none, wr_none⟩) (fun h => by cases h) follows_ (fun _ _ => trivial)
end FN
set_option linter.unusedVariables false
namespace FN
open Go Go.Proofs
/-! loop.example/firingnets/laws.heldIntS -/
@[reducible] def w_heldIntS_sig : Sig := { ps := [none, none], pc := [.view .i64, .int .i64], rs := [none], rc := [.int .i64] }
noncomputable def w_heldIntS_E : Env' := { fn := fun f => none, ck := ckT, cuts := [(2, [0, 1, 5])], mine := fun i => false }
noncomputable def w_heldIntS_f (x : Ts w_heldIntS_sig.pc) : Option (Ts w_heldIntS_sig.rc) := runFn Tryd.prog (w_heldIntS_E) Tryd.f83 w_heldIntS_sig x
noncomputable def w_heldIntS_l0 (y0 : List (Int)) (y1 : Int) (y2 : Int) : Option ((Int)) := from_ Tryd.prog (w_heldIntS_E) Tryd.f83 w_heldIntS_sig [1, 0, 1, 0] ⟨mkT 21 [(0, .row false .i64 y0), (1, .int .i64 y1), (5, .int .i64 y2)], []⟩
theorem w_heldIntS_f_eq (x0 : (List (Int))) (x1 : (Int)) : w_heldIntS_f (x0, x1) = (w_heldIntS_l0 x0 x1 0) := by
  kernel_rfl
theorem w_heldIntS_l0_eq (y0 : List (Int)) (y1 : Int) (y2 : Int) : w_heldIntS_l0 y0 y1 y2 = (cond ((decide (y2 < (List.length y0 : Int)))) (if (0 : Int) ≤ y2 ∧ y2 < (List.length y0 : Int) then (cond (((List.getD y0 (y2 : Int).toNat 0) != y1)) (some (-1)) (w_heldIntS_l0 y0 (IntKind.i64.wrap (y1 + 1)) (IntKind.i64.wrap (y2 + 1)))) else none) (some y1)) := by
  refine (loopK_eq Tryd.prog (w_heldIntS_E) (sub (Tryd.f83.body.getD .skip) [1, 0, 1, 0, 0]) _ _).trans ?_
  kernel_rfl
theorem w_heldIntS_ent : Entb Tryd.prog 83 := ⟨Tryd.f83, by kernel_rfl, by kernel_rfl, by kernel_rfl⟩
theorem w_heldIntS_ok : CtrOk Tryd.prog 83 ⟨w_heldIntS_sig, w_heldIntS_f⟩ :=
  ctr_of (fn := Tryd.f83) (by kernel_rfl) (by kernel_rfl) (fun x : Ts w_heldIntS_sig.pc => w_heldIntS_E) (fun x => ⟨fn_none, clo_none, wr_none⟩) (fun h => by cases h) follows_ (fun _ _ => trivial)
end FN
set_option linter.unusedVariables false
namespace FN
open Go Go.Proofs
/-! loop.example/firingnets/laws.heldPlace -/
@[reducible] def w_heldPlace_sig : Sig := { ps := [some 3, none], pc := [.view .i64, .int .i64, .view .i64, .int .i64], rs := [none], rc := [.int .i64] }
noncomputable def w_heldPlace_E : Env' := { fn := fun f => if f = 83 then some ⟨w_heldIntS_sig, w_heldIntS_f⟩ else none, ck := ckT, cuts := [], mine := fun i => false }
noncomputable def w_heldPlace_f (x : Ts w_heldPlace_sig.pc) : Option (Ts w_heldPlace_sig.rc) := runFn Tryd.prog (w_heldPlace_E) Tryd.f52 w_heldPlace_sig x
theorem w_heldPlace_f_eq (x0 : (List (Int))) (x1 : (Int)) (x2 : (List (Int))) (x3 : (Int)) : w_heldPlace_f (x0, x1, x2, x3) = (Option.bind (w_heldIntS_f (x0, x3)) fun r1 => (cond ((decide (r1 < 0))) (some (-1)) (Option.bind (w_heldIntS_f (x2, r1)) fun r2 => (cond ((decide (r2 < 0))) (some (-1)) (some r2))))) := by
  kernel_rfl
theorem w_heldPlace_ent : Entb Tryd.prog 52 := ⟨Tryd.f52, by kernel_rfl, by kernel_rfl, by kernel_rfl⟩
theorem w_heldPlace_ok : CtrOk Tryd.prog 52 ⟨w_heldPlace_sig, w_heldPlace_f⟩ :=
  ctr_of (fn := Tryd.f52) (by kernel_rfl) (by kernel_rfl) (fun x : Ts w_heldPlace_sig.pc => w_heldPlace_E) (fun x => ⟨(fn_cons ⟨w_heldIntS_ok, w_heldIntS_ent⟩ fn_none), clo_none, wr_none⟩) (fun h => by cases h) follows_ (fun _ _ => trivial)
end FN
set_option linter.unusedVariables false
namespace FN
open Go Go.Proofs
/-! loop.example/firingnets/laws.szPlaceS -/
@[reducible] def w_szPlaceS_sig : Sig := { ps := [none, none], pc := [.view .place, .int .i64], rs := [none], rc := [.int .i64] }
noncomputable def w_szPlaceS_E : Env' := { fn := fun f => if f = 34 then some ⟨w_szPlace_sig, w_szPlace_f⟩ else none, ck := ckT, cuts := [(5, [0, 1, 5])], mine := fun i => false }
noncomputable def w_szPlaceS_f (x : Ts w_szPlaceS_sig.pc) : Option (Ts w_szPlaceS_sig.rc) := runFn Tryd.prog (w_szPlaceS_E) Tryd.f35 w_szPlaceS_sig x
noncomputable def w_szPlaceS_l0 (y0 : List (List Int × Int × List Int)) (y1 : Int) (y2 : Int) : Option ((Int)) := from_ Tryd.prog (w_szPlaceS_E) Tryd.f35 w_szPlaceS_sig [1, 1, 1, 0, 1, 0] ⟨mkT 27 [(0, .row false .place y0), (1, .int .i64 y1), (5, .int .i64 y2)], []⟩
theorem w_szPlaceS_f_eq (x0 : (List (List Int × Int × List Int))) (x1 : (Int)) : w_szPlaceS_f (x0, x1) = (cond ((decide ((IntKind.i64.wrap (x1 - (List.length x0 : Int))) < 0))) (some (-1)) (w_szPlaceS_l0 x0 (IntKind.i64.wrap (x1 - (List.length x0 : Int))) 0)) := by
  kernel_rfl
theorem w_szPlaceS_l0_eq (y0 : List (List Int × Int × List Int)) (y1 : Int) (y2 : Int) : w_szPlaceS_l0 y0 y1 y2 = (cond ((decide (y2 < (List.length y0 : Int)))) (if (0 : Int) ≤ y2 ∧ y2 < (List.length y0 : Int) then (Option.bind (w_szPlace_f ((List.getD y0 (y2 : Int).toNat ([], 0, [])).1, (List.getD y0 (y2 : Int).toNat ([], 0, [])).2.1, (List.getD y0 (y2 : Int).toNat ([], 0, [])).2.2, y1)) fun r1 => (cond ((decide (r1 < 0))) (some (-1)) (w_szPlaceS_l0 y0 r1 (IntKind.i64.wrap (y2 + 1))))) else none) (some y1)) := by
  refine (loopK_eq Tryd.prog (w_szPlaceS_E) (sub (Tryd.f35.body.getD .skip) [1, 1, 1, 0, 1, 0, 0]) _ _).trans ?_
  kernel_rfl
theorem w_szPlaceS_ent : Entb Tryd.prog 35 := ⟨Tryd.f35, by kernel_rfl, by kernel_rfl, by kernel_rfl⟩
theorem w_szPlaceS_ok : CtrOk Tryd.prog 35 ⟨w_szPlaceS_sig, w_szPlaceS_f⟩ :=
  ctr_of (fn := Tryd.f35) (by kernel_rfl) (by kernel_rfl) (fun x : Ts w_szPlaceS_sig.pc => w_szPlaceS_E) (fun x => ⟨(fn_cons ⟨w_szPlace_ok, w_szPlace_ent⟩ fn_none), clo_none, wr_none⟩) (fun h => by cases h) follows_ (fun _ _ => trivial)
end FN
set_option linter.unusedVariables false
namespace FN
open Go Go.Proofs
/-! loop.example/firingnets/laws.szDesk -/
@[reducible] def w_szDesk_sig : Sig := { ps := [some 4, none], pc := [.view .i64, .int .i64, .view .i64, .view .place, .int .i64], rs := [none], rc := [.int .i64] }
noncomputable def w_szDesk_E : Env' := { fn := fun f => if f = 34 then some ⟨w_szPlace_sig, w_szPlace_f⟩ else if f = 35 then some ⟨w_szPlaceS_sig, w_szPlaceS_f⟩ else none, ck := ckT, cuts := [], mine := fun i => false }
noncomputable def w_szDesk_f (x : Ts w_szDesk_sig.pc) : Option (Ts w_szDesk_sig.rc) := runFn Tryd.prog (w_szDesk_E) Tryd.f8 w_szDesk_sig x
theorem w_szDesk_f_eq (x0 : (List (Int))) (x1 : (Int)) (x2 : (List (Int))) (x3 : (List (List Int × Int × List Int))) (x4 : (Int)) : w_szDesk_f (x0, x1, x2, x3, x4) = (Option.bind (w_szPlace_f (x0, x1, x2, x4)) fun r1 => (cond ((decide (r1 < 0))) (some (-1)) (Option.bind (w_szPlaceS_f (x3, r1)) fun r2 => (cond ((decide (r2 < 0))) (some (-1)) (some r2))))) := by
  kernel_rfl
theorem w_szDesk_ent : Entb Tryd.prog 8 := ⟨Tryd.f8, by kernel_rfl, by kernel_rfl, by kernel_rfl⟩
theorem w_szDesk_ok : CtrOk Tryd.prog 8 ⟨w_szDesk_sig, w_szDesk_f⟩ :=
  ctr_of (fn := Tryd.f8) (by kernel_rfl) (by kernel_rfl) (fun x : Ts w_szDesk_sig.pc => w_szDesk_E) (fun x => ⟨(fn_cons ⟨w_szPlace_ok, w_szPlace_ent⟩ (fn_cons ⟨w_szPlaceS_ok, w_szPlaceS_ent⟩ fn_none)), clo_none, wr_none⟩) (fun h => by cases h) follows_ (fun _ _ => trivial)
end FN
set_option linter.unusedVariables false
namespace FN
open Go Go.Proofs
/-! loop.example/firingnets/laws.toPlaceS -/
@[reducible] def w_toPlaceS_sig : Sig := { ps := [none], pc := [.view .place], rs := [none], rc := [.drow true 31 3] }
noncomputable def w_toPlaceS_E : Env' := { fn := fun f => if f = 40 then some ⟨w_toPlace_sig, w_toPlace_f⟩ else none, ck := ckT, cuts := [(3, [0, 3, 4])], mine := fun i => i == 7 || i == 20 }
noncomputable def w_toPlaceS_f (x : Ts w_toPlaceS_sig.pc) : Option (Ts w_toPlaceS_sig.rc) := runFn Tryd.prog (w_toPlaceS_E) Tryd.f41 w_toPlaceS_sig x
noncomputable def w_toPlaceS_l0 (y0 : List (List Int × Int × List Int)) (y1 : Int) (y2 : List (List Int × Int × List Int)) : Option ((List (List Int × Int × List Int))) := from_ Tryd.prog (w_toPlaceS_E) Tryd.f41 w_toPlaceS_sig [1, 1, 0, 1, 0] ⟨mkT 23 [(0, .row false .place y0), (3, .own 0), (4, .int .i64 y1)], [some (.dp true 31 3 y2)]⟩
theorem w_toPlaceS_f_eq (x0 : (List (List Int × Int × List Int))) : w_toPlaceS_f x0 = (if (0 : Int) ≤ (List.length x0 : Int) ∧ (List.length x0 : Int) * 56 ≤ 140737488355328 ∧ (List.length x0 : Int) ≤ 140737488355328 then (w_toPlaceS_l0 x0 0 (List.replicate ((List.length x0 : Int) : Int).toNat ([], 0, []) : List (List Int × Int × List Int))) else none) := by
  kernel_rfl
theorem w_toPlaceS_l0_eq (y0 : List (List Int × Int × List Int)) (y1 : Int) (y2 : List (List Int × Int × List Int)) : w_toPlaceS_l0 y0 y1 y2 = (cond ((decide (y1 < (List.length y0 : Int)))) (if (0 : Int) ≤ y1 ∧ y1 < (List.length y0 : Int) then (Option.bind (w_toPlace_f ((List.getD y0 (y1 : Int).toNat ([], 0, [])).1, (List.getD y0 (y1 : Int).toNat ([], 0, [])).2.1, (List.getD y0 (y1 : Int).toNat ([], 0, [])).2.2)) fun r1 => (if (0 : Int) ≤ y1 ∧ y1 < (List.length y2 : Int) then (w_toPlaceS_l0 y0 (IntKind.i64.wrap (y1 + 1)) (List.set y2 (y1 : Int).toNat (r1.1, r1.2.1, r1.2.2))) else none)) else none) (some y2)) := by
  refine (loopK_eq Tryd.prog (w_toPlaceS_E) (sub (Tryd.f41.body.getD .skip) [1, 1, 0, 1, 0, 0]) _ _).trans ?_
  kernel_rfl
theorem w_toPlaceS_ent : Entb Tryd.prog 41 := ⟨Tryd.f41, by kernel_rfl, by kernel_rfl, by kernel_rfl⟩
theorem w_toPlaceS_ok : CtrOk Tryd.prog 41 ⟨w_toPlaceS_sig, w_toPlaceS_f⟩ :=
  ctr_of (fn := Tryd.f41) (by kernel_rfl) (by kernel_rfl) (fun x : Ts w_toPlaceS_sig.pc => w_toPlaceS_E) (fun x => ⟨(fn_cons ⟨w_toPlace_ok, w_toPlace_ent⟩ fn_none), clo_none, wr_none⟩) (fun h => by cases h) follows_ (fun _ _ => trivial)
end FN
set_option linter.unusedVariables false
namespace FN
open Go Go.Proofs
/-! loop.example/firingnets/laws.toDesk -/
@[reducible] def w_toDesk_sig : Sig := { ps := [some 4], pc := [.view .i64, .int .i64, .view .i64, .view .place], rs := [some 4], rc := [.row 3 .i64, .int .i64, .row 3 .i64, .drow true 31 3] }
noncomputable def w_toDesk_E : Env' := { fn := fun f => if f = 40 then some ⟨w_toPlace_sig, w_toPlace_f⟩ else if f = 41 then some ⟨w_toPlaceS_sig, w_toPlaceS_f⟩ else none, ck := ckT, cuts := [], mine := fun i => i == 6 || i == 10 }
noncomputable def w_toDesk_f (x : Ts w_toDesk_sig.pc) : Option (Ts w_toDesk_sig.rc) := runFn Tryd.prog (w_toDesk_E) Tryd.f10 w_toDesk_sig x
theorem w_toDesk_f_eq (x0 : (List (Int))) (x1 : (Int)) (x2 : (List (Int))) (x3 : (List (List Int × Int × List Int))) : w_toDesk_f (x0, x1, x2, x3) = (Option.bind (w_toPlace_f (x0, x1, x2)) fun r1 => (Option.bind (w_toPlaceS_f x3) fun r2 => (some (r1.1, r1.2.1, r1.2.2, r2)))) := by
  kernel_rfl
theorem w_toDesk_ent : Entb Tryd.prog 10 := ⟨Tryd.f10, by kernel_rfl, by kernel_rfl, by kernel_rfl⟩
theorem w_toDesk_ok : CtrOk Tryd.prog 10 ⟨w_toDesk_sig, w_toDesk_f⟩ :=
  ctr_of (fn := Tryd.f10) (by kernel_rfl) (by kernel_rfl) (fun x : Ts w_toDesk_sig.pc => w_toDesk_E) (fun x => ⟨(fn_cons ⟨w_toPlace_ok, w_toPlace_ent⟩ (fn_cons ⟨w_toPlaceS_ok, w_toPlaceS_ent⟩ fn_none)), clo_none, wr_none⟩) (fun h => by cases h) follows_ (fun _ _ => trivial)
end FN
set_option linter.unusedVariables false
namespace FN
open Go Go.Proofs
/-! loop.example/firingnets/laws.eqPlaceS -/
@[reducible] def w_eqPlaceS_sig : Sig := { ps := [none, none], pc := [.view .place, .view .place], rs := [none], rc := [.bool] }
noncomputable def w_eqPlaceS_E : Env' := { fn := fun f => if f = 48 then some ⟨w_eqPlace_sig, w_eqPlace_f⟩ else none, ck := ckT, cuts := [(4, [0, 1, 5])], mine := fun i => false }
noncomputable def w_eqPlaceS_f (x : Ts w_eqPlaceS_sig.pc) : Option (Ts w_eqPlaceS_sig.rc) := runFn Tryd.prog (w_eqPlaceS_E) Tryd.f49 w_eqPlaceS_sig x
noncomputable def w_eqPlaceS_l0 (y0 : List (List Int × Int × List Int)) (y1 : List (List Int × Int × List Int)) (y2 : Int) : Option ((Bool)) := from_ Tryd.prog (w_eqPlaceS_E) Tryd.f49 w_eqPlaceS_sig [1, 1, 0, 1, 0] ⟨mkT 27 [(0, .row false .place y0), (1, .row false .place y1), (5, .int .i64 y2)], []⟩
theorem w_eqPlaceS_f_eq (x0 : (List (List Int × Int × List Int))) (x1 : (List (List Int × Int × List Int))) : w_eqPlaceS_f (x0, x1) = (cond (((List.length x0 : Int) != (List.length x1 : Int))) (some false) (w_eqPlaceS_l0 x0 x1 0)) := by
  kernel_rfl
theorem w_eqPlaceS_l0_eq (y0 : List (List Int × Int × List Int)) (y1 : List (List Int × Int × List Int)) (y2 : Int) : w_eqPlaceS_l0 y0 y1 y2 = (cond ((decide (y2 < (List.length y0 : Int)))) (if (0 : Int) ≤ y2 ∧ y2 < (List.length y0 : Int) then (if (0 : Int) ≤ y2 ∧ y2 < (List.length y1 : Int) then (Option.bind (w_eqPlace_f ((List.getD y0 (y2 : Int).toNat ([], 0, [])).1, (List.getD y0 (y2 : Int).toNat ([], 0, [])).2.1, (List.getD y0 (y2 : Int).toNat ([], 0, [])).2.2, (List.getD y1 (y2 : Int).toNat ([], 0, [])).1, (List.getD y1 (y2 : Int).toNat ([], 0, [])).2.1, (List.getD y1 (y2 : Int).toNat ([], 0, [])).2.2)) fun r1 => (cond ((!r1)) (some false) (w_eqPlaceS_l0 y0 y1 (IntKind.i64.wrap (y2 + 1))))) else none) else none) (some true)) := by
  refine (loopK_eq Tryd.prog (w_eqPlaceS_E) (sub (Tryd.f49.body.getD .skip) [1, 1, 0, 1, 0, 0]) _ _).trans ?_
  kernel_rfl
theorem w_eqPlaceS_ent : Entb Tryd.prog 49 := ⟨Tryd.f49, by kernel_rfl, by kernel_rfl, by kernel_rfl⟩
theorem w_eqPlaceS_ok : CtrOk Tryd.prog 49 ⟨w_eqPlaceS_sig, w_eqPlaceS_f⟩ :=
  ctr_of (fn := Tryd.f49) (by kernel_rfl) (by kernel_rfl) (fun x : Ts w_eqPlaceS_sig.pc => w_eqPlaceS_E) (fun x => ⟨(fn_cons ⟨w_eqPlace_ok, w_eqPlace_ent⟩ fn_none), clo_none, wr_none⟩) (fun h => by cases h) follows_ (fun _ _ => trivial)
end FN
set_option linter.unusedVariables false
namespace FN
open Go Go.Proofs
/-! loop.example/firingnets/laws.eqDesk -/
@[reducible] def w_eqDesk_sig : Sig := { ps := [some 4, some 4], pc := [.view .i64, .int .i64, .view .i64, .view .place, .view .i64, .int .i64, .view .i64, .view .place], rs := [none], rc := [.bool] }
noncomputable def w_eqDesk_E : Env' := { fn := fun f => if f = 48 then some ⟨w_eqPlace_sig, w_eqPlace_f⟩ else if f = 49 then some ⟨w_eqPlaceS_sig, w_eqPlaceS_f⟩ else none, ck := ckT, cuts := [], mine := fun i => false }
noncomputable def w_eqDesk_f (x : Ts w_eqDesk_sig.pc) : Option (Ts w_eqDesk_sig.rc) := runFn Tryd.prog (w_eqDesk_E) Tryd.f13 w_eqDesk_sig x
theorem w_eqDesk_f_eq (x0 : (List (Int))) (x1 : (Int)) (x2 : (List (Int))) (x3 : (List (List Int × Int × List Int))) (x4 : (List (Int))) (x5 : (Int)) (x6 : (List (Int))) (x7 : (List (List Int × Int × List Int))) : w_eqDesk_f (x0, x1, x2, x3, x4, x5, x6, x7) = (Option.bind (w_eqPlace_f (x0, x1, x2, x4, x5, x6)) fun r1 => (cond ((!r1)) (some false) (Option.bind (w_eqPlaceS_f (x3, x7)) fun r2 => (cond ((!r2)) (some false) (some true))))) := by
  kernel_rfl
theorem w_eqDesk_ent : Entb Tryd.prog 13 := ⟨Tryd.f13, by kernel_rfl, by kernel_rfl, by kernel_rfl⟩
theorem w_eqDesk_ok : CtrOk Tryd.prog 13 ⟨w_eqDesk_sig, w_eqDesk_f⟩ :=
  ctr_of (fn := Tryd.f13) (by kernel_rfl) (by kernel_rfl) (fun x : Ts w_eqDesk_sig.pc => w_eqDesk_E) (fun x => ⟨(fn_cons ⟨w_eqPlace_ok, w_eqPlace_ent⟩ (fn_cons ⟨w_eqPlaceS_ok, w_eqPlaceS_ent⟩ fn_none)), clo_none, wr_none⟩) (fun h => by cases h) follows_ (fun _ _ => trivial)
end FN
set_option linter.unusedVariables false
namespace FN
open Go Go.Proofs
/-! loop.example/firingnets/laws.heldPlaceS -/
@[reducible] def w_heldPlaceS_sig : Sig := { ps := [none, none], pc := [.view .place, .int .i64], rs := [none], rc := [.int .i64] }
noncomputable def w_heldPlaceS_E : Env' := { fn := fun f => if f = 83 then some ⟨w_heldIntS_sig, w_heldIntS_f⟩ else none, ck := ckT, cuts := [(2, [0, 1, 5])], mine := fun i => false }
noncomputable def w_heldPlaceS_f (x : Ts w_heldPlaceS_sig.pc) : Option (Ts w_heldPlaceS_sig.rc) := runFn Tryd.prog (w_heldPlaceS_E) Tryd.f53 w_heldPlaceS_sig x
noncomputable def w_heldPlaceS_l0 (y0 : List (List Int × Int × List Int)) (y1 : Int) (y2 : Int) : Option ((Int)) := from_ Tryd.prog (w_heldPlaceS_E) Tryd.f53 w_heldPlaceS_sig [1, 0, 1, 0] ⟨mkT 40 [(0, .row false .place y0), (1, .int .i64 y1), (5, .int .i64 y2)], []⟩
theorem w_heldPlaceS_f_eq (x0 : (List (List Int × Int × List Int))) (x1 : (Int)) : w_heldPlaceS_f (x0, x1) = (w_heldPlaceS_l0 x0 x1 0) := by
  kernel_rfl
theorem w_heldPlaceS_l0_eq (y0 : List (List Int × Int × List Int)) (y1 : Int) (y2 : Int) : w_heldPlaceS_l0 y0 y1 y2 = (cond ((decide (y2 < (List.length y0 : Int)))) (if (0 : Int) ≤ y2 ∧ y2 < (List.length y0 : Int) then (Option.bind (w_heldIntS_f ((List.getD y0 (y2 : Int).toNat ([], 0, [])).1, y1)) fun r1 => (cond ((decide (r1 < 0))) (some (-1)) (if (0 : Int) ≤ y2 ∧ y2 < (List.length y0 : Int) then (cond (((List.getD y0 (y2 : Int).toNat ([], 0, [])).2.1 != r1)) (some (-1)) (if (0 : Int) ≤ y2 ∧ y2 < (List.length y0 : Int) then (Option.bind (w_heldIntS_f ((List.getD y0 (y2 : Int).toNat ([], 0, [])).2.2, (IntKind.i64.wrap (r1 + 1)))) fun r2 => (cond ((decide (r2 < 0))) (some (-1)) (w_heldPlaceS_l0 y0 r2 (IntKind.i64.wrap (y2 + 1))))) else none)) else none))) else none) (some y1)) := by
  refine (loopK_eq Tryd.prog (w_heldPlaceS_E) (sub (Tryd.f53.body.getD .skip) [1, 0, 1, 0, 0]) _ _).trans ?_
  kernel_rfl
theorem w_heldPlaceS_ent : Entb Tryd.prog 53 := ⟨Tryd.f53, by kernel_rfl, by kernel_rfl, by kernel_rfl⟩
theorem w_heldPlaceS_ok : CtrOk Tryd.prog 53 ⟨w_heldPlaceS_sig, w_heldPlaceS_f⟩ :=
  ctr_of (fn := Tryd.f53) (by kernel_rfl) (by kernel_rfl) (fun x : Ts w_heldPlaceS_sig.pc => w_heldPlaceS_E) (fun x => ⟨(fn_cons ⟨w_heldIntS_ok, w_heldIntS_ent⟩ fn_none), clo_none, wr_none⟩) (fun h => by cases h) follows_ (fun _ _ => trivial)
end FN
set_option linter.unusedVariables false
namespace FN
open Go Go.Proofs
/-! loop.example/firingnets/laws.heldDesk -/
@[reducible] def w_heldDesk_sig : Sig := { ps := [some 4, none], pc := [.view .i64, .int .i64, .view .i64, .view .place, .int .i64], rs := [none], rc := [.int .i64] }
noncomputable def w_heldDesk_E : Env' := { fn := fun f => if f = 52 then some ⟨w_heldPlace_sig, w_heldPlace_f⟩ else if f = 53 then some ⟨w_heldPlaceS_sig, w_heldPlaceS_f⟩ else none, ck := ckT, cuts := [], mine := fun i => false }
noncomputable def w_heldDesk_f (x : Ts w_heldDesk_sig.pc) : Option (Ts w_heldDesk_sig.rc) := runFn Tryd.prog (w_heldDesk_E) Tryd.f15 w_heldDesk_sig x
theorem w_heldDesk_f_eq (x0 : (List (Int))) (x1 : (Int)) (x2 : (List (Int))) (x3 : (List (List Int × Int × List Int))) (x4 : (Int)) : w_heldDesk_f (x0, x1, x2, x3, x4) = (Option.bind (w_heldPlace_f (x0, x1, x2, x4)) fun r1 => (cond ((decide (r1 < 0))) (some (-1)) (Option.bind (w_heldPlaceS_f (x3, r1)) fun r2 => (cond ((decide (r2 < 0))) (some (-1)) (some r2))))) := by
  kernel_rfl
theorem w_heldDesk_ent : Entb Tryd.prog 15 := ⟨Tryd.f15, by kernel_rfl, by kernel_rfl, by kernel_rfl⟩
theorem w_heldDesk_ok : CtrOk Tryd.prog 15 ⟨w_heldDesk_sig, w_heldDesk_f⟩ :=
  ctr_of (fn := Tryd.f15) (by kernel_rfl) (by kernel_rfl) (fun x : Ts w_heldDesk_sig.pc => w_heldDesk_E) (fun x => ⟨(fn_cons ⟨w_heldPlace_ok, w_heldPlace_ent⟩ (fn_cons ⟨w_heldPlaceS_ok, w_heldPlaceS_ent⟩ fn_none)), clo_none, wr_none⟩) (fun h => by cases h) follows_ (fun _ _ => trivial)
end FN
set_option linter.unusedVariables false
namespace FN
open Go Go.Proofs
/-! loop.example/firingnets/laws.toDeed -/
@[reducible] def w_toDeed_sig : Sig := { ps := [some 3], pc := [.int .i64, .int .i64, .int .i64], rs := [some 3], rc := [.int .i64, .int .i64, .int .i64] }
noncomputable def w_toDeed_E : Env' := { fn := fun f => none, ck := ckT, cuts := [], mine := fun i => false }
noncomputable def w_toDeed_f (x : Ts w_toDeed_sig.pc) : Option (Ts w_toDeed_sig.rc) := runFn Tryd.prog (w_toDeed_E) Tryd.f11 w_toDeed_sig x
theorem w_toDeed_f_eq (x0 : (Int)) (x1 : (Int)) (x2 : (Int)) : w_toDeed_f (x0, x1, x2) = (some (x0, x1, x2)) := by
  kernel_rfl
theorem w_toDeed_ent : Entb Tryd.prog 11 := ⟨Tryd.f11, by kernel_rfl, by kernel_rfl, by kernel_rfl⟩
theorem w_toDeed_ok : CtrOk Tryd.prog 11 ⟨w_toDeed_sig, w_toDeed_f⟩ :=
  ctr_of (fn := Tryd.f11) (by kernel_rfl) (by kernel_rfl) (fun x : Ts w_toDeed_sig.pc => w_toDeed_E) (fun x => ⟨fn_none, clo_none, wr_none⟩) (fun h => by cases h) follows_ (fun _ _ => trivial)
end FN
/-! What writes one number behind the other into a row. -/
namespace FN
open Go Go.Proofs
noncomputable def E0 : Env' := { fn := fun _ => none, ck := ckT, cuts := [], mine := fun _ => false }
theorem E0c : E0.cuts = [] := rfl
theorem E0_ok : EnvOk Tryd.prog E0 := ⟨fn_none, clo_none, wr_none⟩
noncomputable def mB : Code := sub (Tryd.f82.body.getD .skip) [1, 0, 1, 0, 0]
theorem m_el : elemT Tryd.prog 22 = some 3 := by kernel_rfl
theorem m_sz : szOf Tryd.prog 3 = 1 := by kernel_rfl
theorem m_info : (Tryd.prog.info? 3).isSome = true := by kernel_rfl
section
variable {R : Type} {id : Nat} {e : TypeId} {f : Bool}
theorem m_store {h : Hp} {xs : List Int} (hg : h.get id = some (.arr e f .i64 xs)) (n : Nat) (k : Int) (K : Hp → Option R) :
    storeK Tryd.prog 3 (.ep id .i64 n 0) (.int .i64 k) h K = K (h.set id (some (.arr e f .i64 (xs.set n k)))) := by
  simp only [storeK, cellsOf, frzs, frz, hg, m_sz, m_info]
  simp [CK.sz, oneP, CK.flds, decE]
theorem m_iter {h : Hp} {xs : List Int} (hg : h.get id = some (.arr e f .i64 xs)) (hl : xs.length ≤ 4611686018427387904) {i k : Int} (hi : 0 ≤ i) (hi' : i ≤ xs.length) (hk : 0 ≤ k) (hk' : k ≤ 4611686018427387904) (a2 a3 a4 a6 a7 a8 a9 a10 a11 a12 a13 a14 a15 a16 a17 a18 : PV) (K : AX → St → Option R) :
    exCode Tryd.prog E0 mB ⟨[.own id, .int .i64 k, a2, a3, a4, .int .i64 i, a6, a7, a8, a9, a10, a11, a12, a13, a14, a15, a16, a17, a18], h⟩ K =
      if i < xs.length then K .norm ⟨[.own id, .int .i64 (k + 1), a2, a3, a4, .int .i64 (i + 1), .int .i64 i, .own id, .int .i64 xs.length, .bool true, .int .i64 i, .int .i64 (i + 1), .own id, .int .i64 i, .int .i64 k, .ep id .i64 i.toNat 0, .int .i64 k, .int .i64 (k + 1), a18], h.set id (some (.arr e f .i64 (xs.set i.toNat k)))⟩
      else K (.ex 0) ⟨[.own id, .int .i64 k, a2, a3, a4, .int .i64 i, .int .i64 i, .own id, .int .i64 xs.length, .bool false, a10, a11, a12, a13, a14, a15, a16, a17, a18], h⟩ := by
  have w1 : IntKind.i64.wrap (k + 1) = k + 1 := by simp [IntKind.wrap, IntKind.bits, IntKind.signed]; split <;> omega
  have w2 : IntKind.i64.wrap (i + 1) = i + 1 := by simp [IntKind.wrap, IntKind.bits, IntKind.signed]; split <;> omega
  simp only [mB, sub, Tryd.f82, Option.getD_some, exCode, cutS0 E0c]
  simp only [regOrd, Bool.false_eq_true, if_false, exOps, opK, ev, ofVal, List.getD_cons_zero, List.getD_cons_succ, putT, List.set_cons_zero, List.set_cons_succ]
  simp only [lenK, hg, m_el, Option.isSome_some, if_true, binK]
  by_cases c : i < xs.length
  · rw [if_pos c]
    simp only [decide_eq_true c, cond_true, m_sz, CK.sz, if_true]
    rw [if_pos ⟨hi, c⟩, m_store hg]
    simp only [w1, w2]
  · rw [if_neg c]
    simp only [decide_eq_false c, cond_false]
theorem get_set {h : Hp} {b b' : Blk} (hg : h.get id = some b) : Hp.get (h.set id (some b')) id = some b' := by
  have hl : id < h.length := by
    rcases Nat.lt_or_ge id h.length with hh | hh
    · exact hh
    · simp [Hp.get, List.getElem?_eq_none hh] at hg
  simp [Hp.get, hl]
theorem hset_same {h : Hp} {b : Blk} (hg : h.get id = some b) : h.set id (some b) = h := by
  apply List.ext_getElem?
  intro j
  rw [List.getElem?_set]
  split
  · rename_i e
    subst e
    split
    · rename_i hl
      simp only [Hp.get] at hg
      rw [List.getElem?_eq_getElem hl] at hg ⊢
      simp only [Option.getD_some] at hg
      rw [hg]
    · rename_i hl
      rw [List.getElem?_eq_none (by omega)]
  · rfl
theorem m_loop (r : Option R) (K : AX → St → Option R) : ∀ (n : Nat) {h : Hp} {xs : List Int} (_ : h.get id = some (.arr e f .i64 xs)) (_ : xs.length ≤ 4611686018427387904) {i k : Int} (_ : 0 ≤ i) (_ : i + n = xs.length) (_ : 0 ≤ k) (_ : k + n ≤ 4611686018427387904) (a2 a3 a4 a6 a7 a8 a9 a10 a11 a12 a13 a14 a15 a16 a17 a18 : PV),
    (∀ c6 c7 c8 c9 c10 c11 c12 c13 c14 c15 c16 c17 : PV, K (.ex 0) ⟨[.own id, .int .i64 (k + n), a2, a3, a4, .int .i64 (i + n), c6, c7, c8, c9, c10, c11, c12, c13, c14, c15, c16, c17, a18], h.set id (some (.arr e f .i64 (xs.take i.toNat ++ markL k (xs.drop i.toNat))))⟩ = r) →
    loopK E0 (exCode Tryd.prog E0 mB) mB ⟨[.own id, .int .i64 k, a2, a3, a4, .int .i64 i, a6, a7, a8, a9, a10, a11, a12, a13, a14, a15, a16, a17, a18], h⟩ K = r := by
  intro n
  induction n with
  | zero =>
    intro h xs hg hl i k hi hn hk hk' a2 a3 a4 a6 a7 a8 a9 a10 a11 a12 a13 a14 a15 a16 a17 a18 hr
    rw [loopK_eq, m_iter hg hl hi (by omega) hk (by omega), if_neg (by omega)]
    simp only
    have e1 : xs.take i.toNat ++ markL k (xs.drop i.toNat) = xs := by
      rw [List.drop_eq_nil_of_le (by omega), List.take_of_length_le (by omega)]
      simp [markL]
    rw [e1, hset_same hg] at hr
    have := hr (.int .i64 i) (.own id) (.int .i64 xs.length) (.bool false) a10 a11 a12 a13 a14 a15 a16 a17
    simpa using this
  | succ n ih =>
    intro h xs hg hl i k hi hn hk hk' a2 a3 a4 a6 a7 a8 a9 a10 a11 a12 a13 a14 a15 a16 a17 a18 hr
    rw [loopK_eq, m_iter hg hl hi (by omega) hk (by omega), if_pos (by omega)]
    simp only
    rw [cutK0 E0c]
    refine ih (get_set hg) (by rw [List.length_set]; exact hl) (by omega) (by rw [List.length_set]; omega) (by omega) (by omega) a2 a3 a4 _ _ _ _ _ _ _ _ _ _ _ _ a18 fun c6 c7 c8 c9 c10 c11 c12 c13 c14 c15 c16 c17 => ?_
    have := hr c6 c7 c8 c9 c10 c11 c12 c13 c14 c15 c16 c17
    rw [List.set_set]
    have hlt : i.toNat < xs.length := by omega
    have e1 : (xs.set i.toNat k).take (i + 1).toNat ++ markL (k + 1) ((xs.set i.toNat k).drop (i + 1).toNat) = xs.take i.toNat ++ markL k (xs.drop i.toNat) := by
      rw [show (i + 1).toNat = i.toNat + 1 by omega, List.drop_eq_getElem_cons hlt, markL, List.take_succ_eq_append_getElem (by simpa using hlt), List.append_assoc]
      congr 1
      · rw [List.take_set_of_le (Nat.le_refl _)]
      · rw [List.getElem_set_self, List.drop_set_of_lt (Nat.lt_succ_self _)]
        rfl
    rw [e1, show k + 1 + (n : Int) = k + ((n + 1 : Nat) : Int) by omega, show i + 1 + (n : Int) = i + ((n + 1 : Nat) : Int) by omega]
    exact this
end
noncomputable def mR0 : Code := sub (Tryd.f82.body.getD .skip) [0]
noncomputable def mR1 : Code := sub (Tryd.f82.body.getD .skip) [1, 0, 0]
noncomputable def mR6 : Code := sub (Tryd.f82.body.getD .skip) [1, 1, 0]
theorem m_body : Tryd.f82.body.getD .skip = .seq mR0 (.seq (.seq mR1 (.block 0 (.loop mB))) (.seq mR6 .ret)) := by kernel_rfl
theorem m_r0 {R : Type} (p0 p1 p2 p3 p4 p5 p6 p7 p8 p9 p10 p11 p12 p13 p14 p15 p16 p17 p18 : PV) (h : Hp) (K : AX → St → Option R) :
    exCode Tryd.prog E0 mR0 ⟨[p0, p1, p2, p3, p4, p5, p6, p7, p8, p9, p10, p11, p12, p13, p14, p15, p16, p17, p18], h⟩ K = K .norm ⟨[p0, p1, p2, p3, .int .i64 0, p5, p6, p7, p8, p9, p10, p11, p12, p13, p14, p15, p16, p17, p18], h⟩ := by kernel_rfl
theorem m_r1 {R : Type} (p0 p1 p2 p3 p4 p5 p6 p7 p8 p9 p10 p11 p12 p13 p14 p15 p16 p17 p18 : PV) (h : Hp) (K : AX → St → Option R) :
    exCode Tryd.prog E0 mR1 ⟨[p0, p1, p2, p3, p4, p5, p6, p7, p8, p9, p10, p11, p12, p13, p14, p15, p16, p17, p18], h⟩ K = K .norm ⟨[p0, p1, p2, p3, p4, .int .i64 0, p6, p7, p8, p9, p10, p11, p12, p13, p14, p15, p16, p17, p18], h⟩ := by kernel_rfl
theorem m_r6 {R : Type} (p0 p1 p2 p3 p4 p5 p6 p7 p8 p9 p10 p11 p12 p13 p14 p15 p16 p17 p18 : PV) (h : Hp) (K : AX → St → Option R) :
    exCode Tryd.prog E0 mR6 ⟨[p0, p1, p2, p3, p4, p5, p6, p7, p8, p9, p10, p11, p12, p13, p14, p15, p16, p17, p18], h⟩ K = K .norm ⟨[p0, p1, p2, p3, p1, p5, p6, p7, p8, p9, p10, p11, p12, p13, p14, p15, p16, p17, p1], h⟩ := by kernel_rfl
theorem m_end (p0 p1 p2 p3 p4 p5 p6 p7 p8 p9 p10 p11 p12 p13 p14 p15 p16 p17 p18 : PV) (h : Hp) :
    endW Tryd.prog Tryd.f82 .ret ⟨[p0, p1, p2, p3, p4, p5, p6, p7, p8, p9, p10, p11, p12, p13, p14, p15, p16, p17, p18], h⟩ = some (p4, h) := by kernel_rfl
theorem exSeq {R : Type} {x y : Code} {s : St} {K : AX → St → Option R} : exCode Tryd.prog E0 (.seq x y) s K = exCode Tryd.prog E0 x s (fun e s' => match e with | .norm => exCode Tryd.prog E0 y s' K | e => K e s') := by
  rw [exCode]
  congr 1
  funext e s'
  cases e <;> first | rfl | exact cutS0 E0c
theorem exBlock {R : Type} {i : Nat} {b : Code} {s : St} {K : AX → St → Option R} : exCode Tryd.prog E0 (.block i b) s K = exCode Tryd.prog E0 b s (fun e s' => match e with | .ex j => if j = i then K .norm s' else K (.ex j) s' | e => K e s') := by
  rw [exCode]
  congr 1
theorem exLoop {R : Type} {b : Code} {s : St} {K : AX → St → Option R} : exCode Tryd.prog E0 (.loop b) s K = loopK E0 (exCode Tryd.prog E0 b) b s K := by
  rw [exCode, cutK0 E0c]
theorem exRet {R : Type} {s : St} {K : AX → St → Option R} : exCode Tryd.prog E0 .ret s K = K .ret s := by rw [exCode]
theorem m_whole {p0 p1 : PV} {h : Hp} {r : Option (PV × Hp)} (hl : ∀ K : AX → St → Option (PV × Hp), (∀ c2 c3 c4 c6 c7 c8 c9 c10 c11 c12 c13 c14 c15 c16 c17 c18 k i q g, K (.ex 0) ⟨[q, k, c2, c3, c4, i, c6, c7, c8, c9, c10, c11, c12, c13, c14, c15, c16, c17, c18], g⟩ = some (k, g)) → loopK E0 (exCode Tryd.prog E0 mB) mB ⟨[p0, p1, .junk, .junk, .int .i64 0, .int .i64 0, .junk, .junk, .junk, .junk, .junk, .junk, .junk, .junk, .junk, .junk, .junk, .junk, .junk], h⟩ K = r) :
    exCode Tryd.prog E0 (Tryd.f82.body.getD .skip) ⟨[p0, p1] ++ List.replicate (Tryd.f82.ntmps - 2) .junk, h⟩ (endW Tryd.prog Tryd.f82) = r := by
  have e : List.replicate (Tryd.f82.ntmps - 2) PV.junk = [.junk, .junk, .junk, .junk, .junk, .junk, .junk, .junk, .junk, .junk, .junk, .junk, .junk, .junk, .junk, .junk, .junk] := by kernel_rfl
  rw [m_body, e, exSeq, List.cons_append, List.cons_append, List.nil_append, m_r0]
  simp only
  rw [exSeq, exSeq, m_r1]
  simp only
  rw [exBlock, exLoop]
  refine hl _ fun c2 c3 c4 c6 c7 c8 c9 c10 c11 c12 c13 c14 c15 c16 c17 c18 k i q g => ?_
  simp only [if_true]
  rw [exSeq, m_r6]
  simp only
  rw [exRet]
  exact m_end _ _ _ _ _ _ _ _ _ _ _ _ _ _ _ _ _ _ _ g
theorem ints_run {id : Nat} {e : TypeId} {f : Bool} {h : Hp} {xs : List Int} (hg : h.get id = some (.arr e f .i64 xs)) {k : Int} (hk : 0 ≤ k) (hk' : k + xs.length ≤ 4611686018427387904) :
    exCode Tryd.prog E0 (Tryd.f82.body.getD .skip) ⟨[.own id, .int .i64 k] ++ List.replicate (Tryd.f82.ntmps - 2) .junk, h⟩ (endW Tryd.prog Tryd.f82) = some (.int .i64 (k + xs.length), h.set id (some (.arr e f .i64 (markL k xs)))) :=
  m_whole fun K hK => m_loop _ K xs.length hg (by omega) (by omega) (by omega) hk hk' _ _ _ _ _ _ _ _ _ _ _ _ _ _ _ _ fun c6 c7 c8 c9 c10 c11 c12 c13 c14 c15 c16 c17 => hK _ _ _ _ _ _ _ _ _ _ _ _ _ _ _ _ _ _ _ _
theorem m_nil {R : Type} (h : Hp) (p1 : PV) (K : AX → St → Option R) : exCode Tryd.prog E0 mB ⟨[.nilS, p1, .junk, .junk, .int .i64 0, .int .i64 0, .junk, .junk, .junk, .junk, .junk, .junk, .junk, .junk, .junk, .junk, .junk, .junk, .junk], h⟩ K = K (.ex 0) ⟨[.nilS, p1, .junk, .junk, .int .i64 0, .int .i64 0, .int .i64 0, .nilS, .int .i64 0, .bool false, .junk, .junk, .junk, .junk, .junk, .junk, .junk, .junk, .junk], h⟩ := by kernel_rfl
theorem ints_nil {h : Hp} {k : Int} : exCode Tryd.prog E0 (Tryd.f82.body.getD .skip) ⟨[.nilS, .int .i64 k] ++ List.replicate (Tryd.f82.ntmps - 2) .junk, h⟩ (endW Tryd.prog Tryd.f82) = some (.int .i64 k, h) :=
  m_whole fun K hK => by
    rw [loopK_eq, m_nil]
    exact hK _ _ _ _ _ _ _ _ _ _ _ _ _ _ _ _ _ _ _ _
theorem w_markIntS_mk : MkOk Tryd.prog 82 .ints := by
  intro ps h h' p pin base w ρ us hk hI hH hus
  have fin : exCode Tryd.prog E0 (Tryd.f82.body.getD .skip) ⟨ps ++ List.replicate (Tryd.f82.ntmps - ps.length) .junk, h⟩ (endW Tryd.prog Tryd.f82) = some (p, h') := by
    unfold markK at hk
    split at hk
    · rename_i q k _
      unfold markI at hk
      split at hk
      · injection hk with hk; injection hk with h1 h2; subst h1; subst h2; exact ints_nil
      · split at hk
        · rename_i id e f xs hg
          split at hk
          · rename_i hc
            injection hk with hk; injection hk with h1 h2; subst h1; subst h2
            exact ints_run hg hc.1 hc.2
          · cases hk
        · cases hk
      · cases hk
    all_goals first | (rename_i hm _; cases hm; done) | (rename_i hm; cases hm; done) | (cases hk; done) | contradiction
  exact wr_of (E := E0) E0_ok E0c follows_ (fn := Tryd.f82) (c := Tryd.f82.body.getD .skip) (by kernel_rfl) (by kernel_rfl) rfl fin hI hH hus
noncomputable def E1 : Env' := withWr E0 (fun f => if f = 82 then some .ints else none)
theorem E1c : E1.cuts = [] := rfl
theorem e1_mine (d : Option Nat) : (d.map E1.mine).getD false = false := by cases d <;> rfl
theorem E1_ok : EnvOk Tryd.prog E1 := withWr_ok E0_ok (tab_cons w_markIntS_mk tab_none)
theorem get_last (h : Hp) (b : Option Blk) : Hp.get (h ++ [b]) h.length = b := by simp [Hp.get]
theorem e1_call {R : Type} {p : PV} {k : Int} {mn : Bool} {h : Hp} {K : PV → Hp → Option R} : callK E1 82 [p, .int .i64 k] mn h K = markI p k h fun k h => K (.int .i64 k) h := by kernel_rfl
noncomputable def pC : Code := Tryd.f50.body.getD .skip
theorem p_o0 : offOf Tryd.prog 31 0 = some (0, 22) := by kernel_rfl
theorem p_o2 : offOf Tryd.prog 31 2 = some (2, 22) := by kernel_rfl
theorem p_sz : szOf Tryd.prog 22 = 1 := by kernel_rfl
theorem p_load {R : Type} {h : Hp} {id off : Nat} {t : TypeId} {cells : List PV} {p : PV} (hg : h.get id = some (.box t cells)) (hp : cells[off]? = some p) (K : PV → Option R) : loadK Tryd.prog 22 (.ptr id off) h K = K p := by
  have hu : ∃ u, Tryd.prog.underlying 22 = some u := ⟨_, Tryd.underlying22⟩
  obtain ⟨u, hu⟩ := hu
  have ha : isAggB Tryd.prog 22 = false := by kernel_rfl
  simp only [loadK, hg, readK, hu, ha, Bool.false_eq_true, if_false, hp]
theorem p_run {R : Type} {p q : PV} {x k k1 : Int} {h h2 : Hp} (hp : oneP p = true) (hq : oneP q = true) (h1 : ∀ (R : Type) (F : Int → Hp → Option R), markI p k (h ++ [some (.box 31 [p, .int .i64 x, q])]) F = F k1 h2) (hb : Hp.get h2 h.length = some (.box 31 [p, .int .i64 x, q])) (K : AX → St → Option R) (a2 a3 a4 a5 a6 a7 a8 a9 a10 a11 a12 a13 : PV) :
    ∃ G : PV → List PV, (∀ v, (G v).getD 4 .junk = v) ∧ exCode Tryd.prog E1 pC ⟨[.agg [p, .int .i64 x, q], .int .i64 k, a2, a3, a4, a5, a6, a7, a8, a9, a10, a11, a12, a13], h⟩ K = markI q k1 h2 fun k h => K .ret ⟨G (.int .i64 k), h⟩ := by
  have hi : oneP (.int .i64 x) = true := rfl
  refine ⟨fun v => [.agg [p, .int .i64 x, q], v, .ptr h.length 0, a3, v, .ptr h.length 0, p, .int .i64 k, .int .i64 k1, .ptr h.length 2, q, .int .i64 k1, v, v], fun v => rfl, ?_⟩
  simp only [pC, Tryd.f50, Option.getD_some, exCode, cutS0 E1c]
  simp only [regOrd, Bool.false_eq_true, if_false, exOps, opK, ev, ofVal, cellsOf, List.all_cons, List.all_nil, hp, hq, hi, Bool.and_true, if_true, List.getD_cons_zero, List.getD_cons_succ, putT, List.set_cons_zero, List.set_cons_succ, e1_mine, p_o0, p_o2, p_sz, Nat.one_ne_zero]
  rw [p_load (get_last h _) (by rfl)]
  simp only [List.map_cons, List.map_nil, ev, List.getD_cons_zero, List.getD_cons_succ, e1_call, h1]
  rw [p_load hb (by rfl)]
theorem markI_some {p : PV} {k : Int} {h : Hp} {R : Type} {F : Int → Hp → Option R} {r : R} (hk : markI p k h F = some r) : oneP p = true ∧ ∃ k1 h2, (∀ (R : Type) (F : Int → Hp → Option R), markI p k h F = F k1 h2) ∧ F k1 h2 = some r ∧ ∀ id t cells, h.get id = some (.box t cells) → h2.get id = some (.box t cells) := by
  unfold markI at hk
  split at hk
  · exact ⟨rfl, k, h, fun _ _ => rfl, hk, fun _ _ _ hb => hb⟩
  · rename_i id
    split at hk
    · rename_i e f xs hg
      split at hk
      · rename_i hc
        refine ⟨rfl, _, _, fun R F => ?_, hk, fun j t cells hb => ?_⟩
        · simp only [markI, hg, hc, and_self, if_true]
        · by_cases e : j = id
          · subst e; rw [hg] at hb; cases hb
          · simp only [Hp.get] at hb ⊢
            rw [List.getElem?_set_ne (Ne.symm e)]
            exact hb
      · cases hk
    · cases hk
  · cases hk
theorem w_markPlace_mk : MkOk Tryd.prog 50 (.place 31) := by
  intro ps h h' p pin base w ρ us hk hI hH hus
  have fin : exCode Tryd.prog E1 (Tryd.f50.body.getD .skip) ⟨ps ++ List.replicate (Tryd.f50.ntmps - ps.length) .junk, h⟩ (endW Tryd.prog Tryd.f50) = some (p, h') := by
    unfold markK at hk
    split at hk
    case h_2 t p0 x q k he =>
      injection he with he
      subst he
      obtain ⟨o1, k1, h2, g1, g2, g3⟩ := markI_some hk
      obtain ⟨o2, k3, h4, g4, g5, g6⟩ := markI_some g2
      have hb := g3 h.length _ _ (get_last h _)
      obtain ⟨G, hG, hrun⟩ := p_run (q := q) (x := x) o1 o2 g1 hb (endW Tryd.prog Tryd.f50) .junk .junk .junk .junk .junk .junk .junk .junk .junk .junk .junk .junk
      have e : List.replicate (Tryd.f50.ntmps - 2) PV.junk = [.junk, .junk, .junk, .junk, .junk, .junk, .junk, .junk, .junk, .junk, .junk, .junk] := by kernel_rfl
      refine Eq.trans (congrArg (fun t => exCode Tryd.prog E1 (Tryd.f50.body.getD .skip) ⟨t, h⟩ (endW Tryd.prog Tryd.f50)) (show _ = [.agg [p0, .int .i64 x, q], .int .i64 k, .junk, .junk, .junk, .junk, .junk, .junk, .junk, .junk, .junk, .junk, .junk, .junk] from congrArg ([PV.agg [p0, .int .i64 x, q], .int .i64 k] ++ ·) e)) ?_
      refine hrun.trans ?_
      rw [g4]
      injection g5 with g5
      injection g5 with g5 g7
      subst g5; subst g7
      have hr : Tryd.f50.results.toList = [.tmp 4] := by kernel_rfl
      simp only [endW, hr, resPs, Option.map_some, Option.bind_some, hG]
    all_goals first | (cases hk; done) | (rename_i he; cases he; done) | (rename_i he _; cases he; done) | contradiction
  exact wr_of (E := E1) E1_ok E1c follows_ (fn := Tryd.f50) (c := Tryd.f50.body.getD .skip) (by kernel_rfl) (by kernel_rfl) rfl fin hI hH hus
end FN
