/- Texts of the proof, joined: The functions, their equations and contracts. -/
import Derived.KernelRfl
import Derived.Test.YthdapnmdllbejaaProg
import Derived.Test.YthdapnmdllbejaaA1
set_option linter.unusedVariables false
set_option linter.unusedSimpArgs false
set_option linter.unusedSectionVars false
namespace FN
open Go Go.Proofs
def mkT (n : Nat) (l : List (Nat × PV)) : List PV := (List.range n).map fun i => (l.lookup i).getD .junk
def ckT (t : TypeId) : Option CK := if t = 3 then some .i64 else if t = 4 then some .bool else if t = 5 then some .u8 else if t = 22 then some .intss else if t = 26 then some .place else none
instance : Gl := ⟨fun _ => True, fun _ => True, fun _ _ _ _ _ => trivial⟩
theorem follows_ : Try.prog.follows .mixedOrders = true := by kernel_rfl
theorem rd_head {x b : List Int} {l ps : List PV} (h : (PV.row false .u8 x :: l) = PV.row false .u8 b :: ps) : x = b := by
  injection h with h _
  injection h
theorem fn_none {P : Program} : ∀ (f : FuncId) (c : Ctr'), (none : Option Ctr') = some c → CtrOk P f c ∧ Entb P f := fun _ _ h => by cases h
theorem fn_cons {P : Program} {f0 : FuncId} {c0 : Ctr'} (h0 : CtrOk P f0 c0 ∧ Entb P f0) {g : FuncId → Option Ctr'} (hg : ∀ f c, g f = some c → CtrOk P f c ∧ Entb P f) : ∀ f c, (if f = f0 then some c0 else g f) = some c → CtrOk P f c ∧ Entb P f := by
  intro f c h
  split at h
  · rename_i e; injection h with h; subst e; subst h; exact h0
  · exact hg f c h
theorem lim_some {α : Type} {g : Nat → Option α} {r : α} (h : lim g = some r) : ∃ n, g n = some r := by
  unfold lim at h
  split at h
  · exact ⟨_, h⟩
  · cases h
theorem lim_of {α : Type} {g : Nat → Option α} {v : α} (h : ∃ n, g n = some v) (u : ∀ n r, g n = some r → r = v) : lim g = some v := by
  obtain ⟨n, hn⟩ := h
  have hx : ∃ n r, g n = some r := ⟨n, v, hn⟩
  obtain ⟨r, hr⟩ := hx.choose_spec
  have : lim g = g hx.choose := dif_pos hx
  rw [this, hr, u _ r hr]
theorem clo_none {P : Program} {E : Env'} (h : E.clo = fun _ _ _ _ _ => none := by rfl) : CloOk P E := by
  intro f ps hp h' pin base w ρ args hc
  rw [h] at hc
  cases hc
def str0 : ByteArray := ⟨#[106, 111, 105, 110, 32]⟩
def str1 : ByteArray := ⟨#[32]⟩
def str2 : ByteArray := ⟨#[108, 105, 103, 104, 116, 32]⟩
def str3 : ByteArray := ⟨#[107, 105, 110, 100, 115, 32]⟩
def str4 : ByteArray := ⟨#[115, 116, 101, 112]⟩
def str5 : ByteArray := ⟨#[98, 97, 99, 107]⟩
def str6 : ByteArray := ⟨#[48, 49, 50, 51, 52, 53, 54, 55, 56, 57, 97, 98, 99, 100, 101, 102, 103, 104, 105, 106, 107, 108, 109, 110, 111, 112, 113, 114, 115, 116, 117, 118, 119, 120, 121, 122]⟩
def str7 : ByteArray := ⟨#[48, 48, 48, 49, 48, 50, 48, 51, 48, 52, 48, 53, 48, 54, 48, 55, 48, 56, 48, 57, 49, 48, 49, 49, 49, 50, 49, 51, 49, 52, 49, 53, 49, 54, 49, 55, 49, 56, 49, 57, 50, 48, 50, 49, 50, 50, 50, 51, 50, 52, 50, 53, 50, 54, 50, 55, 50, 56, 50, 57, 51, 48, 51, 49, 51, 50, 51, 51, 51, 52, 51, 53, 51, 54, 51, 55, 51, 56, 51, 57, 52, 48, 52, 49, 52, 50, 52, 51, 52, 52, 52, 53, 52, 54, 52, 55, 52, 56, 52, 57, 53, 48, 53, 49, 53, 50, 53, 51, 53, 52, 53, 53, 53, 54, 53, 55, 53, 56, 53, 57, 54, 48, 54, 49, 54, 50, 54, 51, 54, 52, 54, 53, 54, 54, 54, 55, 54, 56, 54, 57, 55, 48, 55, 49, 55, 50, 55, 51, 55, 52, 55, 53, 55, 54, 55, 55, 55, 56, 55, 57, 56, 48, 56, 49, 56, 50, 56, 51, 56, 52, 56, 53, 56, 54, 56, 55, 56, 56, 56, 57, 57, 48, 57, 49, 57, 50, 57, 51, 57, 52, 57, 53, 57, 54, 57, 55, 57, 56, 57, 57]⟩
def str8 : ByteArray := ⟨#[0, 1, 2, 2, 3, 3, 3, 3, 4, 4, 4, 4, 4, 4, 4, 4, 5, 5, 5, 5, 5, 5, 5, 5, 5, 5, 5, 5, 5, 5, 5, 5, 6, 6, 6, 6, 6, 6, 6, 6, 6, 6, 6, 6, 6, 6, 6, 6, 6, 6, 6, 6, 6, 6, 6, 6, 6, 6, 6, 6, 6, 6, 6, 6, 7, 7, 7, 7, 7, 7, 7, 7, 7, 7, 7, 7, 7, 7, 7, 7, 7, 7, 7, 7, 7, 7, 7, 7, 7, 7, 7, 7, 7, 7, 7, 7, 7, 7, 7, 7, 7, 7, 7, 7, 7, 7, 7, 7, 7, 7, 7, 7, 7, 7, 7, 7, 7, 7, 7, 7, 7, 7, 7, 7, 7, 7, 7, 7, 8, 8, 8, 8, 8, 8, 8, 8, 8, 8, 8, 8, 8, 8, 8, 8, 8, 8, 8, 8, 8, 8, 8, 8, 8, 8, 8, 8, 8, 8, 8, 8, 8, 8, 8, 8, 8, 8, 8, 8, 8, 8, 8, 8, 8, 8, 8, 8, 8, 8, 8, 8, 8, 8, 8, 8, 8, 8, 8, 8, 8, 8, 8, 8, 8, 8, 8, 8, 8, 8, 8, 8, 8, 8, 8, 8, 8, 8, 8, 8, 8, 8, 8, 8, 8, 8, 8, 8, 8, 8, 8, 8, 8, 8, 8, 8, 8, 8, 8, 8, 8, 8, 8, 8, 8, 8, 8, 8, 8, 8, 8, 8, 8, 8, 8, 8, 8, 8, 8, 8, 8, 8, 8, 8, 8, 8, 8, 8]⟩
def str9 : ByteArray := ⟨#[115, 116, 114, 99, 111, 110, 118, 58, 32, 105, 108, 108, 101, 103, 97, 108, 32, 65, 112, 112, 101, 110, 100, 73, 110, 116, 47, 70, 111, 114, 109, 97, 116, 73, 110, 116, 32, 98, 97, 115, 101]⟩
def str10 : ByteArray := ⟨#[106, 111, 105, 110]⟩
def str11 : ByteArray := ⟨#[108, 105, 103, 104, 116]⟩
def str12 : ByteArray := ⟨#[107, 105, 110, 100, 115]⟩
def str13 : ByteArray := ⟨#[10]⟩
def str14 : ByteArray := ⟨#[44]⟩
def str15 : ByteArray := ⟨#[46]⟩
end FN
set_option linter.unusedVariables false
namespace FN
open Go Go.Proofs
/-! loop.example/firingnets/spec.l1In -/
@[reducible] def s_l1In_sig : Sig := { ps := [none, none, none], pc := [.int .i64, .int .i64, .int .i64], rs := [none], rc := [.bool] }
noncomputable def s_l1In_E : Env' := { fn := fun f => none, ck := ckT, cuts := [], mine := fun i => false }
noncomputable def s_l1In_f (x : Ts s_l1In_sig.pc) : Option (Ts s_l1In_sig.rc) := runFn Try.prog (s_l1In_E) Try.f73 s_l1In_sig x
theorem s_l1In_f_eq (x0 : (Int)) (x1 : (Int)) (x2 : (Int)) : s_l1In_f (x0, x1, x2) = (cond ((decide (x1 ≤ x0))) (some (decide (x0 ≤ x2))) (some false)) := by
  kernel_rfl
theorem s_l1In_ent : Entb Try.prog 73 := ⟨Try.f73, by kernel_rfl, by kernel_rfl, by kernel_rfl⟩
theorem s_l1In_ok : CtrOk Try.prog 73 ⟨s_l1In_sig, s_l1In_f⟩ :=
  ctr_of (fn := Try.f73) (by kernel_rfl) (by kernel_rfl) (fun x : Ts s_l1In_sig.pc => s_l1In_E) (fun x => ⟨fn_none, clo_none, wr_none⟩) (fun h => by cases h) follows_ (fun _ _ => trivial)
end FN
set_option linter.unusedVariables false
namespace FN
open Go Go.Proofs
/-! loop.example/firingnets/impl.NetOk -/
@[reducible] def i_NetOk_sig : Sig := { ps := [none], pc := [.view .i64], rs := [none], rc := [.bool] }
noncomputable def i_NetOk_E : Env' := { fn := fun f => none, ck := ckT, cuts := [(4, [0, 14, 15, 16]), (9, [0, 3, 4, 14, 15, 16, 38, 39])], mine := fun i => false }
noncomputable def i_NetOk_f (x : Ts i_NetOk_sig.pc) : Option (Ts i_NetOk_sig.rc) := runFn Try.prog (i_NetOk_E) Try.f43 i_NetOk_sig x
noncomputable def i_NetOk_l0 (y0 : List (Int)) (y1 : List (Int)) (y2 : Int) (y3 : Int) : Option ((Bool)) := from_ Try.prog (i_NetOk_E) Try.f43 i_NetOk_sig [1, 1, 0, 1, 0] ⟨mkT 56 [(0, .row false .i64 y0), (14, .row false .i64 y1), (15, .int .i64 y2), (16, .int .i64 y3)], []⟩
noncomputable def i_NetOk_l1 (y0 : List (Int)) (y1 : Int) (y2 : Int) (y3 : List (Int)) (y4 : Int) (y5 : Int) (y6 : Int) (y7 : Int) : Option ((Bool)) := from_ Try.prog (i_NetOk_E) Try.f43 i_NetOk_sig [1, 1, 0, 1, 0, 0, 1, 1, 0, 0, 1, 1, 1, 0] ⟨mkT 56 [(0, .row false .i64 y0), (3, .int .i64 y1), (4, .int .i64 y2), (14, .row false .i64 y3), (15, .int .i64 y4), (16, .int .i64 y5), (38, .int .i64 y6), (39, .int .i64 y7)], []⟩
theorem i_NetOk_f_eq (x0 : (List (Int))) : i_NetOk_f x0 = (cond ((decide ((List.length x0 : Int) < 1))) (some false) (cond ((decide (6 < (List.length x0 : Int)))) (some false) (i_NetOk_l0 x0 x0 (List.length x0 : Int) 0))) := by
  kernel_rfl
theorem i_NetOk_l0_eq (y0 : List (Int)) (y1 : List (Int)) (y2 : Int) (y3 : Int) : i_NetOk_l0 y0 y1 y2 y3 = (cond ((decide (y3 < y2))) (if (0 : Int) ≤ y3 ∧ y3 < (List.length y1 : Int) then (cond ((decide ((List.getD y1 (y3 : Int).toNat 0) < 0))) (some false) (if (List.length y0 : Int) < 0 then none else (cond ((decide ((IntKind.i64.wrap (1 * 2 ^ min ((List.length y0 : Int) : Int).toNat IntKind.i64.bits)) ≤ (List.getD y1 (y3 : Int).toNat 0)))) (some false) (if y3 < 0 then none else (cond (((Go.bits .and IntKind.i64 (Int.fdiv (List.getD y1 (y3 : Int).toNat 0) (2 ^ min (y3 : Int).toNat IntKind.i64.bits)) 1) == 1)) (some false) (i_NetOk_l1 y0 y3 (List.getD y1 (y3 : Int).toNat 0) y1 y2 y3 (List.length y0 : Int) 0)))))) else none) (some true)) := by
  refine (loopK_eq Try.prog (i_NetOk_E) (sub (Try.f43.body.getD .skip) [1, 1, 0, 1, 0, 0]) _ _).trans ?_
  kernel_rfl
theorem i_NetOk_l1_eq (y0 : List (Int)) (y1 : Int) (y2 : Int) (y3 : List (Int)) (y4 : Int) (y5 : Int) (y6 : Int) (y7 : Int) : i_NetOk_l1 y0 y1 y2 y3 y4 y5 y6 y7 = (cond ((decide (y7 < y6))) (if y7 < 0 then none else (if (0 : Int) ≤ y7 ∧ y7 < (List.length y0 : Int) then (if y1 < 0 then none else (cond (((Go.bits .and IntKind.i64 (Int.fdiv y2 (2 ^ min (y7 : Int).toNat IntKind.i64.bits)) 1) != (Go.bits .and IntKind.i64 (Int.fdiv (List.getD y0 (y7 : Int).toNat 0) (2 ^ min (y1 : Int).toNat IntKind.i64.bits)) 1))) (some false) (i_NetOk_l1 y0 y1 y2 y3 y4 y5 y6 (IntKind.i64.wrap (y7 + 1))))) else none)) (i_NetOk_l0 y0 y3 y4 (IntKind.i64.wrap (y5 + 1)))) := by
  refine (loopK_eq Try.prog (i_NetOk_E) (sub (Try.f43.body.getD .skip) [1, 1, 0, 1, 0, 0, 1, 1, 0, 0, 1, 1, 1, 0, 0]) _ _).trans ?_
  kernel_rfl
theorem i_NetOk_ent : Entb Try.prog 43 := ⟨Try.f43, by kernel_rfl, by kernel_rfl, by kernel_rfl⟩
theorem i_NetOk_ok : CtrOk Try.prog 43 ⟨i_NetOk_sig, i_NetOk_f⟩ :=
  ctr_of (fn := Try.f43) (by kernel_rfl) (by kernel_rfl) (fun x : Ts i_NetOk_sig.pc => i_NetOk_E) (fun x => ⟨fn_none, clo_none, wr_none⟩) (fun h => by cases h) follows_ (fun _ _ => trivial)
end FN
set_option linter.unusedVariables false
namespace FN
open Go Go.Proofs
/-! loop.example/firingnets/impl.StateOk -/
@[reducible] def i_StateOk_sig : Sig := { ps := [none, none], pc := [.int .i64, .view .i64], rs := [none], rc := [.bool] }
noncomputable def i_StateOk_E : Env' := { fn := fun f => none, ck := ckT, cuts := [(2, [0, 1, 7, 8, 9]), (7, [0, 1])], mine := fun i => false }
noncomputable def i_StateOk_f (x : Ts i_StateOk_sig.pc) : Option (Ts i_StateOk_sig.rc) := runFn Try.prog (i_StateOk_E) Try.f66 i_StateOk_sig x
noncomputable def i_StateOk_l0 (y0 : Int) (y1 : List (Int)) (y2 : List (Int)) (y3 : Int) (y4 : Int) : Option ((Bool)) := from_ Try.prog (i_StateOk_E) Try.f66 i_StateOk_sig [1, 0, 1, 0] ⟨mkT 37 [(0, .int .i64 y0), (1, .row false .i64 y1), (7, .row false .i64 y2), (8, .int .i64 y3), (9, .int .i64 y4)], []⟩
noncomputable def i_StateOk_j1 (y0 : Int) (y1 : List (Int)) : Option ((Bool)) := from_ Try.prog (i_StateOk_E) Try.f66 i_StateOk_sig [1, 1] ⟨mkT 37 [(0, .int .i64 y0), (1, .row false .i64 y1)], []⟩
theorem i_StateOk_f_eq (x0 : (Int)) (x1 : (List (Int))) : i_StateOk_f (x0, x1) = (i_StateOk_l0 x0 x1 x1 (List.length x1 : Int) 0) := by
  kernel_rfl
theorem i_StateOk_l0_eq (y0 : Int) (y1 : List (Int)) (y2 : List (Int)) (y3 : Int) (y4 : Int) : i_StateOk_l0 y0 y1 y2 y3 y4 = (cond ((decide (y4 < y3))) (if (0 : Int) ≤ y4 ∧ y4 < (List.length y2 : Int) then (cond ((decide ((List.getD y2 (y4 : Int).toNat 0) < 0))) (some false) (cond ((decide (y0 ≤ (List.getD y2 (y4 : Int).toNat 0)))) (some false) (i_StateOk_l0 y0 y1 y2 y3 (IntKind.i64.wrap (y4 + 1))))) else none) (i_StateOk_j1 y0 y1)) := by
  refine (loopK_eq Try.prog (i_StateOk_E) (sub (Try.f66.body.getD .skip) [1, 0, 1, 0, 0]) _ _).trans ?_
  kernel_rfl
theorem i_StateOk_j1_eq (y0 : Int) (y1 : List (Int)) : i_StateOk_j1 y0 y1 = (cond ((decide (3 ≤ y0))) (cond ((decide (y0 ≤ 5))) (cond ((decide (1 ≤ (List.length y1 : Int)))) (some (decide ((List.length y1 : Int) ≤ 6))) (some false)) (some false)) (some false)) := by
  kernel_rfl
theorem i_StateOk_ent : Entb Try.prog 66 := ⟨Try.f66, by kernel_rfl, by kernel_rfl, by kernel_rfl⟩
theorem i_StateOk_ok : CtrOk Try.prog 66 ⟨i_StateOk_sig, i_StateOk_f⟩ :=
  ctr_of (fn := Try.f66) (by kernel_rfl) (by kernel_rfl) (fun x : Ts i_StateOk_sig.pc => i_StateOk_E) (fun x => ⟨fn_none, clo_none, wr_none⟩) (fun h => by cases h) follows_ (fun _ _ => trivial)
end FN
set_option linter.unusedVariables false
namespace FN
open Go Go.Proofs
/-! loop.example/firingnets/impl.asked -/
@[reducible] def i_asked_sig : Sig := { ps := [none, none, none], pc := [.view .i64, .int .i64, .view .i64], rs := [none], rc := [.bool] }
noncomputable def i_asked_E : Env' := { fn := fun f => if f = 43 then some ⟨i_NetOk_sig, i_NetOk_f⟩ else if f = 66 then some ⟨i_StateOk_sig, i_StateOk_f⟩ else none, ck := ckT, cuts := [], mine := fun i => false }
noncomputable def i_asked_f (x : Ts i_asked_sig.pc) : Option (Ts i_asked_sig.rc) := runFn Try.prog (i_asked_E) Try.f48 i_asked_sig x
theorem i_asked_f_eq (x0 : (List (Int))) (x1 : (Int)) (x2 : (List (Int))) : i_asked_f (x0, x1, x2) = (Option.bind (i_NetOk_f x0) fun r1 => (cond (r1) (Option.bind (i_StateOk_f (x1, x2)) fun r2 => (cond (r2) (some ((List.length x0 : Int) == (List.length x2 : Int))) (some false))) (some false))) := by
  kernel_rfl
theorem i_asked_ent : Entb Try.prog 48 := ⟨Try.f48, by kernel_rfl, by kernel_rfl, by kernel_rfl⟩
theorem i_asked_ok : CtrOk Try.prog 48 ⟨i_asked_sig, i_asked_f⟩ :=
  ctr_of (fn := Try.f48) (by kernel_rfl) (by kernel_rfl) (fun x : Ts i_asked_sig.pc => i_asked_E) (fun x => ⟨(fn_cons ⟨i_NetOk_ok, i_NetOk_ent⟩ (fn_cons ⟨i_StateOk_ok, i_StateOk_ent⟩ fn_none)), clo_none, wr_none⟩) (fun h => by cases h) follows_ (fun _ _ => trivial)
end FN
set_option linter.unusedVariables false
namespace FN
open Go Go.Proofs
/-! loop.example/firingnets/impl.PlaceOk -/
@[reducible] def i_PlaceOk_sig : Sig := { ps := [some 3], pc := [.view .i64, .int .i64, .view .i64], rs := [none], rc := [.bool] }
noncomputable def i_PlaceOk_E : Env' := { fn := fun f => if f = 48 then some ⟨i_asked_sig, i_asked_f⟩ else none, ck := ckT, cuts := [], mine := fun i => false }
noncomputable def i_PlaceOk_f (x : Ts i_PlaceOk_sig.pc) : Option (Ts i_PlaceOk_sig.rc) := runFn Try.prog (i_PlaceOk_E) Try.f35 i_PlaceOk_sig x
theorem i_PlaceOk_f_eq (x0 : (List (Int))) (x1 : (Int)) (x2 : (List (Int))) : i_PlaceOk_f (x0, x1, x2) = (Option.bind (i_asked_f (x0, x1, x2)) fun r1 => (some r1)) := by
  kernel_rfl
theorem i_PlaceOk_ent : Entb Try.prog 35 := ⟨Try.f35, by kernel_rfl, by kernel_rfl, by kernel_rfl⟩
theorem i_PlaceOk_ok : CtrOk Try.prog 35 ⟨i_PlaceOk_sig, i_PlaceOk_f⟩ :=
  ctr_of (fn := Try.f35) (by kernel_rfl) (by kernel_rfl) (fun x : Ts i_PlaceOk_sig.pc => i_PlaceOk_E) (fun x => ⟨(fn_cons ⟨i_asked_ok, i_asked_ent⟩ fn_none), clo_none, wr_none⟩) (fun h => by cases h) follows_ (fun _ _ => trivial)
end FN
set_option linter.unusedVariables false
namespace FN
open Go Go.Proofs
/-! loop.example/firingnets/spec.NetOk -/
@[reducible] def s_NetOk_sig : Sig := { ps := [none], pc := [.view .i64], rs := [none], rc := [.bool] }
noncomputable def s_NetOk_E : Env' := { fn := fun f => if f = 73 then some ⟨s_l1In_sig, s_l1In_f⟩ else none, ck := ckT, cuts := [(4, [0, 3]), (8, [0]), (9, [0, 4]), (12, [0, 4, 5])], mine := fun i => false }
noncomputable def s_NetOk_f (x : Ts s_NetOk_sig.pc) : Option (Ts s_NetOk_sig.rc) := runFn Try.prog (s_NetOk_E) Try.f63 s_NetOk_sig x
noncomputable def s_NetOk_l0 (y0 : List (Int)) (y1 : Int) : Option ((Bool)) := from_ Try.prog (s_NetOk_E) Try.f63 s_NetOk_sig [1, 1, 0, 1, 0] ⟨mkT 68 [(0, .row false .i64 y0), (3, .int .i64 y1)], []⟩
noncomputable def s_NetOk_j1 (y0 : List (Int)) : Option ((Bool)) := from_ Try.prog (s_NetOk_E) Try.f63 s_NetOk_sig [1, 1, 1] ⟨mkT 68 [(0, .row false .i64 y0)], []⟩
noncomputable def s_NetOk_l2 (y0 : List (Int)) (y1 : Int) : Option ((Bool)) := from_ Try.prog (s_NetOk_E) Try.f63 s_NetOk_sig [1, 1, 1, 0, 1, 0] ⟨mkT 68 [(0, .row false .i64 y0), (4, .int .i64 y1)], []⟩
noncomputable def s_NetOk_l3 (y0 : List (Int)) (y1 : Int) (y2 : Int) : Option ((Bool)) := from_ Try.prog (s_NetOk_E) Try.f63 s_NetOk_sig [1, 1, 1, 0, 1, 0, 0, 1, 0, 0, 1, 0] ⟨mkT 68 [(0, .row false .i64 y0), (4, .int .i64 y1), (5, .int .i64 y2)], []⟩
theorem s_NetOk_f_eq (x0 : (List (Int))) : s_NetOk_f x0 = (Option.bind (s_l1In_f ((List.length x0 : Int), 1, 6)) fun r1 => (cond ((!r1)) (some false) (s_NetOk_l0 x0 0))) := by
  kernel_rfl
theorem s_NetOk_l0_eq (y0 : List (Int)) (y1 : Int) : s_NetOk_l0 y0 y1 = (cond ((decide (y1 < (List.length y0 : Int)))) (if (0 : Int) ≤ y1 ∧ y1 < (List.length y0 : Int) then (if (List.length y0 : Int) < 0 then none else (Option.bind (s_l1In_f ((List.getD y0 (y1 : Int).toNat 0), 0, (IntKind.i64.wrap ((IntKind.i64.wrap (1 * 2 ^ min ((List.length y0 : Int) : Int).toNat IntKind.i64.bits)) - 1)))) fun r1 => (cond ((!r1)) (some false) (s_NetOk_l0 y0 (IntKind.i64.wrap (y1 + 1)))))) else none) (s_NetOk_j1 y0)) := by
  refine (loopK_eq Try.prog (s_NetOk_E) (sub (Try.f63.body.getD .skip) [1, 1, 0, 1, 0, 0]) _ _).trans ?_
  kernel_rfl
theorem s_NetOk_j1_eq (y0 : List (Int)) : s_NetOk_j1 y0 = (s_NetOk_l2 y0 0) := by
  kernel_rfl
theorem s_NetOk_l2_eq (y0 : List (Int)) (y1 : Int) : s_NetOk_l2 y0 y1 = (cond ((decide (y1 < (List.length y0 : Int)))) (s_NetOk_l3 y0 y1 0) (some true)) := by
  refine (loopK_eq Try.prog (s_NetOk_E) (sub (Try.f63.body.getD .skip) [1, 1, 1, 0, 1, 0, 0]) _ _).trans ?_
  kernel_rfl
theorem s_NetOk_l3_eq (y0 : List (Int)) (y1 : Int) (y2 : Int) : s_NetOk_l3 y0 y1 y2 = (cond ((decide (y2 < (List.length y0 : Int)))) (if (0 : Int) ≤ y1 ∧ y1 < (List.length y0 : Int) then (if y2 < 0 then none else (if (0 : Int) ≤ y2 ∧ y2 < (List.length y0 : Int) then (if y1 < 0 then none else (cond (((Int.tmod (Int.fdiv (List.getD y0 (y1 : Int).toNat 0) (2 ^ min (y2 : Int).toNat IntKind.i64.bits)) 2) != (Int.tmod (Int.fdiv (List.getD y0 (y2 : Int).toNat 0) (2 ^ min (y1 : Int).toNat IntKind.i64.bits)) 2))) (some false) (cond ((y2 == y1)) (if (0 : Int) ≤ y1 ∧ y1 < (List.length y0 : Int) then (if y2 < 0 then none else (cond (((Int.tmod (Int.fdiv (List.getD y0 (y1 : Int).toNat 0) (2 ^ min (y2 : Int).toNat IntKind.i64.bits)) 2) == 1)) (some false) (s_NetOk_l3 y0 y1 (IntKind.i64.wrap (y2 + 1))))) else none) (s_NetOk_l3 y0 y1 (IntKind.i64.wrap (y2 + 1)))))) else none)) else none) (s_NetOk_l2 y0 (IntKind.i64.wrap (y1 + 1)))) := by
  refine (loopK_eq Try.prog (s_NetOk_E) (sub (Try.f63.body.getD .skip) [1, 1, 1, 0, 1, 0, 0, 1, 0, 0, 1, 0, 0]) _ _).trans ?_
  kernel_rfl
theorem s_NetOk_ent : Entb Try.prog 63 := ⟨Try.f63, by kernel_rfl, by kernel_rfl, by kernel_rfl⟩
theorem s_NetOk_ok : CtrOk Try.prog 63 ⟨s_NetOk_sig, s_NetOk_f⟩ :=
  ctr_of (fn := Try.f63) (by kernel_rfl) (by kernel_rfl) (fun x : Ts s_NetOk_sig.pc => s_NetOk_E) (fun x => ⟨(fn_cons ⟨s_l1In_ok, s_l1In_ent⟩ fn_none), clo_none, wr_none⟩) (fun h => by cases h) follows_ (fun _ _ => trivial)
end FN
set_option linter.unusedVariables false
namespace FN
open Go Go.Proofs
/-! loop.example/firingnets/spec.StateOk -/
@[reducible] def s_StateOk_sig : Sig := { ps := [none, none], pc := [.int .i64, .view .i64], rs := [none], rc := [.bool] }
noncomputable def s_StateOk_E : Env' := { fn := fun f => if f = 73 then some ⟨s_l1In_sig, s_l1In_f⟩ else none, ck := ckT, cuts := [(2, [0, 1, 5]), (6, [0, 1])], mine := fun i => false }
noncomputable def s_StateOk_f (x : Ts s_StateOk_sig.pc) : Option (Ts s_StateOk_sig.rc) := runFn Try.prog (s_StateOk_E) Try.f64 s_StateOk_sig x
noncomputable def s_StateOk_l0 (y0 : Int) (y1 : List (Int)) (y2 : Int) : Option ((Bool)) := from_ Try.prog (s_StateOk_E) Try.f64 s_StateOk_sig [1, 0, 1, 0] ⟨mkT 32 [(0, .int .i64 y0), (1, .row false .i64 y1), (5, .int .i64 y2)], []⟩
noncomputable def s_StateOk_j1 (y0 : Int) (y1 : List (Int)) : Option ((Bool)) := from_ Try.prog (s_StateOk_E) Try.f64 s_StateOk_sig [1, 1] ⟨mkT 32 [(0, .int .i64 y0), (1, .row false .i64 y1)], []⟩
theorem s_StateOk_f_eq (x0 : (Int)) (x1 : (List (Int))) : s_StateOk_f (x0, x1) = (s_StateOk_l0 x0 x1 0) := by
  kernel_rfl
theorem s_StateOk_l0_eq (y0 : Int) (y1 : List (Int)) (y2 : Int) : s_StateOk_l0 y0 y1 y2 = (cond ((decide (y2 < (List.length y1 : Int)))) (if (0 : Int) ≤ y2 ∧ y2 < (List.length y1 : Int) then (cond ((decide ((List.getD y1 (y2 : Int).toNat 0) < 0))) (some false) (if (0 : Int) ≤ y2 ∧ y2 < (List.length y1 : Int) then (cond ((decide (y0 ≤ (List.getD y1 (y2 : Int).toNat 0)))) (some false) (s_StateOk_l0 y0 y1 (IntKind.i64.wrap (y2 + 1)))) else none)) else none) (s_StateOk_j1 y0 y1)) := by
  refine (loopK_eq Try.prog (s_StateOk_E) (sub (Try.f64.body.getD .skip) [1, 0, 1, 0, 0]) _ _).trans ?_
  kernel_rfl
theorem s_StateOk_j1_eq (y0 : Int) (y1 : List (Int)) : s_StateOk_j1 y0 y1 = (Option.bind (s_l1In_f (y0, 3, 5)) fun r1 => (cond (r1) (Option.bind (s_l1In_f ((List.length y1 : Int), 1, 6)) fun r2 => (some r2)) (some false))) := by
  kernel_rfl
theorem s_StateOk_ent : Entb Try.prog 64 := ⟨Try.f64, by kernel_rfl, by kernel_rfl, by kernel_rfl⟩
theorem s_StateOk_ok : CtrOk Try.prog 64 ⟨s_StateOk_sig, s_StateOk_f⟩ :=
  ctr_of (fn := Try.f64) (by kernel_rfl) (by kernel_rfl) (fun x : Ts s_StateOk_sig.pc => s_StateOk_E) (fun x => ⟨(fn_cons ⟨s_l1In_ok, s_l1In_ent⟩ fn_none), clo_none, wr_none⟩) (fun h => by cases h) follows_ (fun _ _ => trivial)
end FN
set_option linter.unusedVariables false
namespace FN
open Go Go.Proofs
/-! loop.example/firingnets/spec.l3Ok -/
@[reducible] def s_l3Ok_sig : Sig := { ps := [none, none, none], pc := [.view .i64, .int .i64, .view .i64], rs := [none], rc := [.bool] }
noncomputable def s_l3Ok_E : Env' := { fn := fun f => if f = 63 then some ⟨s_NetOk_sig, s_NetOk_f⟩ else if f = 64 then some ⟨s_StateOk_sig, s_StateOk_f⟩ else none, ck := ckT, cuts := [], mine := fun i => false }
noncomputable def s_l3Ok_f (x : Ts s_l3Ok_sig.pc) : Option (Ts s_l3Ok_sig.rc) := runFn Try.prog (s_l3Ok_E) Try.f46 s_l3Ok_sig x
theorem s_l3Ok_f_eq (x0 : (List (Int))) (x1 : (Int)) (x2 : (List (Int))) : s_l3Ok_f (x0, x1, x2) = (Option.bind (s_NetOk_f x0) fun r1 => (cond (r1) (Option.bind (s_StateOk_f (x1, x2)) fun r2 => (cond (r2) (some ((List.length x2 : Int) == (List.length x0 : Int))) (some false))) (some false))) := by
  kernel_rfl
theorem s_l3Ok_ent : Entb Try.prog 46 := ⟨Try.f46, by kernel_rfl, by kernel_rfl, by kernel_rfl⟩
theorem s_l3Ok_ok : CtrOk Try.prog 46 ⟨s_l3Ok_sig, s_l3Ok_f⟩ :=
  ctr_of (fn := Try.f46) (by kernel_rfl) (by kernel_rfl) (fun x : Ts s_l3Ok_sig.pc => s_l3Ok_E) (fun x => ⟨(fn_cons ⟨s_NetOk_ok, s_NetOk_ent⟩ (fn_cons ⟨s_StateOk_ok, s_StateOk_ent⟩ fn_none)), clo_none, wr_none⟩) (fun h => by cases h) follows_ (fun _ _ => trivial)
end FN
set_option linter.unusedVariables false
namespace FN
open Go Go.Proofs
/-! loop.example/firingnets/spec.PlaceOk -/
@[reducible] def s_PlaceOk_sig : Sig := { ps := [some 3], pc := [.view .i64, .int .i64, .view .i64], rs := [none], rc := [.bool] }
noncomputable def s_PlaceOk_E : Env' := { fn := fun f => if f = 46 then some ⟨s_l3Ok_sig, s_l3Ok_f⟩ else none, ck := ckT, cuts := [], mine := fun i => false }
noncomputable def s_PlaceOk_f (x : Ts s_PlaceOk_sig.pc) : Option (Ts s_PlaceOk_sig.rc) := runFn Try.prog (s_PlaceOk_E) Try.f33 s_PlaceOk_sig x
theorem s_PlaceOk_f_eq (x0 : (List (Int))) (x1 : (Int)) (x2 : (List (Int))) : s_PlaceOk_f (x0, x1, x2) = (Option.bind (s_l3Ok_f (x0, x1, x2)) fun r1 => (some r1)) := by
  kernel_rfl
theorem s_PlaceOk_ent : Entb Try.prog 33 := ⟨Try.f33, by kernel_rfl, by kernel_rfl, by kernel_rfl⟩
theorem s_PlaceOk_ok : CtrOk Try.prog 33 ⟨s_PlaceOk_sig, s_PlaceOk_f⟩ :=
  ctr_of (fn := Try.f33) (by kernel_rfl) (by kernel_rfl) (fun x : Ts s_PlaceOk_sig.pc => s_PlaceOk_E) (fun x => ⟨(fn_cons ⟨s_l3Ok_ok, s_l3Ok_ent⟩ fn_none), clo_none, wr_none⟩) (fun h => by cases h) follows_ (fun _ _ => trivial)
end FN
set_option linter.unusedVariables false
namespace FN
open Go Go.Proofs
/-! loop.example/firingnets/laws.szIntS -/
@[reducible] def w_szIntS_sig : Sig := { ps := [none, none], pc := [.view .i64, .int .i64], rs := [none], rc := [.int .i64] }
noncomputable def w_szIntS_E : Env' := { fn := fun f => none, ck := ckT, cuts := [], mine := fun i => false }
noncomputable def w_szIntS_f (x : Ts w_szIntS_sig.pc) : Option (Ts w_szIntS_sig.rc) := runFn Try.prog (w_szIntS_E) Try.f32 w_szIntS_sig x
theorem w_szIntS_f_eq (x0 : (List (Int))) (x1 : (Int)) : w_szIntS_f (x0, x1) = (cond ((decide ((IntKind.i64.wrap (x1 - (List.length x0 : Int))) < 0))) (some (-1)) (some (IntKind.i64.wrap (x1 - (List.length x0 : Int))))) := by
  kernel_rfl
theorem w_szIntS_ent : Entb Try.prog 32 := ⟨Try.f32, by kernel_rfl, by kernel_rfl, by kernel_rfl⟩
theorem w_szIntS_ok : CtrOk Try.prog 32 ⟨w_szIntS_sig, w_szIntS_f⟩ :=
  ctr_of (fn := Try.f32) (by kernel_rfl) (by kernel_rfl) (fun x : Ts w_szIntS_sig.pc => w_szIntS_E) (fun x => ⟨fn_none, clo_none, wr_none⟩) (fun h => by cases h) follows_ (fun _ _ => trivial)
end FN
set_option linter.unusedVariables false
namespace FN
open Go Go.Proofs
/-! loop.example/firingnets/laws.szPlace -/
@[reducible] def w_szPlace_sig : Sig := { ps := [some 3, none], pc := [.view .i64, .int .i64, .view .i64, .int .i64], rs := [none], rc := [.int .i64] }
noncomputable def w_szPlace_E : Env' := { fn := fun f => if f = 32 then some ⟨w_szIntS_sig, w_szIntS_f⟩ else none, ck := ckT, cuts := [], mine := fun i => false }
noncomputable def w_szPlace_f (x : Ts w_szPlace_sig.pc) : Option (Ts w_szPlace_sig.rc) := runFn Try.prog (w_szPlace_E) Try.f7 w_szPlace_sig x
theorem w_szPlace_f_eq (x0 : (List (Int))) (x1 : (Int)) (x2 : (List (Int))) (x3 : (Int)) : w_szPlace_f (x0, x1, x2, x3) = (Option.bind (w_szIntS_f (x0, x3)) fun r1 => (cond ((decide (r1 < 0))) (some (-1)) (Option.bind (w_szIntS_f (x2, r1)) fun r2 => (cond ((decide (r2 < 0))) (some (-1)) (some r2))))) := by
  kernel_rfl
theorem w_szPlace_ent : Entb Try.prog 7 := ⟨Try.f7, by kernel_rfl, by kernel_rfl, by kernel_rfl⟩
theorem w_szPlace_ok : CtrOk Try.prog 7 ⟨w_szPlace_sig, w_szPlace_f⟩ :=
  ctr_of (fn := Try.f7) (by kernel_rfl) (by kernel_rfl) (fun x : Ts w_szPlace_sig.pc => w_szPlace_E) (fun x => ⟨(fn_cons ⟨w_szIntS_ok, w_szIntS_ent⟩ fn_none), clo_none, wr_none⟩) (fun h => by cases h) follows_ (fun _ _ => trivial)
end FN
set_option linter.unusedVariables false
namespace FN
open Go Go.Proofs
/-! loop.example/firingnets/laws.toIntS -/
@[reducible] def w_toIntS_sig : Sig := { ps := [none], pc := [.view .i64], rs := [none], rc := [.row 3 .i64] }
noncomputable def w_toIntS_E : Env' := { fn := fun f => none, ck := ckT, cuts := [(3, [0, 3, 4])], mine := fun i => false }
noncomputable def w_toIntS_f (x : Ts w_toIntS_sig.pc) : Option (Ts w_toIntS_sig.rc) := runFn Try.prog (w_toIntS_E) Try.f21 w_toIntS_sig x
noncomputable def w_toIntS_l0 (y0 : List (Int)) (y1 : Int) (y2 : List (Int)) : Option ((List (Int))) := from_ Try.prog (w_toIntS_E) Try.f21 w_toIntS_sig [1, 1, 0, 1, 0] ⟨mkT 22 [(0, .row false .i64 y0), (3, .own 0), (4, .int .i64 y1)], [some (.arr 3 true .i64 y2)]⟩
theorem w_toIntS_f_eq (x0 : (List (Int))) : w_toIntS_f x0 = (if (0 : Int) ≤ (List.length x0 : Int) ∧ (List.length x0 : Int) * 8 ≤ 140737488355328 ∧ (List.length x0 : Int) ≤ 140737488355328 then (w_toIntS_l0 x0 0 (List.replicate ((List.length x0 : Int) : Int).toNat 0 : List (Int))) else none) := by
  kernel_rfl
theorem w_toIntS_l0_eq (y0 : List (Int)) (y1 : Int) (y2 : List (Int)) : w_toIntS_l0 y0 y1 y2 = (cond ((decide (y1 < (List.length y0 : Int)))) (if (0 : Int) ≤ y1 ∧ y1 < (List.length y0 : Int) then (if (0 : Int) ≤ y1 ∧ y1 < (List.length y2 : Int) then (w_toIntS_l0 y0 (IntKind.i64.wrap (y1 + 1)) (List.set y2 (y1 : Int).toNat (List.getD y0 (y1 : Int).toNat 0))) else none) else none) (some y2)) := by
  refine (loopK_eq Try.prog (w_toIntS_E) (sub (Try.f21.body.getD .skip) [1, 1, 0, 1, 0, 0]) _ _).trans ?_
  kernel_rfl
theorem w_toIntS_ent : Entb Try.prog 21 := ⟨Try.f21, by kernel_rfl, by kernel_rfl, by kernel_rfl⟩
theorem w_toIntS_ok : CtrOk Try.prog 21 ⟨w_toIntS_sig, w_toIntS_f⟩ :=
  ctr_of (fn := Try.f21) (by kernel_rfl) (by kernel_rfl) (fun x : Ts w_toIntS_sig.pc => w_toIntS_E) (fun x => ⟨fn_none, clo_none, wr_none⟩) (fun h => by cases h) follows_ (fun _ _ => trivial)
end FN
set_option linter.unusedVariables false
namespace FN
open Go Go.Proofs
/-! loop.example/firingnets/laws.toPlace -/
@[reducible] def w_toPlace_sig : Sig := { ps := [some 3], pc := [.view .i64, .int .i64, .view .i64], rs := [some 3], rc := [.row 3 .i64, .int .i64, .row 3 .i64] }
noncomputable def w_toPlace_E : Env' := { fn := fun f => if f = 21 then some ⟨w_toIntS_sig, w_toIntS_f⟩ else none, ck := ckT, cuts := [], mine := fun i => i == 6 || i == 13 }
noncomputable def w_toPlace_f (x : Ts w_toPlace_sig.pc) : Option (Ts w_toPlace_sig.rc) := runFn Try.prog (w_toPlace_E) Try.f9 w_toPlace_sig x
theorem w_toPlace_f_eq (x0 : (List (Int))) (x1 : (Int)) (x2 : (List (Int))) : w_toPlace_f (x0, x1, x2) = (Option.bind (w_toIntS_f x0) fun r1 => (Option.bind (w_toIntS_f x2) fun r2 => (some (r1, x1, r2)))) := by
  kernel_rfl
theorem w_toPlace_ent : Entb Try.prog 9 := ⟨Try.f9, by kernel_rfl, by kernel_rfl, by kernel_rfl⟩
theorem w_toPlace_ok : CtrOk Try.prog 9 ⟨w_toPlace_sig, w_toPlace_f⟩ :=
  ctr_of (fn := Try.f9) (by kernel_rfl) (by kernel_rfl) (fun x : Ts w_toPlace_sig.pc => w_toPlace_E) (fun x => ⟨(fn_cons ⟨w_toIntS_ok, w_toIntS_ent⟩ fn_none), clo_none, wr_none⟩) (fun h => by cases h) follows_ (fun _ _ => trivial)
end FN
set_option linter.unusedVariables false
namespace FN
open Go Go.Proofs
/-! loop.example/firingnets/laws.eqIntS -/
@[reducible] def w_eqIntS_sig : Sig := { ps := [none, none], pc := [.view .i64, .view .i64], rs := [none], rc := [.bool] }
noncomputable def w_eqIntS_E : Env' := { fn := fun f => none, ck := ckT, cuts := [(4, [0, 1, 5])], mine := fun i => false }
noncomputable def w_eqIntS_f (x : Ts w_eqIntS_sig.pc) : Option (Ts w_eqIntS_sig.rc) := runFn Try.prog (w_eqIntS_E) Try.f23 w_eqIntS_sig x
noncomputable def w_eqIntS_l0 (y0 : List (Int)) (y1 : List (Int)) (y2 : Int) : Option ((Bool)) := from_ Try.prog (w_eqIntS_E) Try.f23 w_eqIntS_sig [1, 1, 0, 1, 0] ⟨mkT 26 [(0, .row false .i64 y0), (1, .row false .i64 y1), (5, .int .i64 y2)], []⟩
theorem w_eqIntS_f_eq (x0 : (List (Int))) (x1 : (List (Int))) : w_eqIntS_f (x0, x1) = (cond (((List.length x0 : Int) != (List.length x1 : Int))) (some false) (w_eqIntS_l0 x0 x1 0)) := by
  kernel_rfl
theorem w_eqIntS_l0_eq (y0 : List (Int)) (y1 : List (Int)) (y2 : Int) : w_eqIntS_l0 y0 y1 y2 = (cond ((decide (y2 < (List.length y0 : Int)))) (if (0 : Int) ≤ y2 ∧ y2 < (List.length y0 : Int) then (if (0 : Int) ≤ y2 ∧ y2 < (List.length y1 : Int) then (cond (((List.getD y0 (y2 : Int).toNat 0) != (List.getD y1 (y2 : Int).toNat 0))) (some false) (w_eqIntS_l0 y0 y1 (IntKind.i64.wrap (y2 + 1)))) else none) else none) (some true)) := by
  refine (loopK_eq Try.prog (w_eqIntS_E) (sub (Try.f23.body.getD .skip) [1, 1, 0, 1, 0, 0]) _ _).trans ?_
  kernel_rfl
theorem w_eqIntS_ent : Entb Try.prog 23 := ⟨Try.f23, by kernel_rfl, by kernel_rfl, by kernel_rfl⟩
theorem w_eqIntS_ok : CtrOk Try.prog 23 ⟨w_eqIntS_sig, w_eqIntS_f⟩ :=
  ctr_of (fn := Try.f23) (by kernel_rfl) (by kernel_rfl) (fun x : Ts w_eqIntS_sig.pc => w_eqIntS_E) (fun x => ⟨fn_none, clo_none, wr_none⟩) (fun h => by cases h) follows_ (fun _ _ => trivial)
end FN
set_option linter.unusedVariables false
namespace FN
open Go Go.Proofs
/-! loop.example/firingnets/laws.eqPlace -/
@[reducible] def w_eqPlace_sig : Sig := { ps := [some 3, some 3], pc := [.view .i64, .int .i64, .view .i64, .view .i64, .int .i64, .view .i64], rs := [none], rc := [.bool] }
noncomputable def w_eqPlace_E : Env' := { fn := fun f => if f = 23 then some ⟨w_eqIntS_sig, w_eqIntS_f⟩ else none, ck := ckT, cuts := [], mine := fun i => false }
noncomputable def w_eqPlace_f (x : Ts w_eqPlace_sig.pc) : Option (Ts w_eqPlace_sig.rc) := runFn Try.prog (w_eqPlace_E) Try.f12 w_eqPlace_sig x
theorem w_eqPlace_f_eq (x0 : (List (Int))) (x1 : (Int)) (x2 : (List (Int))) (x3 : (List (Int))) (x4 : (Int)) (x5 : (List (Int))) : w_eqPlace_f (x0, x1, x2, x3, x4, x5) = (Option.bind (w_eqIntS_f (x0, x3)) fun r1 => (cond ((!r1)) (some false) (cond ((x1 != x4)) (some false) (Option.bind (w_eqIntS_f (x2, x5)) fun r2 => (cond ((!r2)) (some false) (some true)))))) := by
  kernel_rfl
theorem w_eqPlace_ent : Entb Try.prog 12 := ⟨Try.f12, by kernel_rfl, by kernel_rfl, by kernel_rfl⟩
theorem w_eqPlace_ok : CtrOk Try.prog 12 ⟨w_eqPlace_sig, w_eqPlace_f⟩ :=
  ctr_of (fn := Try.f12) (by kernel_rfl) (by kernel_rfl) (fun x : Ts w_eqPlace_sig.pc => w_eqPlace_E) (fun x => ⟨(fn_cons ⟨w_eqIntS_ok, w_eqIntS_ent⟩ fn_none), clo_none, wr_none⟩) (fun h => by cases h) follows_ (fun _ _ => trivial)
end FN
set_option linter.unusedVariables false
namespace FN
open Go Go.Proofs
/-! loop.example/firingnets/laws.heldIntS -/
@[reducible] def w_heldIntS_sig : Sig := { ps := [none, none], pc := [.view .i64, .int .i64], rs := [none], rc := [.int .i64] }
noncomputable def w_heldIntS_E : Env' := { fn := fun f => none, ck := ckT, cuts := [(2, [0, 1, 5])], mine := fun i => false }
noncomputable def w_heldIntS_f (x : Ts w_heldIntS_sig.pc) : Option (Ts w_heldIntS_sig.rc) := runFn Try.prog (w_heldIntS_E) Try.f25 w_heldIntS_sig x
noncomputable def w_heldIntS_l0 (y0 : List (Int)) (y1 : Int) (y2 : Int) : Option ((Int)) := from_ Try.prog (w_heldIntS_E) Try.f25 w_heldIntS_sig [1, 0, 1, 0] ⟨mkT 21 [(0, .row false .i64 y0), (1, .int .i64 y1), (5, .int .i64 y2)], []⟩
theorem w_heldIntS_f_eq (x0 : (List (Int))) (x1 : (Int)) : w_heldIntS_f (x0, x1) = (w_heldIntS_l0 x0 x1 0) := by
  kernel_rfl
theorem w_heldIntS_l0_eq (y0 : List (Int)) (y1 : Int) (y2 : Int) : w_heldIntS_l0 y0 y1 y2 = (cond ((decide (y2 < (List.length y0 : Int)))) (if (0 : Int) ≤ y2 ∧ y2 < (List.length y0 : Int) then (cond (((List.getD y0 (y2 : Int).toNat 0) != y1)) (some (-1)) (w_heldIntS_l0 y0 (IntKind.i64.wrap (y1 + 1)) (IntKind.i64.wrap (y2 + 1)))) else none) (some y1)) := by
  refine (loopK_eq Try.prog (w_heldIntS_E) (sub (Try.f25.body.getD .skip) [1, 0, 1, 0, 0]) _ _).trans ?_
  kernel_rfl
theorem w_heldIntS_ent : Entb Try.prog 25 := ⟨Try.f25, by kernel_rfl, by kernel_rfl, by kernel_rfl⟩
theorem w_heldIntS_ok : CtrOk Try.prog 25 ⟨w_heldIntS_sig, w_heldIntS_f⟩ :=
  ctr_of (fn := Try.f25) (by kernel_rfl) (by kernel_rfl) (fun x : Ts w_heldIntS_sig.pc => w_heldIntS_E) (fun x => ⟨fn_none, clo_none, wr_none⟩) (fun h => by cases h) follows_ (fun _ _ => trivial)
end FN
set_option linter.unusedVariables false
namespace FN
open Go Go.Proofs
/-! loop.example/firingnets/laws.heldPlace -/
@[reducible] def w_heldPlace_sig : Sig := { ps := [some 3, none], pc := [.view .i64, .int .i64, .view .i64, .int .i64], rs := [none], rc := [.int .i64] }
noncomputable def w_heldPlace_E : Env' := { fn := fun f => if f = 25 then some ⟨w_heldIntS_sig, w_heldIntS_f⟩ else none, ck := ckT, cuts := [], mine := fun i => false }
noncomputable def w_heldPlace_f (x : Ts w_heldPlace_sig.pc) : Option (Ts w_heldPlace_sig.rc) := runFn Try.prog (w_heldPlace_E) Try.f39 w_heldPlace_sig x
theorem w_heldPlace_f_eq (x0 : (List (Int))) (x1 : (Int)) (x2 : (List (Int))) (x3 : (Int)) : w_heldPlace_f (x0, x1, x2, x3) = (Option.bind (w_heldIntS_f (x0, x3)) fun r1 => (cond ((decide (r1 < 0))) (some (-1)) (Option.bind (w_heldIntS_f (x2, r1)) fun r2 => (cond ((decide (r2 < 0))) (some (-1)) (some r2))))) := by
  kernel_rfl
theorem w_heldPlace_ent : Entb Try.prog 39 := ⟨Try.f39, by kernel_rfl, by kernel_rfl, by kernel_rfl⟩
theorem w_heldPlace_ok : CtrOk Try.prog 39 ⟨w_heldPlace_sig, w_heldPlace_f⟩ :=
  ctr_of (fn := Try.f39) (by kernel_rfl) (by kernel_rfl) (fun x : Ts w_heldPlace_sig.pc => w_heldPlace_E) (fun x => ⟨(fn_cons ⟨w_heldIntS_ok, w_heldIntS_ent⟩ fn_none), clo_none, wr_none⟩) (fun h => by cases h) follows_ (fun _ _ => trivial)
end FN
set_option linter.unusedVariables false
namespace FN
open Go Go.Proofs
/-! slices.Clone[[]int,int] -/
@[reducible] def x_slices_Clone_int_int_sig : Sig := { ps := [none], pc := [.view .i64], rs := [none], rc := [.row 3 .i64] }
noncomputable def x_slices_Clone_int_int_E : Env' := { fn := fun f => none, ck := ckT, cuts := [], mine := fun i => false }
noncomputable def x_slices_Clone_int_int_f (x : Ts x_slices_Clone_int_int_sig.pc) : Option (Ts x_slices_Clone_int_int_sig.rc) := runFn Try.prog (x_slices_Clone_int_int_E) Try.f56 x_slices_Clone_int_int_sig x
theorem x_slices_Clone_int_int_f_eq (x0 : (List (Int))) : x_slices_Clone_int_int_f x0 = (if true = true ∧ List.length x0 ≠ 0 then (if (List.length ([] : List (Int)) + List.length x0) * 8 ≤ 140737488355328 then (some (([] : List (Int)) ++ x0)) else none) else none) := by
  kernel_rfl
theorem x_slices_Clone_int_int_ent : Entb Try.prog 56 := ⟨Try.f56, by kernel_rfl, by kernel_rfl, by kernel_rfl⟩
theorem x_slices_Clone_int_int_ok : CtrOk Try.prog 56 ⟨x_slices_Clone_int_int_sig, x_slices_Clone_int_int_f⟩ :=
  ctr_of (fn := Try.f56) (by kernel_rfl) (by kernel_rfl) (fun x : Ts x_slices_Clone_int_int_sig.pc => x_slices_Clone_int_int_E) (fun x => ⟨fn_none, clo_none, wr_none⟩) (fun h => by cases h) follows_ (fun _ _ => trivial)
end FN
set_option linter.unusedVariables false
namespace FN
open Go Go.Proofs
/-! loop.example/firingnets/impl.copyPlace -/
@[reducible] def i_copyPlace_sig : Sig := { ps := [some 3], pc := [.view .i64, .int .i64, .view .i64], rs := [some 3], rc := [.row 3 .i64, .int .i64, .row 3 .i64] }
noncomputable def i_copyPlace_E : Env' := { fn := fun f => if f = 56 then some ⟨x_slices_Clone_int_int_sig, x_slices_Clone_int_int_f⟩ else none, ck := ckT, cuts := [], mine := fun i => i == 5 || i == 10 }
noncomputable def i_copyPlace_f (x : Ts i_copyPlace_sig.pc) : Option (Ts i_copyPlace_sig.rc) := runFn Try.prog (i_copyPlace_E) Try.f36 i_copyPlace_sig x
theorem i_copyPlace_f_eq (x0 : (List (Int))) (x1 : (Int)) (x2 : (List (Int))) : i_copyPlace_f (x0, x1, x2) = (Option.bind (x_slices_Clone_int_int_f x0) fun r1 => (Option.bind (x_slices_Clone_int_int_f x2) fun r2 => (some (r1, x1, r2)))) := by
  kernel_rfl
theorem i_copyPlace_ent : Entb Try.prog 36 := ⟨Try.f36, by kernel_rfl, by kernel_rfl, by kernel_rfl⟩
theorem i_copyPlace_ok : CtrOk Try.prog 36 ⟨i_copyPlace_sig, i_copyPlace_f⟩ :=
  ctr_of (fn := Try.f36) (by kernel_rfl) (by kernel_rfl) (fun x : Ts i_copyPlace_sig.pc => i_copyPlace_E) (fun x => ⟨(fn_cons ⟨x_slices_Clone_int_int_ok, x_slices_Clone_int_int_ent⟩ fn_none), clo_none, wr_none⟩) (fun h => by cases h) follows_ (fun _ _ => trivial)
end FN
set_option linter.unusedVariables false
namespace FN
open Go Go.Proofs
/-! loop.example/firingnets/impl.DeskNew -/
@[reducible] def i_DeskNew_sig : Sig := { ps := [some 3], pc := [.view .i64, .int .i64, .view .i64], rs := [some 4, none], rc := [.row 3 .i64, .int .i64, .row 3 .i64, .nil, .bool] }
noncomputable def i_DeskNew_E : Env' := { fn := fun f => if f = 35 then some ⟨i_PlaceOk_sig, i_PlaceOk_f⟩ else if f = 36 then some ⟨i_copyPlace_sig, i_copyPlace_f⟩ else none, ck := ckT, cuts := [], mine := fun i => i == 5 || i == 9 }
noncomputable def i_DeskNew_f (x : Ts i_DeskNew_sig.pc) : Option (Ts i_DeskNew_sig.rc) := runFn Try.prog (i_DeskNew_E) Try.f10 i_DeskNew_sig x
theorem i_DeskNew_f_eq (x0 : (List (Int))) (x1 : (Int)) (x2 : (List (Int))) : i_DeskNew_f (x0, x1, x2) = (Option.bind (i_PlaceOk_f (x0, x1, x2)) fun r1 => (cond ((!r1)) (some ([], 0, [], (), false)) (Option.bind (i_copyPlace_f (x0, x1, x2)) fun r2 => (some (r2.1, r2.2.1, r2.2.2, (), true))))) := by
  kernel_rfl
theorem i_DeskNew_ent : Entb Try.prog 10 := ⟨Try.f10, by kernel_rfl, by kernel_rfl, by kernel_rfl⟩
theorem i_DeskNew_ok : CtrOk Try.prog 10 ⟨i_DeskNew_sig, i_DeskNew_f⟩ :=
  ctr_of (fn := Try.f10) (by kernel_rfl) (by kernel_rfl) (fun x : Ts i_DeskNew_sig.pc => i_DeskNew_E) (fun x => ⟨(fn_cons ⟨i_PlaceOk_ok, i_PlaceOk_ent⟩ (fn_cons ⟨i_copyPlace_ok, i_copyPlace_ent⟩ fn_none)), clo_none, wr_none⟩) (fun h => by cases h) follows_ (fun _ _ => trivial)
end FN
set_option linter.unusedVariables false
namespace FN
open Go Go.Proofs
/-! loop.example/firingnets/spec.l15Place -/
@[reducible] def s_l15Place_sig : Sig := { ps := [some 3], pc := [.view .i64, .int .i64, .view .i64], rs := [some 3], rc := [.row 3 .i64, .int .i64, .row 3 .i64] }
noncomputable def s_l15Place_E : Env' := { fn := fun f => none, ck := ckT, cuts := [], mine := fun i => false }
noncomputable def s_l15Place_f (x : Ts s_l15Place_sig.pc) : Option (Ts s_l15Place_sig.rc) := runFn Try.prog (s_l15Place_E) Try.f34 s_l15Place_sig x
theorem s_l15Place_f_eq (x0 : (List (Int))) (x1 : (Int)) (x2 : (List (Int))) : s_l15Place_f (x0, x1, x2) = (if (List.length ([] : List (Int)) + List.length x0) * 8 ≤ 140737488355328 then (if (List.length ([] : List (Int)) + List.length x2) * 8 ≤ 140737488355328 then (some ((([] : List (Int)) ++ x0), x1, (([] : List (Int)) ++ x2))) else none) else none) := by
  refine Eq.trans (b := (same [(same [(if (List.length ([] : List (Int)) + List.length x0) * 8 ≤ 140737488355328 then (if (List.length ([] : List (Int)) + List.length x2) * 8 ≤ 140737488355328 then (some ((([] : List (Int)) ++ x0), x1, (([] : List (Int)) ++ x2))) else none) else none), (if (List.length ([] : List (Int)) + List.length x0) * 8 ≤ 140737488355328 then (if (List.length ([] : List (Int)) + List.length x2) * 8 ≤ 140737488355328 then (some ((([] : List (Int)) ++ x0), x1, (([] : List (Int)) ++ x2))) else none) else none)]), (if (List.length ([] : List (Int)) + List.length x0) * 8 ≤ 140737488355328 then (if (List.length ([] : List (Int)) + List.length x2) * 8 ≤ 140737488355328 then (some ((([] : List (Int)) ++ x0), x1, (([] : List (Int)) ++ x2))) else none) else none)])) (by kernel_rfl) ?_
  simp only [same2, same3, same4, same5, same6, obind_ite]
theorem s_l15Place_ent : Entb Try.prog 34 := ⟨Try.f34, by kernel_rfl, by kernel_rfl, by kernel_rfl⟩
theorem s_l15Place_ok : CtrOk Try.prog 34 ⟨s_l15Place_sig, s_l15Place_f⟩ :=
  ctr_of (fn := Try.f34) (by kernel_rfl) (by kernel_rfl) (fun x : Ts s_l15Place_sig.pc => s_l15Place_E) (fun x => ⟨fn_none, clo_none, wr_none⟩) (fun h => by cases h) follows_ (fun _ _ => trivial)
end FN
set_option linter.unusedVariables false
namespace FN
open Go Go.Proofs
/-! loop.example/firingnets/spec.DeskNew -/
@[reducible] def s_DeskNew_sig : Sig := { ps := [some 3], pc := [.view .i64, .int .i64, .view .i64], rs := [some 4, none], rc := [.fview .i64, .int .i64, .fview .i64, .row 26 .place, .bool] }
noncomputable def s_DeskNew_E : Env' := { fn := fun f => if f = 33 then some ⟨s_PlaceOk_sig, s_PlaceOk_f⟩ else if f = 34 then some ⟨s_l15Place_sig, s_l15Place_f⟩ else none, ck := ckT, cuts := [], mine := fun i => false }
noncomputable def s_DeskNew_f (x : Ts s_DeskNew_sig.pc) : Option (Ts s_DeskNew_sig.rc) := runFn Try.prog (s_DeskNew_E) Try.f8 s_DeskNew_sig x
theorem s_DeskNew_f_eq (x0 : (List (Int))) (x1 : (Int)) (x2 : (List (Int))) : s_DeskNew_f (x0, x1, x2) = (Option.bind (s_PlaceOk_f (x0, x1, x2)) fun r1 => (cond ((!r1)) (some ([], 0, [], [], false)) (Option.bind (s_l15Place_f (x0, x1, x2)) fun r2 => (some (r2.1, r2.2.1, r2.2.2, [], true))))) := by
  kernel_rfl
theorem s_DeskNew_ent : Entb Try.prog 8 := ⟨Try.f8, by kernel_rfl, by kernel_rfl, by kernel_rfl⟩
theorem s_DeskNew_ok : CtrOk Try.prog 8 ⟨s_DeskNew_sig, s_DeskNew_f⟩ :=
  ctr_of (fn := Try.f8) (by kernel_rfl) (by kernel_rfl) (fun x : Ts s_DeskNew_sig.pc => s_DeskNew_E) (fun x => ⟨(fn_cons ⟨s_PlaceOk_ok, s_PlaceOk_ent⟩ (fn_cons ⟨s_l15Place_ok, s_l15Place_ent⟩ fn_none)), clo_none, wr_none⟩) (fun h => by cases h) follows_ (fun _ _ => trivial)
end FN
set_option linter.unusedVariables false
namespace FN
open Go Go.Proofs
/-! loop.example/firingnets/laws.eqPlaceS -/
@[reducible] def w_eqPlaceS_sig : Sig := { ps := [none, none], pc := [.view .place, .view .place], rs := [none], rc := [.bool] }
noncomputable def w_eqPlaceS_E : Env' := { fn := fun f => if f = 12 then some ⟨w_eqPlace_sig, w_eqPlace_f⟩ else none, ck := ckT, cuts := [(4, [0, 1, 5])], mine := fun i => false }
noncomputable def w_eqPlaceS_f (x : Ts w_eqPlaceS_sig.pc) : Option (Ts w_eqPlaceS_sig.rc) := runFn Try.prog (w_eqPlaceS_E) Try.f37 w_eqPlaceS_sig x
noncomputable def w_eqPlaceS_l0 (y0 : List (List Int × Int × List Int)) (y1 : List (List Int × Int × List Int)) (y2 : Int) : Option ((Bool)) := from_ Try.prog (w_eqPlaceS_E) Try.f37 w_eqPlaceS_sig [1, 1, 0, 1, 0] ⟨mkT 27 [(0, .row false .place y0), (1, .row false .place y1), (5, .int .i64 y2)], []⟩
theorem w_eqPlaceS_f_eq (x0 : (List (List Int × Int × List Int))) (x1 : (List (List Int × Int × List Int))) : w_eqPlaceS_f (x0, x1) = (cond (((List.length x0 : Int) != (List.length x1 : Int))) (some false) (w_eqPlaceS_l0 x0 x1 0)) := by
  kernel_rfl
theorem w_eqPlaceS_l0_eq (y0 : List (List Int × Int × List Int)) (y1 : List (List Int × Int × List Int)) (y2 : Int) : w_eqPlaceS_l0 y0 y1 y2 = (cond ((decide (y2 < (List.length y0 : Int)))) (if (0 : Int) ≤ y2 ∧ y2 < (List.length y0 : Int) then (if (0 : Int) ≤ y2 ∧ y2 < (List.length y1 : Int) then (Option.bind (w_eqPlace_f ((List.getD y0 (y2 : Int).toNat ([], 0, [])).1, (List.getD y0 (y2 : Int).toNat ([], 0, [])).2.1, (List.getD y0 (y2 : Int).toNat ([], 0, [])).2.2, (List.getD y1 (y2 : Int).toNat ([], 0, [])).1, (List.getD y1 (y2 : Int).toNat ([], 0, [])).2.1, (List.getD y1 (y2 : Int).toNat ([], 0, [])).2.2)) fun r1 => (cond ((!r1)) (some false) (w_eqPlaceS_l0 y0 y1 (IntKind.i64.wrap (y2 + 1))))) else none) else none) (some true)) := by
  refine (loopK_eq Try.prog (w_eqPlaceS_E) (sub (Try.f37.body.getD .skip) [1, 1, 0, 1, 0, 0]) _ _).trans ?_
  kernel_rfl
theorem w_eqPlaceS_ent : Entb Try.prog 37 := ⟨Try.f37, by kernel_rfl, by kernel_rfl, by kernel_rfl⟩
theorem w_eqPlaceS_ok : CtrOk Try.prog 37 ⟨w_eqPlaceS_sig, w_eqPlaceS_f⟩ :=
  ctr_of (fn := Try.f37) (by kernel_rfl) (by kernel_rfl) (fun x : Ts w_eqPlaceS_sig.pc => w_eqPlaceS_E) (fun x => ⟨(fn_cons ⟨w_eqPlace_ok, w_eqPlace_ent⟩ fn_none), clo_none, wr_none⟩) (fun h => by cases h) follows_ (fun _ _ => trivial)
end FN
set_option linter.unusedVariables false
namespace FN
open Go Go.Proofs
/-! loop.example/firingnets/laws.eqDesk -/
@[reducible] def w_eqDesk_sig : Sig := { ps := [some 4, some 4], pc := [.view .i64, .int .i64, .view .i64, .view .place, .view .i64, .int .i64, .view .i64, .view .place], rs := [none], rc := [.bool] }
noncomputable def w_eqDesk_E : Env' := { fn := fun f => if f = 12 then some ⟨w_eqPlace_sig, w_eqPlace_f⟩ else if f = 37 then some ⟨w_eqPlaceS_sig, w_eqPlaceS_f⟩ else none, ck := ckT, cuts := [], mine := fun i => false }
noncomputable def w_eqDesk_f (x : Ts w_eqDesk_sig.pc) : Option (Ts w_eqDesk_sig.rc) := runFn Try.prog (w_eqDesk_E) Try.f11 w_eqDesk_sig x
theorem w_eqDesk_f_eq (x0 : (List (Int))) (x1 : (Int)) (x2 : (List (Int))) (x3 : (List (List Int × Int × List Int))) (x4 : (List (Int))) (x5 : (Int)) (x6 : (List (Int))) (x7 : (List (List Int × Int × List Int))) : w_eqDesk_f (x0, x1, x2, x3, x4, x5, x6, x7) = (Option.bind (w_eqPlace_f (x0, x1, x2, x4, x5, x6)) fun r1 => (cond ((!r1)) (some false) (Option.bind (w_eqPlaceS_f (x3, x7)) fun r2 => (cond ((!r2)) (some false) (some true))))) := by
  kernel_rfl
theorem w_eqDesk_ent : Entb Try.prog 11 := ⟨Try.f11, by kernel_rfl, by kernel_rfl, by kernel_rfl⟩
theorem w_eqDesk_ok : CtrOk Try.prog 11 ⟨w_eqDesk_sig, w_eqDesk_f⟩ :=
  ctr_of (fn := Try.f11) (by kernel_rfl) (by kernel_rfl) (fun x : Ts w_eqDesk_sig.pc => w_eqDesk_E) (fun x => ⟨(fn_cons ⟨w_eqPlace_ok, w_eqPlace_ent⟩ (fn_cons ⟨w_eqPlaceS_ok, w_eqPlaceS_ent⟩ fn_none)), clo_none, wr_none⟩) (fun h => by cases h) follows_ (fun _ _ => trivial)
end FN
set_option linter.unusedVariables false
namespace FN
open Go Go.Proofs
/-! loop.example/firingnets/laws.heldPlaceS -/
@[reducible] def w_heldPlaceS_sig : Sig := { ps := [none, none], pc := [.view .place, .int .i64], rs := [none], rc := [.int .i64] }
noncomputable def w_heldPlaceS_E : Env' := { fn := fun f => if f = 25 then some ⟨w_heldIntS_sig, w_heldIntS_f⟩ else none, ck := ckT, cuts := [(2, [0, 1, 5])], mine := fun i => false }
noncomputable def w_heldPlaceS_f (x : Ts w_heldPlaceS_sig.pc) : Option (Ts w_heldPlaceS_sig.rc) := runFn Try.prog (w_heldPlaceS_E) Try.f40 w_heldPlaceS_sig x
noncomputable def w_heldPlaceS_l0 (y0 : List (List Int × Int × List Int)) (y1 : Int) (y2 : Int) : Option ((Int)) := from_ Try.prog (w_heldPlaceS_E) Try.f40 w_heldPlaceS_sig [1, 0, 1, 0] ⟨mkT 40 [(0, .row false .place y0), (1, .int .i64 y1), (5, .int .i64 y2)], []⟩
theorem w_heldPlaceS_f_eq (x0 : (List (List Int × Int × List Int))) (x1 : (Int)) : w_heldPlaceS_f (x0, x1) = (w_heldPlaceS_l0 x0 x1 0) := by
  kernel_rfl
theorem w_heldPlaceS_l0_eq (y0 : List (List Int × Int × List Int)) (y1 : Int) (y2 : Int) : w_heldPlaceS_l0 y0 y1 y2 = (cond ((decide (y2 < (List.length y0 : Int)))) (if (0 : Int) ≤ y2 ∧ y2 < (List.length y0 : Int) then (Option.bind (w_heldIntS_f ((List.getD y0 (y2 : Int).toNat ([], 0, [])).1, y1)) fun r1 => (cond ((decide (r1 < 0))) (some (-1)) (if (0 : Int) ≤ y2 ∧ y2 < (List.length y0 : Int) then (cond (((List.getD y0 (y2 : Int).toNat ([], 0, [])).2.1 != r1)) (some (-1)) (if (0 : Int) ≤ y2 ∧ y2 < (List.length y0 : Int) then (Option.bind (w_heldIntS_f ((List.getD y0 (y2 : Int).toNat ([], 0, [])).2.2, (IntKind.i64.wrap (r1 + 1)))) fun r2 => (cond ((decide (r2 < 0))) (some (-1)) (w_heldPlaceS_l0 y0 r2 (IntKind.i64.wrap (y2 + 1))))) else none)) else none))) else none) (some y1)) := by
  refine (loopK_eq Try.prog (w_heldPlaceS_E) (sub (Try.f40.body.getD .skip) [1, 0, 1, 0, 0]) _ _).trans ?_
  kernel_rfl
theorem w_heldPlaceS_ent : Entb Try.prog 40 := ⟨Try.f40, by kernel_rfl, by kernel_rfl, by kernel_rfl⟩
theorem w_heldPlaceS_ok : CtrOk Try.prog 40 ⟨w_heldPlaceS_sig, w_heldPlaceS_f⟩ :=
  ctr_of (fn := Try.f40) (by kernel_rfl) (by kernel_rfl) (fun x : Ts w_heldPlaceS_sig.pc => w_heldPlaceS_E) (fun x => ⟨(fn_cons ⟨w_heldIntS_ok, w_heldIntS_ent⟩ fn_none), clo_none, wr_none⟩) (fun h => by cases h) follows_ (fun _ _ => trivial)
end FN
set_option linter.unusedVariables false
namespace FN
open Go Go.Proofs
/-! loop.example/firingnets/laws.heldDesk -/
@[reducible] def w_heldDesk_sig : Sig := { ps := [some 4, none], pc := [.view .i64, .int .i64, .view .i64, .view .place, .int .i64], rs := [none], rc := [.int .i64] }
noncomputable def w_heldDesk_E : Env' := { fn := fun f => if f = 39 then some ⟨w_heldPlace_sig, w_heldPlace_f⟩ else if f = 40 then some ⟨w_heldPlaceS_sig, w_heldPlaceS_f⟩ else none, ck := ckT, cuts := [], mine := fun i => false }
noncomputable def w_heldDesk_f (x : Ts w_heldDesk_sig.pc) : Option (Ts w_heldDesk_sig.rc) := runFn Try.prog (w_heldDesk_E) Try.f15 w_heldDesk_sig x
theorem w_heldDesk_f_eq (x0 : (List (Int))) (x1 : (Int)) (x2 : (List (Int))) (x3 : (List (List Int × Int × List Int))) (x4 : (Int)) : w_heldDesk_f (x0, x1, x2, x3, x4) = (Option.bind (w_heldPlace_f (x0, x1, x2, x4)) fun r1 => (cond ((decide (r1 < 0))) (some (-1)) (Option.bind (w_heldPlaceS_f (x3, r1)) fun r2 => (cond ((decide (r2 < 0))) (some (-1)) (some r2))))) := by
  kernel_rfl
theorem w_heldDesk_ent : Entb Try.prog 15 := ⟨Try.f15, by kernel_rfl, by kernel_rfl, by kernel_rfl⟩
theorem w_heldDesk_ok : CtrOk Try.prog 15 ⟨w_heldDesk_sig, w_heldDesk_f⟩ :=
  ctr_of (fn := Try.f15) (by kernel_rfl) (by kernel_rfl) (fun x : Ts w_heldDesk_sig.pc => w_heldDesk_E) (fun x => ⟨(fn_cons ⟨w_heldPlace_ok, w_heldPlace_ent⟩ (fn_cons ⟨w_heldPlaceS_ok, w_heldPlaceS_ent⟩ fn_none)), clo_none, wr_none⟩) (fun h => by cases h) follows_ (fun _ _ => trivial)
end FN
/-! What writes one number behind the other into a row. -/
namespace FN
open Go Go.Proofs
noncomputable def E0 : Env' := { fn := fun _ => none, ck := ckT, cuts := [], mine := fun _ => false }
theorem E0c : E0.cuts = [] := rfl
theorem E0_ok : EnvOk Try.prog E0 := ⟨fn_none, clo_none, wr_none⟩
noncomputable def mB : Code := sub (Try.f24.body.getD .skip) [1, 0, 1, 0, 0]
theorem m_el : elemT Try.prog 22 = some 3 := by kernel_rfl
theorem m_sz : szOf Try.prog 3 = 1 := by kernel_rfl
theorem m_info : (Try.prog.info? 3).isSome = true := by kernel_rfl
section
variable {R : Type} {id : Nat} {e : TypeId} {f : Bool}
theorem m_store {h : Hp} {xs : List Int} (hg : h.get id = some (.arr e f .i64 xs)) (n : Nat) (k : Int) (K : Hp → Option R) :
    storeK Try.prog 3 (.ep id .i64 n 0) (.int .i64 k) h K = K (h.set id (some (.arr e f .i64 (xs.set n k)))) := by
  simp only [storeK, cellsOf, frzs, frz, hg, m_sz, m_info]
  simp [CK.sz, oneP, CK.flds, decE]
theorem m_iter {h : Hp} {xs : List Int} (hg : h.get id = some (.arr e f .i64 xs)) (hl : xs.length ≤ 4611686018427387904) {i k : Int} (hi : 0 ≤ i) (hi' : i ≤ xs.length) (hk : 0 ≤ k) (hk' : k ≤ 4611686018427387904) (a2 a3 a4 a6 a7 a8 a9 a10 a11 a12 a13 a14 a15 a16 a17 a18 : PV) (K : AX → St → Option R) :
    exCode Try.prog E0 mB ⟨[.own id, .int .i64 k, a2, a3, a4, .int .i64 i, a6, a7, a8, a9, a10, a11, a12, a13, a14, a15, a16, a17, a18], h⟩ K =
      if i < xs.length then K .norm ⟨[.own id, .int .i64 (k + 1), a2, a3, a4, .int .i64 (i + 1), .int .i64 i, .own id, .int .i64 xs.length, .bool true, .int .i64 i, .int .i64 (i + 1), .own id, .int .i64 i, .int .i64 k, .ep id .i64 i.toNat 0, .int .i64 k, .int .i64 (k + 1), a18], h.set id (some (.arr e f .i64 (xs.set i.toNat k)))⟩
      else K (.ex 0) ⟨[.own id, .int .i64 k, a2, a3, a4, .int .i64 i, .int .i64 i, .own id, .int .i64 xs.length, .bool false, a10, a11, a12, a13, a14, a15, a16, a17, a18], h⟩ := by
  have w1 : IntKind.i64.wrap (k + 1) = k + 1 := by simp [IntKind.wrap, IntKind.bits, IntKind.signed]; split <;> omega
  have w2 : IntKind.i64.wrap (i + 1) = i + 1 := by simp [IntKind.wrap, IntKind.bits, IntKind.signed]; split <;> omega
  simp only [mB, sub, Try.f24, Option.getD_some, exCode, cutS0 E0c]
  simp only [regOrd, Bool.false_eq_true, if_false, exOps, opK, ev, ofVal, List.getD_cons_zero, List.getD_cons_succ, putT, List.set_cons_zero, List.set_cons_succ]
  simp only [lenK, hg, m_el, Option.isSome_some, if_true, binK]
  by_cases c : i < xs.length
  · rw [if_pos c]
    simp only [decide_eq_true c, cond_true, m_sz, CK.sz, if_true]
    rw [if_pos ⟨hi, c⟩, m_store hg]
    simp only [w1, w2]
  · rw [if_neg c]
    simp only [decide_eq_false c, cond_false]
theorem get_set {h : Hp} {b b' : Blk} (hg : h.get id = some b) : Hp.get (h.set id (some b')) id = some b' := by
  have hl : id < h.length := by
    rcases Nat.lt_or_ge id h.length with hh | hh
    · exact hh
    · simp [Hp.get, List.getElem?_eq_none hh] at hg
  simp [Hp.get, hl]
theorem hset_same {h : Hp} {b : Blk} (hg : h.get id = some b) : h.set id (some b) = h := by
  apply List.ext_getElem?
  intro j
  rw [List.getElem?_set]
  split
  · rename_i e
    subst e
    split
    · rename_i hl
      simp only [Hp.get] at hg
      rw [List.getElem?_eq_getElem hl] at hg ⊢
      simp only [Option.getD_some] at hg
      rw [hg]
    · rename_i hl
      rw [List.getElem?_eq_none (by omega)]
  · rfl
theorem m_loop (r : Option R) (K : AX → St → Option R) : ∀ (n : Nat) {h : Hp} {xs : List Int} (_ : h.get id = some (.arr e f .i64 xs)) (_ : xs.length ≤ 4611686018427387904) {i k : Int} (_ : 0 ≤ i) (_ : i + n = xs.length) (_ : 0 ≤ k) (_ : k + n ≤ 4611686018427387904) (a2 a3 a4 a6 a7 a8 a9 a10 a11 a12 a13 a14 a15 a16 a17 a18 : PV),
    (∀ c6 c7 c8 c9 c10 c11 c12 c13 c14 c15 c16 c17 : PV, K (.ex 0) ⟨[.own id, .int .i64 (k + n), a2, a3, a4, .int .i64 (i + n), c6, c7, c8, c9, c10, c11, c12, c13, c14, c15, c16, c17, a18], h.set id (some (.arr e f .i64 (xs.take i.toNat ++ markL k (xs.drop i.toNat))))⟩ = r) →
    loopK E0 (exCode Try.prog E0 mB) mB ⟨[.own id, .int .i64 k, a2, a3, a4, .int .i64 i, a6, a7, a8, a9, a10, a11, a12, a13, a14, a15, a16, a17, a18], h⟩ K = r := by
  intro n
  induction n with
  | zero =>
    intro h xs hg hl i k hi hn hk hk' a2 a3 a4 a6 a7 a8 a9 a10 a11 a12 a13 a14 a15 a16 a17 a18 hr
    rw [loopK_eq, m_iter hg hl hi (by omega) hk (by omega), if_neg (by omega)]
    simp only
    have e1 : xs.take i.toNat ++ markL k (xs.drop i.toNat) = xs := by
      rw [List.drop_eq_nil_of_le (by omega), List.take_of_length_le (by omega)]
      simp [markL]
    rw [e1, hset_same hg] at hr
    have := hr (.int .i64 i) (.own id) (.int .i64 xs.length) (.bool false) a10 a11 a12 a13 a14 a15 a16 a17
    simpa using this
  | succ n ih =>
    intro h xs hg hl i k hi hn hk hk' a2 a3 a4 a6 a7 a8 a9 a10 a11 a12 a13 a14 a15 a16 a17 a18 hr
    rw [loopK_eq, m_iter hg hl hi (by omega) hk (by omega), if_pos (by omega)]
    simp only
    rw [cutK0 E0c]
    refine ih (get_set hg) (by rw [List.length_set]; exact hl) (by omega) (by rw [List.length_set]; omega) (by omega) (by omega) a2 a3 a4 _ _ _ _ _ _ _ _ _ _ _ _ a18 fun c6 c7 c8 c9 c10 c11 c12 c13 c14 c15 c16 c17 => ?_
    have := hr c6 c7 c8 c9 c10 c11 c12 c13 c14 c15 c16 c17
    rw [List.set_set]
    have hlt : i.toNat < xs.length := by omega
    have e1 : (xs.set i.toNat k).take (i + 1).toNat ++ markL (k + 1) ((xs.set i.toNat k).drop (i + 1).toNat) = xs.take i.toNat ++ markL k (xs.drop i.toNat) := by
      rw [show (i + 1).toNat = i.toNat + 1 by omega, List.drop_eq_getElem_cons hlt, markL, List.take_succ_eq_append_getElem (by simpa using hlt), List.append_assoc]
      congr 1
      · rw [List.take_set_of_le (Nat.le_refl _)]
      · rw [List.getElem_set_self, List.drop_set_of_lt (Nat.lt_succ_self _)]
        rfl
    rw [e1, show k + 1 + (n : Int) = k + ((n + 1 : Nat) : Int) by omega, show i + 1 + (n : Int) = i + ((n + 1 : Nat) : Int) by omega]
    exact this
end
noncomputable def mR0 : Code := sub (Try.f24.body.getD .skip) [0]
noncomputable def mR1 : Code := sub (Try.f24.body.getD .skip) [1, 0, 0]
noncomputable def mR6 : Code := sub (Try.f24.body.getD .skip) [1, 1, 0]
theorem m_body : Try.f24.body.getD .skip = .seq mR0 (.seq (.seq mR1 (.block 0 (.loop mB))) (.seq mR6 .ret)) := by kernel_rfl
theorem m_r0 {R : Type} (p0 p1 p2 p3 p4 p5 p6 p7 p8 p9 p10 p11 p12 p13 p14 p15 p16 p17 p18 : PV) (h : Hp) (K : AX → St → Option R) :
    exCode Try.prog E0 mR0 ⟨[p0, p1, p2, p3, p4, p5, p6, p7, p8, p9, p10, p11, p12, p13, p14, p15, p16, p17, p18], h⟩ K = K .norm ⟨[p0, p1, p2, p3, .int .i64 0, p5, p6, p7, p8, p9, p10, p11, p12, p13, p14, p15, p16, p17, p18], h⟩ := by kernel_rfl
theorem m_r1 {R : Type} (p0 p1 p2 p3 p4 p5 p6 p7 p8 p9 p10 p11 p12 p13 p14 p15 p16 p17 p18 : PV) (h : Hp) (K : AX → St → Option R) :
    exCode Try.prog E0 mR1 ⟨[p0, p1, p2, p3, p4, p5, p6, p7, p8, p9, p10, p11, p12, p13, p14, p15, p16, p17, p18], h⟩ K = K .norm ⟨[p0, p1, p2, p3, p4, .int .i64 0, p6, p7, p8, p9, p10, p11, p12, p13, p14, p15, p16, p17, p18], h⟩ := by kernel_rfl
theorem m_r6 {R : Type} (p0 p1 p2 p3 p4 p5 p6 p7 p8 p9 p10 p11 p12 p13 p14 p15 p16 p17 p18 : PV) (h : Hp) (K : AX → St → Option R) :
    exCode Try.prog E0 mR6 ⟨[p0, p1, p2, p3, p4, p5, p6, p7, p8, p9, p10, p11, p12, p13, p14, p15, p16, p17, p18], h⟩ K = K .norm ⟨[p0, p1, p2, p3, p1, p5, p6, p7, p8, p9, p10, p11, p12, p13, p14, p15, p16, p17, p1], h⟩ := by kernel_rfl
theorem m_end (p0 p1 p2 p3 p4 p5 p6 p7 p8 p9 p10 p11 p12 p13 p14 p15 p16 p17 p18 : PV) (h : Hp) :
    endW Try.prog Try.f24 .ret ⟨[p0, p1, p2, p3, p4, p5, p6, p7, p8, p9, p10, p11, p12, p13, p14, p15, p16, p17, p18], h⟩ = some (p4, h) := by kernel_rfl
theorem exSeq {R : Type} {x y : Code} {s : St} {K : AX → St → Option R} : exCode Try.prog E0 (.seq x y) s K = exCode Try.prog E0 x s (fun e s' => match e with | .norm => exCode Try.prog E0 y s' K | e => K e s') := by
  rw [exCode]
  congr 1
  funext e s'
  cases e <;> first | rfl | exact cutS0 E0c
theorem exBlock {R : Type} {i : Nat} {b : Code} {s : St} {K : AX → St → Option R} : exCode Try.prog E0 (.block i b) s K = exCode Try.prog E0 b s (fun e s' => match e with | .ex j => if j = i then K .norm s' else K (.ex j) s' | e => K e s') := by
  rw [exCode]
  congr 1
theorem exLoop {R : Type} {b : Code} {s : St} {K : AX → St → Option R} : exCode Try.prog E0 (.loop b) s K = loopK E0 (exCode Try.prog E0 b) b s K := by
  rw [exCode, cutK0 E0c]
theorem exRet {R : Type} {s : St} {K : AX → St → Option R} : exCode Try.prog E0 .ret s K = K .ret s := by rw [exCode]
theorem m_whole {p0 p1 : PV} {h : Hp} {r : Option (PV × Hp)} (hl : ∀ K : AX → St → Option (PV × Hp), (∀ c2 c3 c4 c6 c7 c8 c9 c10 c11 c12 c13 c14 c15 c16 c17 c18 k i q g, K (.ex 0) ⟨[q, k, c2, c3, c4, i, c6, c7, c8, c9, c10, c11, c12, c13, c14, c15, c16, c17, c18], g⟩ = some (k, g)) → loopK E0 (exCode Try.prog E0 mB) mB ⟨[p0, p1, .junk, .junk, .int .i64 0, .int .i64 0, .junk, .junk, .junk, .junk, .junk, .junk, .junk, .junk, .junk, .junk, .junk, .junk, .junk], h⟩ K = r) :
    exCode Try.prog E0 (Try.f24.body.getD .skip) ⟨[p0, p1] ++ List.replicate (Try.f24.ntmps - 2) .junk, h⟩ (endW Try.prog Try.f24) = r := by
  have e : List.replicate (Try.f24.ntmps - 2) PV.junk = [.junk, .junk, .junk, .junk, .junk, .junk, .junk, .junk, .junk, .junk, .junk, .junk, .junk, .junk, .junk, .junk, .junk] := by kernel_rfl
  rw [m_body, e, exSeq, List.cons_append, List.cons_append, List.nil_append, m_r0]
  simp only
  rw [exSeq, exSeq, m_r1]
  simp only
  rw [exBlock, exLoop]
  refine hl _ fun c2 c3 c4 c6 c7 c8 c9 c10 c11 c12 c13 c14 c15 c16 c17 c18 k i q g => ?_
  simp only [if_true]
  rw [exSeq, m_r6]
  simp only
  rw [exRet]
  exact m_end _ _ _ _ _ _ _ _ _ _ _ _ _ _ _ _ _ _ _ g
theorem ints_run {id : Nat} {e : TypeId} {f : Bool} {h : Hp} {xs : List Int} (hg : h.get id = some (.arr e f .i64 xs)) {k : Int} (hk : 0 ≤ k) (hk' : k + xs.length ≤ 4611686018427387904) :
    exCode Try.prog E0 (Try.f24.body.getD .skip) ⟨[.own id, .int .i64 k] ++ List.replicate (Try.f24.ntmps - 2) .junk, h⟩ (endW Try.prog Try.f24) = some (.int .i64 (k + xs.length), h.set id (some (.arr e f .i64 (markL k xs)))) :=
  m_whole fun K hK => m_loop _ K xs.length hg (by omega) (by omega) (by omega) hk hk' _ _ _ _ _ _ _ _ _ _ _ _ _ _ _ _ fun c6 c7 c8 c9 c10 c11 c12 c13 c14 c15 c16 c17 => hK _ _ _ _ _ _ _ _ _ _ _ _ _ _ _ _ _ _ _ _
theorem m_nil {R : Type} (h : Hp) (p1 : PV) (K : AX → St → Option R) : exCode Try.prog E0 mB ⟨[.nilS, p1, .junk, .junk, .int .i64 0, .int .i64 0, .junk, .junk, .junk, .junk, .junk, .junk, .junk, .junk, .junk, .junk, .junk, .junk, .junk], h⟩ K = K (.ex 0) ⟨[.nilS, p1, .junk, .junk, .int .i64 0, .int .i64 0, .int .i64 0, .nilS, .int .i64 0, .bool false, .junk, .junk, .junk, .junk, .junk, .junk, .junk, .junk, .junk], h⟩ := by kernel_rfl
theorem ints_nil {h : Hp} {k : Int} : exCode Try.prog E0 (Try.f24.body.getD .skip) ⟨[.nilS, .int .i64 k] ++ List.replicate (Try.f24.ntmps - 2) .junk, h⟩ (endW Try.prog Try.f24) = some (.int .i64 k, h) :=
  m_whole fun K hK => by
    rw [loopK_eq, m_nil]
    exact hK _ _ _ _ _ _ _ _ _ _ _ _ _ _ _ _ _ _ _ _
theorem w_markIntS_mk : MkOk Try.prog 24 .ints := by
  intro ps h h' p pin base w ρ us hk hI hH hus
  have fin : exCode Try.prog E0 (Try.f24.body.getD .skip) ⟨ps ++ List.replicate (Try.f24.ntmps - ps.length) .junk, h⟩ (endW Try.prog Try.f24) = some (p, h') := by
    unfold markK at hk
    split at hk
    · rename_i q k _
      unfold markI at hk
      split at hk
      · injection hk with hk; injection hk with h1 h2; subst h1; subst h2; exact ints_nil
      · split at hk
        · rename_i id e f xs hg
          split at hk
          · rename_i hc
            injection hk with hk; injection hk with h1 h2; subst h1; subst h2
            exact ints_run hg hc.1 hc.2
          · cases hk
        · cases hk
      · cases hk
    all_goals first | (rename_i hm _; cases hm; done) | (rename_i hm; cases hm; done) | (cases hk; done) | contradiction
  exact wr_of (E := E0) E0_ok E0c follows_ (fn := Try.f24) (c := Try.f24.body.getD .skip) (by kernel_rfl) (by kernel_rfl) rfl fin hI hH hus
noncomputable def E1 : Env' := withWr E0 (fun f => if f = 24 then some .ints else none)
theorem E1c : E1.cuts = [] := rfl
theorem E1_ok : EnvOk Try.prog E1 := withWr_ok E0_ok (tab_cons w_markIntS_mk tab_none)
theorem get_last (h : Hp) (b : Option Blk) : Hp.get (h ++ [b]) h.length = b := by simp [Hp.get]
theorem e1_call {R : Type} {p : PV} {k : Int} {mn : Bool} {h : Hp} {K : PV → Hp → Option R} : callK E1 24 [p, .int .i64 k] mn h K = markI p k h fun k h => K (.int .i64 k) h := by kernel_rfl
noncomputable def pC : Code := Try.f13.body.getD .skip
theorem p_o0 : offOf Try.prog 26 0 = some (0, 22) := by kernel_rfl
theorem p_o2 : offOf Try.prog 26 2 = some (2, 22) := by kernel_rfl
theorem p_sz : szOf Try.prog 22 = 1 := by kernel_rfl
theorem p_load {R : Type} {h : Hp} {id off : Nat} {t : TypeId} {cells : List PV} {p : PV} (hg : h.get id = some (.box t cells)) (hp : cells[off]? = some p) (K : PV → Option R) : loadK Try.prog 22 (.ptr id off) h K = K p := by
  have hu : ∃ u, Try.prog.underlying 22 = some u := ⟨_, Try.underlying22⟩
  obtain ⟨u, hu⟩ := hu
  have ha : isAggB Try.prog 22 = false := by kernel_rfl
  simp only [loadK, hg, readK, hu, ha, Bool.false_eq_true, if_false, hp]
theorem p_run {R : Type} {p q : PV} {x k k1 : Int} {h h2 : Hp} (hp : oneP p = true) (hq : oneP q = true) (h1 : ∀ (R : Type) (F : Int → Hp → Option R), markI p k (h ++ [some (.box 26 [p, .int .i64 x, q])]) F = F k1 h2) (hb : Hp.get h2 h.length = some (.box 26 [p, .int .i64 x, q])) (K : AX → St → Option R) (a2 a3 a4 a5 a6 a7 a8 a9 a10 a11 a12 a13 : PV) :
    ∃ G : PV → List PV, (∀ v, (G v).getD 4 .junk = v) ∧ exCode Try.prog E1 pC ⟨[.agg [p, .int .i64 x, q], .int .i64 k, a2, a3, a4, a5, a6, a7, a8, a9, a10, a11, a12, a13], h⟩ K = markI q k1 h2 fun k h => K .ret ⟨G (.int .i64 k), h⟩ := by
  have hi : oneP (.int .i64 x) = true := rfl
  refine ⟨fun v => [.agg [p, .int .i64 x, q], v, .ptr h.length 0, a3, v, .ptr h.length 0, p, .int .i64 k, .int .i64 k1, .ptr h.length 2, q, .int .i64 k1, v, v], fun v => rfl, ?_⟩
  simp only [pC, Try.f13, Option.getD_some, exCode, cutS0 E1c]
  simp only [regOrd, Bool.false_eq_true, if_false, exOps, opK, ev, ofVal, cellsOf, List.all_cons, List.all_nil, hp, hq, hi, Bool.and_true, if_true, List.getD_cons_zero, List.getD_cons_succ, putT, List.set_cons_zero, List.set_cons_succ, p_o0, p_o2, p_sz, Nat.one_ne_zero]
  rw [p_load (get_last h _) (by rfl)]
  simp only [List.map_cons, List.map_nil, ev, List.getD_cons_zero, List.getD_cons_succ, e1_call, h1]
  rw [p_load hb (by rfl)]
theorem markI_some {p : PV} {k : Int} {h : Hp} {R : Type} {F : Int → Hp → Option R} {r : R} (hk : markI p k h F = some r) : oneP p = true ∧ ∃ k1 h2, (∀ (R : Type) (F : Int → Hp → Option R), markI p k h F = F k1 h2) ∧ F k1 h2 = some r ∧ ∀ id t cells, h.get id = some (.box t cells) → h2.get id = some (.box t cells) := by
  unfold markI at hk
  split at hk
  · exact ⟨rfl, k, h, fun _ _ => rfl, hk, fun _ _ _ hb => hb⟩
  · rename_i id
    split at hk
    · rename_i e f xs hg
      split at hk
      · rename_i hc
        refine ⟨rfl, _, _, fun R F => ?_, hk, fun j t cells hb => ?_⟩
        · simp only [markI, hg, hc, and_self, if_true]
        · by_cases e : j = id
          · subst e; rw [hg] at hb; cases hb
          · simp only [Hp.get] at hb ⊢
            rw [List.getElem?_set_ne (Ne.symm e)]
            exact hb
      · cases hk
    · cases hk
  · cases hk
theorem w_markPlace_mk : MkOk Try.prog 13 (.place 26) := by
  intro ps h h' p pin base w ρ us hk hI hH hus
  have fin : exCode Try.prog E1 (Try.f13.body.getD .skip) ⟨ps ++ List.replicate (Try.f13.ntmps - ps.length) .junk, h⟩ (endW Try.prog Try.f13) = some (p, h') := by
    unfold markK at hk
    split at hk
    case h_2 t p0 x q k he =>
      injection he with he
      subst he
      obtain ⟨o1, k1, h2, g1, g2, g3⟩ := markI_some hk
      obtain ⟨o2, k3, h4, g4, g5, g6⟩ := markI_some g2
      have hb := g3 h.length _ _ (get_last h _)
      obtain ⟨G, hG, hrun⟩ := p_run (q := q) (x := x) o1 o2 g1 hb (endW Try.prog Try.f13) .junk .junk .junk .junk .junk .junk .junk .junk .junk .junk .junk .junk
      have e : List.replicate (Try.f13.ntmps - 2) PV.junk = [.junk, .junk, .junk, .junk, .junk, .junk, .junk, .junk, .junk, .junk, .junk, .junk] := by kernel_rfl
      refine Eq.trans (congrArg (fun t => exCode Try.prog E1 (Try.f13.body.getD .skip) ⟨t, h⟩ (endW Try.prog Try.f13)) (show _ = [.agg [p0, .int .i64 x, q], .int .i64 k, .junk, .junk, .junk, .junk, .junk, .junk, .junk, .junk, .junk, .junk, .junk, .junk] from congrArg ([PV.agg [p0, .int .i64 x, q], .int .i64 k] ++ ·) e)) ?_
      refine hrun.trans ?_
      rw [g4]
      injection g5 with g5
      injection g5 with g5 g7
      subst g5; subst g7
      have hr : Try.f13.results.toList = [.tmp 4] := by kernel_rfl
      simp only [endW, hr, resPs, Option.map_some, Option.bind_some, hG]
    all_goals first | (cases hk; done) | (rename_i he; cases he; done) | (rename_i he _; cases he; done) | contradiction
  exact wr_of (E := E1) E1_ok E1c follows_ (fn := Try.f13) (c := Try.f13.body.getD .skip) (by kernel_rfl) (by kernel_rfl) rfl fin hI hH hus
end FN
/-! markPlaceS of no places, markDesk of a desk without places of before. -/
namespace FN
open Go Go.Proofs
noncomputable def qB : Code := sub (Try.f38.body.getD .skip) [1, 0, 1, 0, 0]
noncomputable def qR0 : Code := sub (Try.f38.body.getD .skip) [0]
noncomputable def qR1 : Code := sub (Try.f38.body.getD .skip) [1, 0, 0]
noncomputable def qR8 : Code := sub (Try.f38.body.getD .skip) [1, 1, 0]
theorem q_body : Try.f38.body.getD .skip = .seq qR0 (.seq (.seq qR1 (.block 0 (.loop qB))) (.seq qR8 .ret)) := by kernel_rfl
theorem q_r0 {R : Type} (p0 p1 p2 p3 p4 p5 p6 p7 p8 p9 p10 p11 p12 p13 p14 p15 p16 p17 p18 p19 p20 p21 p22 p23 p24 p25 p26 p27 p28 p29 p30 p31 p32 p33 : PV) (h : Hp) (K : AX → St → Option R) :
    exCode Try.prog E0 qR0 ⟨[p0, p1, p2, p3, p4, p5, p6, p7, p8, p9, p10, p11, p12, p13, p14, p15, p16, p17, p18, p19, p20, p21, p22, p23, p24, p25, p26, p27, p28, p29, p30, p31, p32, p33], h⟩ K = K .norm ⟨[p0, p1, p2, p3, .int .i64 0, p5, p6, p7, p8, p9, p10, p11, p12, p13, p14, p15, p16, p17, p18, p19, p20, p21, p22, p23, p24, p25, p26, p27, p28, p29, p30, p31, p32, p33], h⟩ := by kernel_rfl
theorem q_r1 {R : Type} (p0 p1 p2 p3 p4 p5 p6 p7 p8 p9 p10 p11 p12 p13 p14 p15 p16 p17 p18 p19 p20 p21 p22 p23 p24 p25 p26 p27 p28 p29 p30 p31 p32 p33 : PV) (h : Hp) (K : AX → St → Option R) :
    exCode Try.prog E0 qR1 ⟨[p0, p1, p2, p3, p4, p5, p6, p7, p8, p9, p10, p11, p12, p13, p14, p15, p16, p17, p18, p19, p20, p21, p22, p23, p24, p25, p26, p27, p28, p29, p30, p31, p32, p33], h⟩ K = K .norm ⟨[p0, p1, p2, p3, p4, .int .i64 0, p6, p7, p8, p9, p10, p11, p12, p13, p14, p15, p16, p17, p18, p19, p20, p21, p22, p23, p24, p25, p26, p27, p28, p29, p30, p31, p32, p33], h⟩ := by kernel_rfl
theorem q_r8 {R : Type} (p0 p1 p2 p3 p4 p5 p6 p7 p8 p9 p10 p11 p12 p13 p14 p15 p16 p17 p18 p19 p20 p21 p22 p23 p24 p25 p26 p27 p28 p29 p30 p31 p32 p33 : PV) (h : Hp) (K : AX → St → Option R) :
    exCode Try.prog E0 qR8 ⟨[p0, p1, p2, p3, p4, p5, p6, p7, p8, p9, p10, p11, p12, p13, p14, p15, p16, p17, p18, p19, p20, p21, p22, p23, p24, p25, p26, p27, p28, p29, p30, p31, p32, p33], h⟩ K = K .norm ⟨[p0, p1, p2, p3, p1, p5, p6, p7, p8, p9, p10, p11, p12, p13, p14, p15, p16, p17, p18, p19, p20, p21, p22, p23, p24, p25, p26, p27, p28, p29, p30, p31, p32, p1], h⟩ := by kernel_rfl
theorem q_end (p0 p1 p2 p3 p4 p5 p6 p7 p8 p9 p10 p11 p12 p13 p14 p15 p16 p17 p18 p19 p20 p21 p22 p23 p24 p25 p26 p27 p28 p29 p30 p31 p32 p33 : PV) (h : Hp) : endW Try.prog Try.f38 .ret ⟨[p0, p1, p2, p3, p4, p5, p6, p7, p8, p9, p10, p11, p12, p13, p14, p15, p16, p17, p18, p19, p20, p21, p22, p23, p24, p25, p26, p27, p28, p29, p30, p31, p32, p33], h⟩ = some (p4, h) := by kernel_rfl
theorem q_nil {R : Type} (h : Hp) (p1 : PV) (K : AX → St → Option R) : exCode Try.prog E0 qB ⟨[.nilS, p1, .junk, .junk, .int .i64 0, .int .i64 0, .junk, .junk, .junk, .junk, .junk, .junk, .junk, .junk, .junk, .junk, .junk, .junk, .junk, .junk, .junk, .junk, .junk, .junk, .junk, .junk, .junk, .junk, .junk, .junk, .junk, .junk, .junk, .junk], h⟩ K = K (.ex 0) ⟨[.nilS, p1, .junk, .junk, .int .i64 0, .int .i64 0, .int .i64 0, .nilS, .int .i64 0, .bool false, .junk, .junk, .junk, .junk, .junk, .junk, .junk, .junk, .junk, .junk, .junk, .junk, .junk, .junk, .junk, .junk, .junk, .junk, .junk, .junk, .junk, .junk, .junk, .junk], h⟩ := by kernel_rfl
theorem places_nil {h : Hp} {k : Int} : exCode Try.prog E0 (Try.f38.body.getD .skip) ⟨[.nilS, .int .i64 k] ++ List.replicate (Try.f38.ntmps - 2) .junk, h⟩ (endW Try.prog Try.f38) = some (.int .i64 k, h) := by
  have e : List.replicate (Try.f38.ntmps - 2) PV.junk = [.junk, .junk, .junk, .junk, .junk, .junk, .junk, .junk, .junk, .junk, .junk, .junk, .junk, .junk, .junk, .junk, .junk, .junk, .junk, .junk, .junk, .junk, .junk, .junk, .junk, .junk, .junk, .junk, .junk, .junk, .junk, .junk] := by kernel_rfl
  rw [q_body, e, exSeq, List.cons_append, List.cons_append, List.nil_append, q_r0]
  simp only
  rw [exSeq, exSeq, q_r1]
  simp only
  rw [exBlock, exLoop, loopK_eq, q_nil]
  simp only [if_true]
  rw [exSeq, q_r8]
  simp only
  rw [exRet]
  exact q_end _ _ _ _ _ _ _ _ _ _ _ _ _ _ _ _ _ _ _ _ _ _ _ _ _ _ _ _ _ _ _ _ _ _ h
theorem w_markPlaceS_mk : MkOk Try.prog 38 .places := by
  intro ps h h' p pin base w ρ us hk hI hH hus
  have fin : exCode Try.prog E0 (Try.f38.body.getD .skip) ⟨ps ++ List.replicate (Try.f38.ntmps - ps.length) .junk, h⟩ (endW Try.prog Try.f38) = some (p, h') := by
    unfold markK at hk
    split at hk
    case h_4 he =>
      injection hk with hk; injection hk with h1 h2; subst h1; subst h2
      exact places_nil
    all_goals first | (cases hk; done) | (rename_i hm; cases hm; done) | (rename_i hm _; cases hm; done) | contradiction
  exact wr_of (E := E0) E0_ok E0c follows_ (fn := Try.f38) (c := Try.f38.body.getD .skip) (by kernel_rfl) (by kernel_rfl) rfl fin hI hH hus
noncomputable def E2 : Env' := withWr E0 (fun f => if f = 13 then some (.place 26) else if f = 38 then some .places else none)
theorem E2c : E2.cuts = [] := rfl
theorem E2_ok : EnvOk Try.prog E2 := withWr_ok E0_ok (tab_cons w_markPlace_mk (tab_cons w_markPlaceS_mk tab_none))
theorem e2_place {R : Type} {p q : PV} {x k : Int} {mn : Bool} {h : Hp} {K : PV → Hp → Option R} : callK E2 13 [.agg [p, .int .i64 x, q], .int .i64 k] mn h K = markI p k (h ++ [some (.box 26 [p, .int .i64 x, q])]) fun k h => markI q k h fun k h => K (.int .i64 k) h := by kernel_rfl
theorem e2_places {R : Type} {k : Int} {mn : Bool} {h : Hp} {K : PV → Hp → Option R} : callK E2 38 [.nilS, .int .i64 k] mn h K = K (.int .i64 k) h := by kernel_rfl
noncomputable def dC : Code := Try.f14.body.getD .skip
theorem d_o0 : offOf Try.prog 29 0 = some (0, 26) := by kernel_rfl
theorem d_o1 : offOf Try.prog 29 1 = some (3, 27) := by kernel_rfl
theorem d_sz0 : szOf Try.prog 26 = 3 := by kernel_rfl
theorem d_sz1 : szOf Try.prog 27 = 1 := by kernel_rfl
theorem d_load0 {R : Type} {h : Hp} {id : Nat} {t : TypeId} {a b c d : PV} (hg : h.get id = some (.box t [a, b, c, d])) (K : PV → Option R) : loadK Try.prog 26 (.ptr id 0) h K = K (.agg [a, b, c]) := by
  have hu : ∃ u, Try.prog.underlying 26 = some u := ⟨_, Try.underlying26⟩
  obtain ⟨u, hu⟩ := hu
  have ha : isAggB Try.prog 26 = true := by kernel_rfl
  simp only [loadK, hg, readK, hu, ha, if_true, d_sz0]
  rfl
theorem d_load1 {R : Type} {h : Hp} {id : Nat} {t : TypeId} {a b c d : PV} (hg : h.get id = some (.box t [a, b, c, d])) (K : PV → Option R) : loadK Try.prog 27 (.ptr id 3) h K = K d := by
  have hu : ∃ u, Try.prog.underlying 27 = some u := ⟨_, Try.underlying27⟩
  obtain ⟨u, hu⟩ := hu
  have ha : isAggB Try.prog 27 = false := by kernel_rfl
  simp only [loadK, hg, readK, hu, ha, Bool.false_eq_true, if_false]
  rfl
theorem d_run {R : Type} {p q : PV} {x k k1 k2 : Int} {h h2 h4 : Hp} (hp : oneP p = true) (hq : oneP q = true) (h1 : ∀ (R : Type) (F : Int → Hp → Option R), markI p k ((h ++ [some (.box 29 [p, .int .i64 x, q, .nilS])]) ++ [some (.box 26 [p, .int .i64 x, q])]) F = F k1 h2) (h3 : ∀ (R : Type) (F : Int → Hp → Option R), markI q k1 h2 F = F k2 h4) (hb : Hp.get h4 h.length = some (.box 29 [p, .int .i64 x, q, .nilS])) (K : AX → St → Option R) (a2 a3 a4 a5 a6 a7 a8 a9 a10 a11 a12 a13 : PV) :
    ∃ G : PV → List PV, (∀ v, (G v).getD 4 .junk = v) ∧ exCode Try.prog E2 dC ⟨[.agg [p, .int .i64 x, q, .nilS], .int .i64 k, a2, a3, a4, a5, a6, a7, a8, a9, a10, a11, a12, a13], h⟩ K = K .ret ⟨G (.int .i64 k2), h4⟩ := by
  have hi : oneP (.int .i64 x) = true := rfl
  have hn : oneP .nilS = true := rfl
  refine ⟨fun v => [.agg [p, .int .i64 x, q, .nilS], v, .ptr h.length 0, a3, v, .ptr h.length 0, .agg [p, .int .i64 x, q], .int .i64 k, .int .i64 k2, .ptr h.length 3, .nilS, .int .i64 k2, v, v], fun v => rfl, ?_⟩
  simp only [dC, Try.f14, Option.getD_some, exCode, cutS0 E2c]
  simp only [regOrd, Bool.false_eq_true, if_false, exOps, opK, ev, ofVal, cellsOf, List.all_cons, List.all_nil, hp, hq, hi, hn, Bool.and_true, if_true, List.getD_cons_zero, List.getD_cons_succ, putT, List.set_cons_zero, List.set_cons_succ, d_o0, d_o1, d_sz0, d_sz1, Nat.one_ne_zero, Nat.reduceEqDiff, Nat.zero_add]
  rw [d_load0 (get_last h _)]
  simp only [List.map_cons, List.map_nil, ev, List.getD_cons_zero, List.getD_cons_succ, e2_place, h1, h3]
  rw [d_load1 hb]
  simp only [e2_places]
theorem w_markDesk_mk : MkOk Try.prog 14 (.desk 29 26) := by
  intro ps h h' p pin base w ρ us hk hI hH hus
  have fin : exCode Try.prog E2 (Try.f14.body.getD .skip) ⟨ps ++ List.replicate (Try.f14.ntmps - ps.length) .junk, h⟩ (endW Try.prog Try.f14) = some (p, h') := by
    unfold markK at hk
    split at hk
    case h_3 t t' p0 x q k he =>
      injection he with he he'
      subst he; subst he'
      obtain ⟨o1, k1, h2, g1, g2, g3⟩ := markI_some hk
      obtain ⟨o2, k3, h4, g4, g5, g6⟩ := markI_some g2
      have hb0 : Hp.get ((h ++ [some (.box 29 [p0, .int .i64 x, q, .nilS])]) ++ [some (.box 26 [p0, .int .i64 x, q])]) h.length = some (.box 29 [p0, .int .i64 x, q, .nilS]) := by
        have := get_last h (some (.box 29 [p0, .int .i64 x, q, .nilS]))
        unfold Hp.get at this ⊢
        rw [List.getElem?_append_left (by simp)]
        exact this
      have hb := g6 _ _ _ (g3 h.length _ _ hb0)
      obtain ⟨G, hG, hrun⟩ := d_run (q := q) (x := x) o1 o2 g1 g4 hb (endW Try.prog Try.f14) .junk .junk .junk .junk .junk .junk .junk .junk .junk .junk .junk .junk
      have e : List.replicate (Try.f14.ntmps - 2) PV.junk = [.junk, .junk, .junk, .junk, .junk, .junk, .junk, .junk, .junk, .junk, .junk, .junk] := by kernel_rfl
      refine Eq.trans (congrArg (fun t => exCode Try.prog E2 (Try.f14.body.getD .skip) ⟨t, h⟩ (endW Try.prog Try.f14)) (show _ = [.agg [p0, .int .i64 x, q, .nilS], .int .i64 k, .junk, .junk, .junk, .junk, .junk, .junk, .junk, .junk, .junk, .junk, .junk, .junk] from congrArg ([PV.agg [p0, .int .i64 x, q, .nilS], .int .i64 k] ++ ·) e)) ?_
      refine hrun.trans ?_
      injection g5 with g5
      injection g5 with g5 g7
      subst g5; subst g7
      have hr : Try.f14.results.toList = [.tmp 4] := by kernel_rfl
      simp only [endW, hr, resPs, Option.map_some, Option.bind_some, hG]
    all_goals first | (cases hk; done) | (rename_i he; cases he; done) | (rename_i he _; cases he; done) | contradiction
  exact wr_of (E := E2) E2_ok E2c follows_ (fn := Try.f14) (c := Try.f14.body.getD .skip) (by kernel_rfl) (by kernel_rfl) rfl fin hI hH hus
end FN
set_option linter.unusedVariables false
namespace FN
open Go Go.Proofs
/-! loop.example/firingnets/laws.FnExactDeskNew -/
@[reducible] def w_FnExactDeskNew_sig : Sig := { ps := [some 3], pc := [.view .i64, .int .i64, .view .i64], rs := [none], rc := [.bool] }
noncomputable def w_FnExactDeskNew_E : Env' := withWr { fn := fun f => if f = 7 then some ⟨w_szPlace_sig, w_szPlace_f⟩ else if f = 8 then some ⟨s_DeskNew_sig, s_DeskNew_f⟩ else if f = 9 then some ⟨w_toPlace_sig, w_toPlace_f⟩ else if f = 10 then some ⟨i_DeskNew_sig, i_DeskNew_f⟩ else if f = 11 then some ⟨w_eqDesk_sig, w_eqDesk_f⟩ else if f = 12 then some ⟨w_eqPlace_sig, w_eqPlace_f⟩ else if f = 15 then some ⟨w_heldDesk_sig, w_heldDesk_f⟩ else none, ck := ckT, cuts := [], mine := fun i => i == 16 || i == 21 || i == 22 || i == 26 || i == 29 || i == 34 || i == 43 || i == 44 || i == 48 || i == 54 || i == 64 || i == 67 || i == 75 || i == 76 || i == 81 || i == 90 } (fun f => if f = 13 then some (.place 26) else if f = 14 then some (.desk 29 26) else none)
noncomputable def w_FnExactDeskNew_f (x : Ts w_FnExactDeskNew_sig.pc) : Option (Ts w_FnExactDeskNew_sig.rc) := runFn Try.prog (w_FnExactDeskNew_E) Try.f3 w_FnExactDeskNew_sig x
theorem w_FnExactDeskNew_f_eq (x0 : (List (Int))) (x1 : (Int)) (x2 : (List (Int))) : w_FnExactDeskNew_f (x0, x1, x2) = (Option.bind (w_szPlace_f (x0, x1, x2, 1048576)) fun r1 => (cond ((decide (r1 < 0))) (some true) (Option.bind (w_toPlace_f (x0, x1, x2)) fun r2 => (Option.bind (s_DeskNew_f (r2.1, r2.2.1, r2.2.2)) fun r3 => (Option.bind (w_toPlace_f (x0, x1, x2)) fun r4 => (Option.bind (i_DeskNew_f (r4.1, r4.2.1, r4.2.2)) fun r5 => (Option.bind (w_eqDesk_f (r5.1, r5.2.1, r5.2.2.1, [], r3.1, r3.2.1, r3.2.2.1, r3.2.2.2.1)) fun r6 => (cond ((!r6)) (some false) (cond ((!(r5.2.2.2.2 == r3.2.2.2.2))) (some false) (Option.bind (w_toPlace_f (x0, x1, x2)) fun r7 => (Option.bind (w_eqPlace_f (r4.1, r4.2.1, r4.2.2, r7.1, r7.2.1, r7.2.2)) fun r8 => (cond ((!r8)) (some false) (if (0 : Int) ≤ 1 ∧ 1 + (List.length r4.1 : Int) ≤ 4611686018427387904 then (if (0 : Int) ≤ (1 + (List.length r4.1 : Int)) ∧ (1 + (List.length r4.1 : Int)) + (List.length r4.2.2 : Int) ≤ 4611686018427387904 then (cond ((decide (((1 + (List.length r4.1 : Int)) + (List.length r4.2.2 : Int)) < 0))) (some false) (Option.bind (w_eqDesk_f (r5.1, r5.2.1, r5.2.2.1, [], r3.1, r3.2.1, r3.2.2.1, r3.2.2.2.1)) fun r9 => (cond ((!r9)) (some false) (cond ((!(r5.2.2.2.2 == r3.2.2.2.2))) (some false) (if (0 : Int) ≤ 1 ∧ 1 + (List.length r5.1 : Int) ≤ 4611686018427387904 then (if (0 : Int) ≤ (1 + (List.length r5.1 : Int)) ∧ (1 + (List.length r5.1 : Int)) + (List.length r5.2.2.1 : Int) ≤ 4611686018427387904 then (Option.bind (w_heldDesk_f ((markL 1 r5.1), r5.2.1, (markL (1 + (List.length r5.1 : Int)) r5.2.2.1), [], 1)) fun r10 => (cond ((decide (r10 < 0))) (some false) (cond ((r10 != ((1 + (List.length r5.1 : Int)) + (List.length r5.2.2.1 : Int)))) (some false) (Option.bind (w_toPlace_f (x0, x1, x2)) fun r11 => (Option.bind (i_DeskNew_f (r11.1, r11.2.1, r11.2.2)) fun r12 => (Option.bind (w_eqDesk_f (r12.1, r12.2.1, r12.2.2.1, [], r3.1, r3.2.1, r3.2.2.1, r3.2.2.2.1)) fun r13 => (cond ((!r13)) (some false) (cond ((!(r12.2.2.2.2 == r3.2.2.2.2))) (some false) (Option.bind (w_heldDesk_f ((markL 1 r5.1), r5.2.1, (markL (1 + (List.length r5.1 : Int)) r5.2.2.1), [], 1)) fun r14 => (cond ((decide (r14 < 0))) (some false) (cond ((r14 != ((1 + (List.length r5.1 : Int)) + (List.length r5.2.2.1 : Int)))) (some false) (some true)))))))))))) else none) else none))))) else none) else none))))))))))))) := by
  kernel_rfl
theorem w_FnExactDeskNew_ent : Entb Try.prog 3 := ⟨Try.f3, by kernel_rfl, by kernel_rfl, by kernel_rfl⟩
theorem w_FnExactDeskNew_ok : CtrOk Try.prog 3 ⟨w_FnExactDeskNew_sig, w_FnExactDeskNew_f⟩ :=
  ctr_of (fn := Try.f3) (by kernel_rfl) (by kernel_rfl) (fun x : Ts w_FnExactDeskNew_sig.pc => w_FnExactDeskNew_E) (fun x => withWr_ok ⟨(fn_cons ⟨w_szPlace_ok, w_szPlace_ent⟩ (fn_cons ⟨s_DeskNew_ok, s_DeskNew_ent⟩ (fn_cons ⟨w_toPlace_ok, w_toPlace_ent⟩ (fn_cons ⟨i_DeskNew_ok, i_DeskNew_ent⟩ (fn_cons ⟨w_eqDesk_ok, w_eqDesk_ent⟩ (fn_cons ⟨w_eqPlace_ok, w_eqPlace_ent⟩ (fn_cons ⟨w_heldDesk_ok, w_heldDesk_ent⟩ fn_none))))))), clo_none, wr_none⟩ (tab_cons w_markPlace_mk (tab_cons w_markDesk_mk (tab_none)))) (fun h => by cases h) follows_ (fun _ _ => trivial)
end FN
set_option linter.unusedVariables false
namespace FN
open Go Go.Proofs
/-! loop.example/firingnets/spec.l1Number -/
@[reducible] def s_l1Number_sig : Sig := { ps := [none], pc := [.int .i64], rs := [none], rc := [.str] }
noncomputable def s_l1Number_E (g : Ts s_l1Number_sig.pc → Option (Ts s_l1Number_sig.rc)) : Env' := { fn := fun f => if f = 79 then some ⟨s_l1Number_sig, g⟩ else none, ck := ckT, cuts := [], mine := fun i => false }
noncomputable def s_l1Number_g (n : Nat) : Ts s_l1Number_sig.pc → Option (Ts s_l1Number_sig.rc) := Nat.rec (fun _ => none) (fun _ ih x => runFn Try.prog (s_l1Number_E ih) Try.f79 s_l1Number_sig x) n
theorem s_l1Number_g_eq (n : Nat) (x0 : (Int)) : s_l1Number_g (n + 1) x0 = (cond ((decide (x0 < 10))) (some (strOfNums ([(IntKind.u8.wrap (IntKind.i64.wrap (48 + (if 0 > x0 then 0 else x0))))] : List (Int)))) (Option.bind (s_l1Number_g n (IntKind.i64.wrap (Int.tdiv x0 10))) fun r1 => (if ByteArray.size r1 + ByteArray.size (strOfNums ([(IntKind.u8.wrap (IntKind.i64.wrap (48 + (Int.tmod x0 10))))] : List (Int))) ≤ 9223372036854775807 then (some (r1 ++ (strOfNums ([(IntKind.u8.wrap (IntKind.i64.wrap (48 + (Int.tmod x0 10))))] : List (Int))))) else none))) := by
  refine Eq.trans (b := (cond ((decide (x0 < 10))) (some (strOfNums ([(IntKind.u8.wrap (IntKind.i64.wrap (48 + (if 0 > x0 then 0 else x0))))] : List (Int)))) (same [(Option.bind (s_l1Number_g n (IntKind.i64.wrap (Int.tdiv x0 10))) fun r1 => (if ByteArray.size r1 + ByteArray.size (strOfNums ([(IntKind.u8.wrap (IntKind.i64.wrap (48 + (Int.tmod x0 10))))] : List (Int))) ≤ 9223372036854775807 then (some (r1 ++ (strOfNums ([(IntKind.u8.wrap (IntKind.i64.wrap (48 + (Int.tmod x0 10))))] : List (Int))))) else none)), (same [(Option.bind (s_l1Number_g n (IntKind.i64.wrap (Int.tdiv x0 10))) fun r1 => (if ByteArray.size r1 + ByteArray.size (strOfNums ([(IntKind.u8.wrap (IntKind.i64.wrap (48 + (Int.tmod x0 10))))] : List (Int))) ≤ 9223372036854775807 then (some (r1 ++ (strOfNums ([(IntKind.u8.wrap (IntKind.i64.wrap (48 + (Int.tmod x0 10))))] : List (Int))))) else none)), (Option.bind (s_l1Number_g n (IntKind.i64.wrap (Int.tdiv x0 10))) fun r1 => (if ByteArray.size r1 + ByteArray.size (strOfNums ([(IntKind.u8.wrap (IntKind.i64.wrap (48 + (Int.tmod x0 10))))] : List (Int))) ≤ 9223372036854775807 then (some (r1 ++ (strOfNums ([(IntKind.u8.wrap (IntKind.i64.wrap (48 + (Int.tmod x0 10))))] : List (Int))))) else none))])]))) (by kernel_rfl) ?_
  simp only [same2, same3, same4, same5, same6, obind_ite]
noncomputable def s_l1Number_f (x : Ts s_l1Number_sig.pc) : Option (Ts s_l1Number_sig.rc) := lim fun n => s_l1Number_g n x
theorem s_l1Number_ent : Entb Try.prog 79 := ⟨Try.f79, by kernel_rfl, by kernel_rfl, by kernel_rfl⟩
theorem s_l1Number_gok : ∀ n, CtrOk Try.prog 79 ⟨s_l1Number_sig, s_l1Number_g n⟩
  | 0 => fun _ _ _ _ _ _ _ _ h => by cases h
  | n + 1 => ctr_of (fn := Try.f79) (by kernel_rfl) (by kernel_rfl) (fun _ : Ts s_l1Number_sig.pc => s_l1Number_E (s_l1Number_g n)) (fun _ => ⟨(fn_cons ⟨s_l1Number_gok n, s_l1Number_ent⟩ fn_none), clo_none, wr_none⟩) (fun h => by cases h) follows_ (fun _ _ => trivial)
theorem s_l1Number_ok : CtrOk Try.prog 79 ⟨s_l1Number_sig, s_l1Number_f⟩ := fun w okc args bx x r hI hA hr => by
  obtain ⟨n, hn⟩ := lim_some (g := fun n => s_l1Number_g n x) hr
  exact s_l1Number_gok n w okc args bx x r hI hA hn
end FN
set_option linter.unusedVariables false
namespace FN
open Go Go.Proofs
/-! loop.example/firingnets/spec.PlaceText -/
@[reducible] def s_PlaceText_sig : Sig := { ps := [some 3], pc := [.view .i64, .int .i64, .view .i64], rs := [none], rc := [.str] }
noncomputable def s_PlaceText_E : Env' := { fn := fun f => if f = 33 then some ⟨s_PlaceOk_sig, s_PlaceOk_f⟩ else if f = 79 then some ⟨s_l1Number_sig, s_l1Number_f⟩ else none, ck := ckT, cuts := [(6, [1, 3, 4, 5]), (10, [1, 3, 4, 5, 6]), (15, [1, 3, 4, 5, 6]), (16, [1, 3, 4]), (18, [1, 3, 4])], mine := fun i => false }
noncomputable def s_PlaceText_f (x : Ts s_PlaceText_sig.pc) : Option (Ts s_PlaceText_sig.rc) := runFn Try.prog (s_PlaceText_E) Try.f72 s_PlaceText_sig x
noncomputable def s_PlaceText_l0 (y0 : ByteArray) (y1 : ByteArray) (y2 : Int) (y3 : List (Int)) (y4 : Int) (y5 : List (Int)) : Option ((ByteArray)) := from_ Try.prog (s_PlaceText_E) Try.f72 s_PlaceText_sig [1, 1, 1, 1, 0, 1, 0] ⟨mkT 71 [(1, .ptr 0 0), (3, .str y0), (4, .str y1), (5, .int .i64 y2)], [some (.box 26 [.row false .i64 y3, .int .i64 y4, .row false .i64 y5])]⟩
noncomputable def s_PlaceText_l1 (y0 : ByteArray) (y1 : ByteArray) (y2 : Int) (y3 : Int) (y4 : List (Int)) (y5 : Int) (y6 : List (Int)) : Option ((ByteArray)) := from_ Try.prog (s_PlaceText_E) Try.f72 s_PlaceText_sig [1, 1, 1, 1, 0, 1, 0, 0, 1, 0, 0, 1, 1, 0] ⟨mkT 71 [(1, .ptr 0 0), (3, .str y0), (4, .str y1), (5, .int .i64 y2), (6, .int .i64 y3)], [some (.box 26 [.row false .i64 y4, .int .i64 y5, .row false .i64 y6])]⟩
noncomputable def s_PlaceText_j2 (y0 : ByteArray) (y1 : ByteArray) (y2 : List (Int)) (y3 : Int) (y4 : List (Int)) : Option ((ByteArray)) := from_ Try.prog (s_PlaceText_E) Try.f72 s_PlaceText_sig [1, 1, 1, 1, 1] ⟨mkT 71 [(1, .ptr 0 0), (3, .str y0), (4, .str y1)], [some (.box 26 [.row false .i64 y2, .int .i64 y3, .row false .i64 y4])]⟩
noncomputable def s_PlaceText_j3 (y0 : ByteArray) (y1 : ByteArray) (y2 : Int) (y3 : Int) (y4 : List (Int)) (y5 : Int) (y6 : List (Int)) : Option ((ByteArray)) := from_ Try.prog (s_PlaceText_E) Try.f72 s_PlaceText_sig [1, 1, 1, 1, 0, 1, 0, 0, 1, 0, 0, 1, 1, 0, 0, 1, 0, 0, 1, 1] ⟨mkT 71 [(1, .ptr 0 0), (3, .str y0), (4, .str y1), (5, .int .i64 y2), (6, .int .i64 y3)], [some (.box 26 [.row false .i64 y4, .int .i64 y5, .row false .i64 y6])]⟩
noncomputable def s_PlaceText_j4 (y0 : ByteArray) (y1 : ByteArray) (y2 : List (Int)) (y3 : Int) (y4 : List (Int)) : Option ((ByteArray)) := from_ Try.prog (s_PlaceText_E) Try.f72 s_PlaceText_sig [1, 1, 1, 1, 1, 1] ⟨mkT 71 [(1, .ptr 0 0), (3, .str y0), (4, .str y1)], [some (.box 26 [.row false .i64 y2, .int .i64 y3, .row false .i64 y4])]⟩
theorem s_PlaceText_f_eq (x0 : (List (Int))) (x1 : (Int)) (x2 : (List (Int))) : s_PlaceText_f (x0, x1, x2) = (Option.bind (s_PlaceOk_f (x0, x1, x2)) fun r1 => (cond ((!r1)) (some ByteArray.empty) (s_PlaceText_l0 ByteArray.empty ByteArray.empty 0 x0 x1 x2))) := by
  kernel_rfl
theorem s_PlaceText_l0_eq (y0 : ByteArray) (y1 : ByteArray) (y2 : Int) (y3 : List (Int)) (y4 : Int) (y5 : List (Int)) : s_PlaceText_l0 y0 y1 y2 y3 y4 y5 = (cond ((decide (y2 < (List.length y3 : Int)))) (if (0 : Int) ≤ y2 ∧ y2 < (List.length y5 : Int) then (Option.bind (s_l1Number_f (List.getD y5 (y2 : Int).toNat 0)) fun r1 => (if ByteArray.size y1 + ByteArray.size r1 ≤ 9223372036854775807 then (s_PlaceText_l1 y0 (y1 ++ r1) y2 (IntKind.i64.wrap (y2 + 1)) y3 y4 y5) else none)) else none) (s_PlaceText_j2 y0 y1 y3 y4 y5)) := by
  refine (loopK_eq Try.prog (s_PlaceText_E) (sub (Try.f72.body.getD .skip) [1, 1, 1, 1, 0, 1, 0, 0]) _ _).trans ?_
  kernel_rfl
theorem s_PlaceText_l1_eq (y0 : ByteArray) (y1 : ByteArray) (y2 : Int) (y3 : Int) (y4 : List (Int)) (y5 : Int) (y6 : List (Int)) : s_PlaceText_l1 y0 y1 y2 y3 y4 y5 y6 = (cond ((decide (y3 < (List.length y4 : Int)))) (if (0 : Int) ≤ y2 ∧ y2 < (List.length y4 : Int) then (if y3 < 0 then none else (cond (((Int.tmod (Int.fdiv (List.getD y4 (y2 : Int).toNat 0) (2 ^ min (y3 : Int).toNat IntKind.i64.bits)) 2) == 0)) (s_PlaceText_l1 y0 y1 y2 (IntKind.i64.wrap (y3 + 1)) y4 y5 y6) (cond ((!(ByteArray.toList y0 == ByteArray.toList ByteArray.empty))) (if ByteArray.size y0 + ByteArray.size str14 ≤ 9223372036854775807 then (s_PlaceText_j3 (y0 ++ str14) y1 y2 y3 y4 y5 y6) else none) (s_PlaceText_j3 y0 y1 y2 y3 y4 y5 y6)))) else none) (s_PlaceText_l0 y0 y1 (IntKind.i64.wrap (y2 + 1)) y4 y5 y6)) := by
  refine (loopK_eq Try.prog (s_PlaceText_E) (sub (Try.f72.body.getD .skip) [1, 1, 1, 1, 0, 1, 0, 0, 1, 0, 0, 1, 1, 0, 0]) _ _).trans ?_
  kernel_rfl
theorem s_PlaceText_j2_eq (y0 : ByteArray) (y1 : ByteArray) (y2 : List (Int)) (y3 : Int) (y4 : List (Int)) : s_PlaceText_j2 y0 y1 y2 y3 y4 = (cond ((ByteArray.toList y0 == ByteArray.toList ByteArray.empty)) (s_PlaceText_j4 str15 y1 y2 y3 y4) (s_PlaceText_j4 y0 y1 y2 y3 y4)) := by
  kernel_rfl
theorem s_PlaceText_j3_eq (y0 : ByteArray) (y1 : ByteArray) (y2 : Int) (y3 : Int) (y4 : List (Int)) (y5 : Int) (y6 : List (Int)) : s_PlaceText_j3 y0 y1 y2 y3 y4 y5 y6 = (Option.bind (s_l1Number_f y2) fun r1 => (if ByteArray.size y0 + ByteArray.size r1 ≤ 9223372036854775807 then (Option.bind (s_l1Number_f y3) fun r2 => (if ByteArray.size (y0 ++ r1) + ByteArray.size r2 ≤ 9223372036854775807 then (s_PlaceText_l1 ((y0 ++ r1) ++ r2) y1 y2 (IntKind.i64.wrap (y3 + 1)) y4 y5 y6) else none)) else none)) := by
  kernel_rfl
theorem s_PlaceText_j4_eq (y0 : ByteArray) (y1 : ByteArray) (y2 : List (Int)) (y3 : Int) (y4 : List (Int)) : s_PlaceText_j4 y0 y1 y2 y3 y4 = (Option.bind (s_l1Number_f (List.length y2 : Int)) fun r1 => (if ByteArray.size r1 + ByteArray.size str1 ≤ 9223372036854775807 then (if ByteArray.size (r1 ++ str1) + ByteArray.size y0 ≤ 9223372036854775807 then (if ByteArray.size ((r1 ++ str1) ++ y0) + ByteArray.size str1 ≤ 9223372036854775807 then (Option.bind (s_l1Number_f y3) fun r2 => (if ByteArray.size (((r1 ++ str1) ++ y0) ++ str1) + ByteArray.size r2 ≤ 9223372036854775807 then (if ByteArray.size ((((r1 ++ str1) ++ y0) ++ str1) ++ r2) + ByteArray.size str1 ≤ 9223372036854775807 then (if ByteArray.size (((((r1 ++ str1) ++ y0) ++ str1) ++ r2) ++ str1) + ByteArray.size y1 ≤ 9223372036854775807 then (some ((((((r1 ++ str1) ++ y0) ++ str1) ++ r2) ++ str1) ++ y1)) else none) else none) else none)) else none) else none) else none)) := by
  kernel_rfl
theorem s_PlaceText_ent : Entb Try.prog 72 := ⟨Try.f72, by kernel_rfl, by kernel_rfl, by kernel_rfl⟩
theorem s_PlaceText_ok : CtrOk Try.prog 72 ⟨s_PlaceText_sig, s_PlaceText_f⟩ :=
  ctr_of (fn := Try.f72) (by kernel_rfl) (by kernel_rfl) (fun x : Ts s_PlaceText_sig.pc => s_PlaceText_E) (fun x => ⟨(fn_cons ⟨s_PlaceOk_ok, s_PlaceOk_ent⟩ (fn_cons ⟨s_l1Number_ok, s_l1Number_ent⟩ fn_none)), clo_none, wr_none⟩) (fun h => by cases h) follows_ (fun _ _ => trivial)
end FN
set_option linter.unusedVariables false
namespace FN
open Go Go.Proofs
/-! loop.example/firingnets/spec.DeskOk -/
@[reducible] def s_DeskOk_sig : Sig := { ps := [some 4], pc := [.view .i64, .int .i64, .view .i64, .view .place], rs := [none], rc := [.bool] }
noncomputable def s_DeskOk_E : Env' := { fn := fun f => if f = 33 then some ⟨s_PlaceOk_sig, s_PlaceOk_f⟩ else none, ck := ckT, cuts := [(2, [1, 3]), (6, [1])], mine := fun i => false }
noncomputable def s_DeskOk_f (x : Ts s_DeskOk_sig.pc) : Option (Ts s_DeskOk_sig.rc) := runFn Try.prog (s_DeskOk_E) Try.f18 s_DeskOk_sig x
noncomputable def s_DeskOk_l0 (y0 : Int) (y1 : List (Int)) (y2 : Int) (y3 : List (Int)) (y4 : List (List Int × Int × List Int)) : Option ((Bool)) := from_ Try.prog (s_DeskOk_E) Try.f18 s_DeskOk_sig [1, 0, 1, 0] ⟨mkT 27 [(1, .ptr 0 0), (3, .int .i64 y0)], [some (.box 29 [.row false .i64 y1, .int .i64 y2, .row false .i64 y3, .row false .place y4])]⟩
noncomputable def s_DeskOk_j1 (y0 : List (Int)) (y1 : Int) (y2 : List (Int)) (y3 : List (List Int × Int × List Int)) : Option ((Bool)) := from_ Try.prog (s_DeskOk_E) Try.f18 s_DeskOk_sig [1, 1] ⟨mkT 27 [(1, .ptr 0 0)], [some (.box 29 [.row false .i64 y0, .int .i64 y1, .row false .i64 y2, .row false .place y3])]⟩
theorem s_DeskOk_f_eq (x0 : (List (Int))) (x1 : (Int)) (x2 : (List (Int))) (x3 : (List (List Int × Int × List Int))) : s_DeskOk_f (x0, x1, x2, x3) = (s_DeskOk_l0 0 x0 x1 x2 x3) := by
  kernel_rfl
theorem s_DeskOk_l0_eq (y0 : Int) (y1 : List (Int)) (y2 : Int) (y3 : List (Int)) (y4 : List (List Int × Int × List Int)) : s_DeskOk_l0 y0 y1 y2 y3 y4 = (cond ((decide (y0 < (List.length y4 : Int)))) (if (0 : Int) ≤ y0 ∧ y0 < (List.length y4 : Int) then (Option.bind (s_PlaceOk_f ((List.getD y4 (y0 : Int).toNat ([], 0, [])).1, (List.getD y4 (y0 : Int).toNat ([], 0, [])).2.1, (List.getD y4 (y0 : Int).toNat ([], 0, [])).2.2)) fun r1 => (cond ((!r1)) (some false) (s_DeskOk_l0 (IntKind.i64.wrap (y0 + 1)) y1 y2 y3 y4))) else none) (s_DeskOk_j1 y1 y2 y3 y4)) := by
  refine (loopK_eq Try.prog (s_DeskOk_E) (sub (Try.f18.body.getD .skip) [1, 0, 1, 0, 0]) _ _).trans ?_
  kernel_rfl
theorem s_DeskOk_j1_eq (y0 : List (Int)) (y1 : Int) (y2 : List (Int)) (y3 : List (List Int × Int × List Int)) : s_DeskOk_j1 y0 y1 y2 y3 = (Option.bind (s_PlaceOk_f (y0, y1, y2)) fun r1 => (cond (r1) (some (decide ((List.length y3 : Int) ≤ 8))) (some false))) := by
  kernel_rfl
theorem s_DeskOk_ent : Entb Try.prog 18 := ⟨Try.f18, by kernel_rfl, by kernel_rfl, by kernel_rfl⟩
theorem s_DeskOk_ok : CtrOk Try.prog 18 ⟨s_DeskOk_sig, s_DeskOk_f⟩ :=
  ctr_of (fn := Try.f18) (by kernel_rfl) (by kernel_rfl) (fun x : Ts s_DeskOk_sig.pc => s_DeskOk_E) (fun x => ⟨(fn_cons ⟨s_PlaceOk_ok, s_PlaceOk_ent⟩ fn_none), clo_none, wr_none⟩) (fun h => by cases h) follows_ (fun _ _ => trivial)
end FN
set_option linter.unusedVariables false
namespace FN
open Go Go.Proofs
/-! loop.example/firingnets/spec.l15Copy -/
@[reducible] def s_l15Copy_sig : Sig := { ps := [some 4], pc := [.view .i64, .int .i64, .view .i64, .view .place], rs := [some 4], rc := [.row 3 .i64, .int .i64, .row 3 .i64, .row 26 .place] }
noncomputable def s_l15Copy_E : Env' := { fn := fun f => if f = 34 then some ⟨s_l15Place_sig, s_l15Place_f⟩ else none, ck := ckT, cuts := [(3, [1, 2, 3, 4])], mine := fun i => i == 7 || i == 23 }
noncomputable def s_l15Copy_f (x : Ts s_l15Copy_sig.pc) : Option (Ts s_l15Copy_sig.rc) := runFn Try.prog (s_l15Copy_E) Try.f70 s_l15Copy_sig x
noncomputable def s_l15Copy_l0 (y0 : Int) (y1 : List (Int)) (y2 : Int) (y3 : List (Int)) (y4 : List (List Int × Int × List Int)) (y5 : Int) (y6 : Int) (y7 : List (Int)) (y8 : List (Int)) : Option ((List (Int)) × (Int) × (List (Int)) × (List (List Int × Int × List Int))) := from_ Try.prog (s_l15Copy_E) Try.f70 s_l15Copy_sig [1, 1, 0, 1, 0] ⟨mkT 28 [(1, .ptr 0 0), (2, .ptr 1 0), (3, .ptr 2 0), (4, .int .i64 y0)], [some (.box 29 [.row false .i64 y1, .int .i64 y2, .row false .i64 y3, .row false .place y4]), some (.box 29 [.nilS, .int .i64 y5, .nilS, .nilS]), some (.box 29 [.own 3, .int .i64 y6, .own 4, .nilS]), some (.arr 3 true .i64 y7), some (.arr 3 true .i64 y8)]⟩
noncomputable def s_l15Copy_l1 (y0 : Int) (y1 : List (Int)) (y2 : Int) (y3 : List (Int)) (y4 : List (List Int × Int × List Int)) (y5 : Int) (y6 : Int) (y7 : List (Int)) (y8 : List (Int)) (y9 : List (List Int × Int × List Int)) : Option ((List (Int)) × (Int) × (List (Int)) × (List (List Int × Int × List Int))) := from_ Try.prog (s_l15Copy_E) Try.f70 s_l15Copy_sig [1, 1, 0, 1, 0] ⟨mkT 28 [(1, .ptr 0 0), (2, .ptr 1 0), (3, .ptr 2 0), (4, .int .i64 y0)], [some (.box 29 [.row false .i64 y1, .int .i64 y2, .row false .i64 y3, .row false .place y4]), some (.box 29 [.nilS, .int .i64 y5, .nilS, .nilS]), some (.box 29 [.own 3, .int .i64 y6, .own 4, .own 5]), some (.arr 3 true .i64 y7), some (.arr 3 true .i64 y8), some (.arr 26 true .place y9)]⟩
theorem s_l15Copy_f_eq (x0 : (List (Int))) (x1 : (Int)) (x2 : (List (Int))) (x3 : (List (List Int × Int × List Int))) : s_l15Copy_f (x0, x1, x2, x3) = (Option.bind (s_l15Place_f (x0, x1, x2)) fun r1 => (s_l15Copy_l0 0 x0 x1 x2 x3 0 r1.2.1 r1.1 r1.2.2)) := by
  kernel_rfl
theorem s_l15Copy_l0_eq (y0 : Int) (y1 : List (Int)) (y2 : Int) (y3 : List (Int)) (y4 : List (List Int × Int × List Int)) (y5 : Int) (y6 : Int) (y7 : List (Int)) (y8 : List (Int)) : s_l15Copy_l0 y0 y1 y2 y3 y4 y5 y6 y7 y8 = (cond ((decide (y0 < (List.length y4 : Int)))) (if (0 : Int) ≤ y0 ∧ y0 < (List.length y4 : Int) then (Option.bind (s_l15Place_f ((List.getD y4 (y0 : Int).toNat ([], 0, [])).1, (List.getD y4 (y0 : Int).toNat ([], 0, [])).2.1, (List.getD y4 (y0 : Int).toNat ([], 0, [])).2.2)) fun r1 => (if (List.length ([] : List (List Int × Int × List Int)) + List.length ([(r1.1, r1.2.1, r1.2.2)] : List (List Int × Int × List Int))) * 56 ≤ 140737488355328 then (s_l15Copy_l1 (IntKind.i64.wrap (y0 + 1)) y1 y2 y3 y4 y5 y6 y7 y8 (([] : List (List Int × Int × List Int)) ++ ([(r1.1, r1.2.1, r1.2.2)] : List (List Int × Int × List Int)))) else none)) else none) (some (y7, y6, y8, []))) := by
  refine (loopK_eq Try.prog (s_l15Copy_E) (sub (Try.f70.body.getD .skip) [1, 1, 0, 1, 0, 0]) _ _).trans ?_
  kernel_rfl
theorem s_l15Copy_l1_eq (y0 : Int) (y1 : List (Int)) (y2 : Int) (y3 : List (Int)) (y4 : List (List Int × Int × List Int)) (y5 : Int) (y6 : Int) (y7 : List (Int)) (y8 : List (Int)) (y9 : List (List Int × Int × List Int)) : s_l15Copy_l1 y0 y1 y2 y3 y4 y5 y6 y7 y8 y9 = (cond ((decide (y0 < (List.length y4 : Int)))) (if (0 : Int) ≤ y0 ∧ y0 < (List.length y4 : Int) then (Option.bind (s_l15Place_f ((List.getD y4 (y0 : Int).toNat ([], 0, [])).1, (List.getD y4 (y0 : Int).toNat ([], 0, [])).2.1, (List.getD y4 (y0 : Int).toNat ([], 0, [])).2.2)) fun r1 => (if (List.length y9 + List.length ([(r1.1, r1.2.1, r1.2.2)] : List (List Int × Int × List Int))) * 56 ≤ 140737488355328 then (s_l15Copy_l1 (IntKind.i64.wrap (y0 + 1)) y1 y2 y3 y4 y5 y6 y7 y8 (y9 ++ ([(r1.1, r1.2.1, r1.2.2)] : List (List Int × Int × List Int)))) else none)) else none) (some (y7, y6, y8, y9))) := by
  refine (loopK_eq Try.prog (s_l15Copy_E) (sub (Try.f70.body.getD .skip) [1, 1, 0, 1, 0, 0]) _ _).trans ?_
  kernel_rfl
theorem s_l15Copy_ent : Entb Try.prog 70 := ⟨Try.f70, by kernel_rfl, by kernel_rfl, by kernel_rfl⟩
theorem s_l15Copy_ok : CtrOk Try.prog 70 ⟨s_l15Copy_sig, s_l15Copy_f⟩ :=
  ctr_of (fn := Try.f70) (by kernel_rfl) (by kernel_rfl) (fun x : Ts s_l15Copy_sig.pc => s_l15Copy_E) (fun x => ⟨(fn_cons ⟨s_l15Place_ok, s_l15Place_ent⟩ fn_none), clo_none, wr_none⟩) (fun h => by cases h) follows_ (fun _ _ => trivial)
end FN
set_option linter.unusedVariables false
namespace FN
open Go Go.Proofs
/-! loop.example/firingnets/spec.l3Step -/
@[reducible] def s_l3Step_sig : Sig := { ps := [none, none, none], pc := [.view .i64, .int .i64, .view .i64], rs := [none], rc := [.row 3 .i64] }
noncomputable def s_l3Step_E : Env' := { fn := fun f => none, ck := ckT, cuts := [(3, [0, 1, 2, 7, 8]), (7, [0, 1, 2, 7]), (9, [0, 1, 2, 7, 9, 10])], mine := fun i => false }
noncomputable def s_l3Step_f (x : Ts s_l3Step_sig.pc) : Option (Ts s_l3Step_sig.rc) := runFn Try.prog (s_l3Step_E) Try.f78 s_l3Step_sig x
noncomputable def s_l3Step_l0 (y0 : List (Int)) (y1 : Int) (y2 : List (Int)) (y3 : Int) (y4 : Int) : Option ((List (Int))) := from_ Try.prog (s_l3Step_E) Try.f78 s_l3Step_sig [1, 1, 0, 1, 0] ⟨mkT 58 [(0, .row false .i64 y0), (1, .int .i64 y1), (2, .row false .i64 y2), (7, .int .i64 y3), (8, .int .i64 y4)], []⟩
noncomputable def s_l3Step_j1 (y0 : List (Int)) (y1 : Int) (y2 : List (Int)) (y3 : Int) : Option ((List (Int))) := from_ Try.prog (s_l3Step_E) Try.f78 s_l3Step_sig [1, 1, 1] ⟨mkT 58 [(0, .row false .i64 y0), (1, .int .i64 y1), (2, .row false .i64 y2), (7, .int .i64 y3)], []⟩
noncomputable def s_l3Step_l2 (y0 : List (Int)) (y1 : Int) (y2 : List (Int)) (y3 : Int) (y4 : Int) (y5 : List (Int)) : Option ((List (Int))) := from_ Try.prog (s_l3Step_E) Try.f78 s_l3Step_sig [1, 1, 1, 1, 0, 1, 0] ⟨mkT 58 [(0, .row false .i64 y0), (1, .int .i64 y1), (2, .row false .i64 y2), (7, .int .i64 y3), (9, .own 0), (10, .int .i64 y4)], [some (.arr 3 true .i64 y5)]⟩
theorem s_l3Step_f_eq (x0 : (List (Int))) (x1 : (Int)) (x2 : (List (Int))) : s_l3Step_f (x0, x1, x2) = (s_l3Step_l0 x0 x1 x2 0 0) := by
  kernel_rfl
theorem s_l3Step_l0_eq (y0 : List (Int)) (y1 : Int) (y2 : List (Int)) (y3 : Int) (y4 : Int) : s_l3Step_l0 y0 y1 y2 y3 y4 = (cond ((decide (y4 < (List.length y2 : Int)))) (if (0 : Int) ≤ y4 ∧ y4 < (List.length y2 : Int) then (cond (((List.getD y2 (y4 : Int).toNat 0) == 1)) (if y4 < 0 then none else (s_l3Step_l0 y0 y1 y2 (Go.bits .or IntKind.i64 y3 (IntKind.i64.wrap (1 * 2 ^ min (y4 : Int).toNat IntKind.i64.bits))) (IntKind.i64.wrap (y4 + 1)))) (s_l3Step_l0 y0 y1 y2 y3 (IntKind.i64.wrap (y4 + 1)))) else none) (s_l3Step_j1 y0 y1 y2 y3)) := by
  refine (loopK_eq Try.prog (s_l3Step_E) (sub (Try.f78.body.getD .skip) [1, 1, 0, 1, 0, 0]) _ _).trans ?_
  kernel_rfl
theorem s_l3Step_j1_eq (y0 : List (Int)) (y1 : Int) (y2 : List (Int)) (y3 : Int) : s_l3Step_j1 y0 y1 y2 y3 = (s_l3Step_l2 y0 y1 y2 y3 0 ([] : List (Int))) := by
  kernel_rfl
theorem s_l3Step_l2_eq (y0 : List (Int)) (y1 : Int) (y2 : List (Int)) (y3 : Int) (y4 : Int) (y5 : List (Int)) : s_l3Step_l2 y0 y1 y2 y3 y4 y5 = (cond ((decide (y4 < (List.length y2 : Int)))) (if (0 : Int) ≤ y4 ∧ y4 < (List.length y2 : Int) then (cond ((decide (0 < (List.getD y2 (y4 : Int).toNat 0)))) (if y1 = 0 then none else (if (List.length y5 + List.length ([(Int.tmod (IntKind.i64.wrap ((List.getD y2 (y4 : Int).toNat 0) + 1)) y1)] : List (Int))) * 8 ≤ 140737488355328 then (s_l3Step_l2 y0 y1 y2 y3 (IntKind.i64.wrap (y4 + 1)) (y5 ++ ([(Int.tmod (IntKind.i64.wrap ((List.getD y2 (y4 : Int).toNat 0) + 1)) y1)] : List (Int)))) else none)) (if (0 : Int) ≤ y4 ∧ y4 < (List.length y0 : Int) then (cond (((Go.bits .and IntKind.i64 (List.getD y0 (y4 : Int).toNat 0) y3) != 0)) (if (List.length y5 + List.length ([1] : List (Int))) * 8 ≤ 140737488355328 then (s_l3Step_l2 y0 y1 y2 y3 (IntKind.i64.wrap (y4 + 1)) (y5 ++ ([1] : List (Int)))) else none) (if (List.length y5 + List.length ([(List.getD y2 (y4 : Int).toNat 0)] : List (Int))) * 8 ≤ 140737488355328 then (s_l3Step_l2 y0 y1 y2 y3 (IntKind.i64.wrap (y4 + 1)) (y5 ++ ([(List.getD y2 (y4 : Int).toNat 0)] : List (Int)))) else none)) else none)) else none) (some y5)) := by
  refine (loopK_eq Try.prog (s_l3Step_E) (sub (Try.f78.body.getD .skip) [1, 1, 1, 1, 0, 1, 0, 0]) _ _).trans ?_
  kernel_rfl
theorem s_l3Step_ent : Entb Try.prog 78 := ⟨Try.f78, by kernel_rfl, by kernel_rfl, by kernel_rfl⟩
theorem s_l3Step_ok : CtrOk Try.prog 78 ⟨s_l3Step_sig, s_l3Step_f⟩ :=
  ctr_of (fn := Try.f78) (by kernel_rfl) (by kernel_rfl) (fun x : Ts s_l3Step_sig.pc => s_l3Step_E) (fun x => ⟨fn_none, clo_none, wr_none⟩) (fun h => by cases h) follows_ (fun _ _ => trivial)
end FN
set_option linter.unusedVariables false
namespace FN
open Go Go.Proofs
/-! loop.example/firingnets/spec.l15Made -/
@[reducible] def s_l15Made_sig : Sig := { ps := [some 3, some 3], pc := [.view .i64, .int .i64, .view .i64, .int .i64, .int .i64, .int .i64], rs := [some 3], rc := [.row 3 .i64, .int .i64, .row 3 .i64] }
noncomputable def s_l15Made_E : Env' := { fn := fun f => if f = 34 then some ⟨s_l15Place_sig, s_l15Place_f⟩ else if f = 73 then some ⟨s_l1In_sig, s_l1In_f⟩ else if f = 78 then some ⟨s_l3Step_sig, s_l3Step_f⟩ else none, ck := ckT, cuts := [], mine := fun i => i == 8 || i == 25 || i == 31 || i == 81 || i == 108 }
noncomputable def s_l15Made_f (x : Ts s_l15Made_sig.pc) : Option (Ts s_l15Made_sig.rc) := runFn Try.prog (s_l15Made_E) Try.f71 s_l15Made_sig x
theorem s_l15Made_f_eq (x0 : (List (Int))) (x1 : (Int)) (x2 : (List (Int))) (x3 : (Int)) (x4 : (Int)) (x5 : (Int)) : s_l15Made_f (x0, x1, x2, x3, x4, x5) = (Option.bind (s_l15Place_f (x0, x1, x2)) fun r1 => (cond (((x3 == 0) && ((x4 == x4) && ((x5 == x5) && true)))) (Option.bind (s_l1In_f (x4, 0, (IntKind.i64.wrap ((List.length x0 : Int) - 1)))) fun r2 => (cond (r2) (Option.bind (s_l1In_f (x5, 0, (IntKind.i64.wrap ((List.length x0 : Int) - 1)))) fun r3 => (cond (r3) (cond ((x4 != x5)) (if (0 : Int) ≤ x4 ∧ x4 < (List.length r1.1 : Int) then (if x5 < 0 then none else (if (0 : Int) ≤ x4 ∧ x4 < (List.length r1.1 : Int) then (if (0 : Int) ≤ x5 ∧ x5 < (List.length (List.set r1.1 (x4 : Int).toNat (Go.bits .xor IntKind.i64 (List.getD r1.1 (x4 : Int).toNat 0) (IntKind.i64.wrap (1 * 2 ^ min (x5 : Int).toNat IntKind.i64.bits)))) : Int) then (if x4 < 0 then none else (if (0 : Int) ≤ x5 ∧ x5 < (List.length (List.set r1.1 (x4 : Int).toNat (Go.bits .xor IntKind.i64 (List.getD r1.1 (x4 : Int).toNat 0) (IntKind.i64.wrap (1 * 2 ^ min (x5 : Int).toNat IntKind.i64.bits)))) : Int) then (some ((List.set (List.set r1.1 (x4 : Int).toNat (Go.bits .xor IntKind.i64 (List.getD r1.1 (x4 : Int).toNat 0) (IntKind.i64.wrap (1 * 2 ^ min (x5 : Int).toNat IntKind.i64.bits)))) (x5 : Int).toNat (Go.bits .xor IntKind.i64 (List.getD (List.set r1.1 (x4 : Int).toNat (Go.bits .xor IntKind.i64 (List.getD r1.1 (x4 : Int).toNat 0) (IntKind.i64.wrap (1 * 2 ^ min (x5 : Int).toNat IntKind.i64.bits)))) (x5 : Int).toNat 0) (IntKind.i64.wrap (1 * 2 ^ min (x4 : Int).toNat IntKind.i64.bits)))), r1.2.1, r1.2.2)) else none)) else none) else none)) else none) (cond (((x3 == 1) && ((x4 == x4) && ((x5 == 0) && true)))) (Option.bind (s_l1In_f (x4, 0, (IntKind.i64.wrap ((List.length x0 : Int) - 1)))) fun r4 => (cond (r4) (if (0 : Int) ≤ x4 ∧ x4 < (List.length x2 : Int) then (cond (((List.getD x2 (x4 : Int).toNat 0) == 0)) (if (0 : Int) ≤ x4 ∧ x4 < (List.length r1.2.2 : Int) then (some (r1.1, r1.2.1, (List.set r1.2.2 (x4 : Int).toNat 1))) else none) (cond (((x3 == 2) && ((x4 == 0) && ((x5 == 0) && true)))) (Option.bind (s_l3Step_f (x0, x1, x2)) fun r5 => (some (r1.1, r1.2.1, r5))) (cond (((x3 == 3) && ((x4 == x4) && ((x5 == 0) && true)))) (some (r1.1, x4, r1.2.2)) (some ([], 0, []))))) else none) (cond (((x3 == 2) && ((x4 == 0) && ((x5 == 0) && true)))) (Option.bind (s_l3Step_f (x0, x1, x2)) fun r6 => (some (r1.1, r1.2.1, r6))) (cond (((x3 == 3) && ((x4 == x4) && ((x5 == 0) && true)))) (some (r1.1, x4, r1.2.2)) (some ([], 0, [])))))) (cond (((x3 == 2) && ((x4 == 0) && ((x5 == 0) && true)))) (Option.bind (s_l3Step_f (x0, x1, x2)) fun r7 => (some (r1.1, r1.2.1, r7))) (cond (((x3 == 3) && ((x4 == x4) && ((x5 == 0) && true)))) (some (r1.1, x4, r1.2.2)) (some ([], 0, [])))))) (cond (((x3 == 1) && ((x4 == x4) && ((x5 == 0) && true)))) (Option.bind (s_l1In_f (x4, 0, (IntKind.i64.wrap ((List.length x0 : Int) - 1)))) fun r8 => (cond (r8) (if (0 : Int) ≤ x4 ∧ x4 < (List.length x2 : Int) then (cond (((List.getD x2 (x4 : Int).toNat 0) == 0)) (if (0 : Int) ≤ x4 ∧ x4 < (List.length r1.2.2 : Int) then (some (r1.1, r1.2.1, (List.set r1.2.2 (x4 : Int).toNat 1))) else none) (cond (((x3 == 2) && ((x4 == 0) && ((x5 == 0) && true)))) (Option.bind (s_l3Step_f (x0, x1, x2)) fun r9 => (some (r1.1, r1.2.1, r9))) (cond (((x3 == 3) && ((x4 == x4) && ((x5 == 0) && true)))) (some (r1.1, x4, r1.2.2)) (some ([], 0, []))))) else none) (cond (((x3 == 2) && ((x4 == 0) && ((x5 == 0) && true)))) (Option.bind (s_l3Step_f (x0, x1, x2)) fun r10 => (some (r1.1, r1.2.1, r10))) (cond (((x3 == 3) && ((x4 == x4) && ((x5 == 0) && true)))) (some (r1.1, x4, r1.2.2)) (some ([], 0, [])))))) (cond (((x3 == 2) && ((x4 == 0) && ((x5 == 0) && true)))) (Option.bind (s_l3Step_f (x0, x1, x2)) fun r11 => (some (r1.1, r1.2.1, r11))) (cond (((x3 == 3) && ((x4 == x4) && ((x5 == 0) && true)))) (some (r1.1, x4, r1.2.2)) (some ([], 0, []))))))) (cond (((x3 == 1) && ((x4 == x4) && ((x5 == 0) && true)))) (Option.bind (s_l1In_f (x4, 0, (IntKind.i64.wrap ((List.length x0 : Int) - 1)))) fun r12 => (cond (r12) (if (0 : Int) ≤ x4 ∧ x4 < (List.length x2 : Int) then (cond (((List.getD x2 (x4 : Int).toNat 0) == 0)) (if (0 : Int) ≤ x4 ∧ x4 < (List.length r1.2.2 : Int) then (some (r1.1, r1.2.1, (List.set r1.2.2 (x4 : Int).toNat 1))) else none) (cond (((x3 == 2) && ((x4 == 0) && ((x5 == 0) && true)))) (Option.bind (s_l3Step_f (x0, x1, x2)) fun r13 => (some (r1.1, r1.2.1, r13))) (cond (((x3 == 3) && ((x4 == x4) && ((x5 == 0) && true)))) (some (r1.1, x4, r1.2.2)) (some ([], 0, []))))) else none) (cond (((x3 == 2) && ((x4 == 0) && ((x5 == 0) && true)))) (Option.bind (s_l3Step_f (x0, x1, x2)) fun r14 => (some (r1.1, r1.2.1, r14))) (cond (((x3 == 3) && ((x4 == x4) && ((x5 == 0) && true)))) (some (r1.1, x4, r1.2.2)) (some ([], 0, [])))))) (cond (((x3 == 2) && ((x4 == 0) && ((x5 == 0) && true)))) (Option.bind (s_l3Step_f (x0, x1, x2)) fun r15 => (some (r1.1, r1.2.1, r15))) (cond (((x3 == 3) && ((x4 == x4) && ((x5 == 0) && true)))) (some (r1.1, x4, r1.2.2)) (some ([], 0, []))))))) (cond (((x3 == 1) && ((x4 == x4) && ((x5 == 0) && true)))) (Option.bind (s_l1In_f (x4, 0, (IntKind.i64.wrap ((List.length x0 : Int) - 1)))) fun r16 => (cond (r16) (if (0 : Int) ≤ x4 ∧ x4 < (List.length x2 : Int) then (cond (((List.getD x2 (x4 : Int).toNat 0) == 0)) (if (0 : Int) ≤ x4 ∧ x4 < (List.length r1.2.2 : Int) then (some (r1.1, r1.2.1, (List.set r1.2.2 (x4 : Int).toNat 1))) else none) (cond (((x3 == 2) && ((x4 == 0) && ((x5 == 0) && true)))) (Option.bind (s_l3Step_f (x0, x1, x2)) fun r17 => (some (r1.1, r1.2.1, r17))) (cond (((x3 == 3) && ((x4 == x4) && ((x5 == 0) && true)))) (some (r1.1, x4, r1.2.2)) (some ([], 0, []))))) else none) (cond (((x3 == 2) && ((x4 == 0) && ((x5 == 0) && true)))) (Option.bind (s_l3Step_f (x0, x1, x2)) fun r18 => (some (r1.1, r1.2.1, r18))) (cond (((x3 == 3) && ((x4 == x4) && ((x5 == 0) && true)))) (some (r1.1, x4, r1.2.2)) (some ([], 0, [])))))) (cond (((x3 == 2) && ((x4 == 0) && ((x5 == 0) && true)))) (Option.bind (s_l3Step_f (x0, x1, x2)) fun r19 => (some (r1.1, r1.2.1, r19))) (cond (((x3 == 3) && ((x4 == x4) && ((x5 == 0) && true)))) (some (r1.1, x4, r1.2.2)) (some ([], 0, []))))))) := by
  kernel_rfl
theorem s_l15Made_ent : Entb Try.prog 71 := ⟨Try.f71, by kernel_rfl, by kernel_rfl, by kernel_rfl⟩
theorem s_l15Made_ok : CtrOk Try.prog 71 ⟨s_l15Made_sig, s_l15Made_f⟩ :=
  ctr_of (fn := Try.f71) (by kernel_rfl) (by kernel_rfl) (fun x : Ts s_l15Made_sig.pc => s_l15Made_E) (fun x => ⟨(fn_cons ⟨s_l15Place_ok, s_l15Place_ent⟩ (fn_cons ⟨s_l1In_ok, s_l1In_ent⟩ (fn_cons ⟨s_l3Step_ok, s_l3Step_ent⟩ fn_none))), clo_none, wr_none⟩) (fun h => by cases h) follows_ (fun _ _ => trivial)
end FN
set_option linter.unusedVariables false
namespace FN
open Go Go.Proofs
/-! loop.example/firingnets/spec.DeskDo -/
@[reducible] def s_DeskDo_sig : Sig := { ps := [some 4, some 3], pc := [.view .i64, .int .i64, .view .i64, .view .place, .int .i64, .int .i64, .int .i64], rs := [some 4, none], rc := [.view .i64, .int .i64, .view .i64, .view .place, .bool] }
noncomputable def s_DeskDo_E : Env' := { fn := fun f => if f = 18 then some ⟨s_DeskOk_sig, s_DeskOk_f⟩ else if f = 33 then some ⟨s_PlaceOk_sig, s_PlaceOk_f⟩ else if f = 70 then some ⟨s_l15Copy_sig, s_l15Copy_f⟩ else if f = 71 then some ⟨s_l15Made_sig, s_l15Made_f⟩ else if f = 72 then some ⟨s_PlaceText_sig, s_PlaceText_f⟩ else none, ck := ckT, cuts := [(15, [4, 6, 8])], mine := fun i => i == 10 || i == 14 || i == 43 || i == 45 || i == 49 || i == 52 }
noncomputable def s_DeskDo_f (x : Ts s_DeskDo_sig.pc) : Option (Ts s_DeskDo_sig.rc) := runFn Try.prog (s_DeskDo_E) Try.f59 s_DeskDo_sig x
noncomputable def s_DeskDo_j0 (y0 : Int) (y1 : Int) (y2 : List (List Int × Int × List Int)) (y3 : Int) (y4 : List (Int)) (y5 : List (Int)) : Option ((List (Int)) × (Int) × (List (Int)) × (List (List Int × Int × List Int)) × (Bool)) := from_ Try.prog (s_DeskDo_E) Try.f59 s_DeskDo_sig [1, 1, 1, 1, 1, 1, 1, 1] ⟨mkT 74 [(4, .ptr 0 0), (6, .ptr 1 0), (8, .ptr 2 0)], [some (.box 29 [.nilS, .int .i64 y0, .nilS, .nilS]), some (.box 29 [.junk, .int .i64 y1, .junk, .row true .place y2]), some (.box 26 [.own 3, .int .i64 y3, .own 4]), some (.arr 3 true .i64 y4), some (.arr 3 true .i64 y5)]⟩
noncomputable def s_DeskDo_j1 (y0 : Int) (y1 : Int) (y2 : Int) (y3 : List (List Int × Int × List Int)) (y4 : List (Int)) (y5 : List (Int)) : Option ((List (Int)) × (Int) × (List (Int)) × (List (List Int × Int × List Int)) × (Bool)) := from_ Try.prog (s_DeskDo_E) Try.f59 s_DeskDo_sig [1, 1, 1, 1, 1, 1, 1, 1] ⟨mkT 74 [(4, .ptr 0 0), (6, .ptr 1 0), (8, .ptr 2 0)], [some (.box 29 [.nilS, .int .i64 y0, .nilS, .nilS]), some (.box 29 [.junk, .int .i64 y1, .junk, .own 3]), some (.box 26 [.own 4, .int .i64 y2, .own 5]), some (.arr 26 true .place y3), some (.arr 3 true .i64 y4), some (.arr 3 true .i64 y5)]⟩
theorem s_DeskDo_f_eq (x0 : (List (Int))) (x1 : (Int)) (x2 : (List (Int))) (x3 : (List (List Int × Int × List Int))) (x4 : (Int)) (x5 : (Int)) (x6 : (Int)) : s_DeskDo_f (x0, x1, x2, x3, x4, x5, x6) = (Option.bind (s_DeskOk_f (x0, x1, x2, x3)) fun r1 => (cond ((!r1)) (some ([], 0, [], [], false)) (Option.bind (s_l15Copy_f (x0, x1, x2, x3)) fun r2 => (cond (((x4 == 4) && ((x5 == 0) && ((x6 == 0) && true)))) (cond ((decide (0 < (List.length x3 : Int)))) (if (0 : Int) ≤ (IntKind.i64.wrap ((List.length r2.2.2.2 : Int) - 1)) ∧ (IntKind.i64.wrap ((List.length r2.2.2.2 : Int) - 1)) < (List.length r2.2.2.2 : Int) then (if (0 : Int) ≤ (IntKind.i64.wrap ((List.length r2.2.2.2 : Int) - 1)) ∧ (IntKind.i64.wrap ((List.length r2.2.2.2 : Int) - 1)) ≤ (List.length r2.2.2.2 : Int) then (some ((List.getD r2.2.2.2 ((IntKind.i64.wrap ((List.length r2.2.2.2 : Int) - 1)) : Int).toNat ([], 0, [])).1, (List.getD r2.2.2.2 ((IntKind.i64.wrap ((List.length r2.2.2.2 : Int) - 1)) : Int).toNat ([], 0, [])).2.1, (List.getD r2.2.2.2 ((IntKind.i64.wrap ((List.length r2.2.2.2 : Int) - 1)) : Int).toNat ([], 0, [])).2.2, (List.drop 0 (List.take (((IntKind.i64.wrap ((List.length r2.2.2.2 : Int) - 1)) : Int).toNat) r2.2.2.2)), true)) else none) else none) (Option.bind (s_l15Made_f (x0, x1, x2, x4, x5, x6)) fun r3 => (Option.bind (s_PlaceOk_f (r3.1, r3.2.1, r3.2.2)) fun r4 => (cond ((!r4)) (some (r2.1, r2.2.1, r2.2.2.1, r2.2.2.2, false)) (Option.bind (s_PlaceText_f (r3.1, r3.2.1, r3.2.2)) fun r5 => (Option.bind (s_PlaceText_f (x0, x1, x2)) fun r6 => (cond ((ByteArray.toList r5 == ByteArray.toList r6)) (some (r2.1, r2.2.1, r2.2.2.1, r2.2.2.2, false)) (if (List.length r2.2.2.2 + List.length ([(r2.1, r2.2.1, r2.2.2.1)] : List (List Int × Int × List Int))) * 56 ≤ 140737488355328 then (cond ((decide (8 < (List.length (r2.2.2.2 ++ ([(r2.1, r2.2.1, r2.2.2.1)] : List (List Int × Int × List Int))) : Int)))) (if (0 : Int) ≤ 1 ∧ 1 ≤ (List.length (r2.2.2.2 ++ ([(r2.1, r2.2.1, r2.2.2.1)] : List (List Int × Int × List Int))) : Int) then (s_DeskDo_j0 0 r2.2.1 (List.drop (1 : Int).toNat (List.take ((List.length (r2.2.2.2 ++ ([(r2.1, r2.2.1, r2.2.2.1)] : List (List Int × Int × List Int))))) (r2.2.2.2 ++ ([(r2.1, r2.2.1, r2.2.2.1)] : List (List Int × Int × List Int))))) r3.2.1 r3.1 r3.2.2) else none) (s_DeskDo_j1 0 r2.2.1 r3.2.1 (r2.2.2.2 ++ ([(r2.1, r2.2.1, r2.2.2.1)] : List (List Int × Int × List Int))) r3.1 r3.2.2)) else none)))))))) (Option.bind (s_l15Made_f (x0, x1, x2, x4, x5, x6)) fun r7 => (Option.bind (s_PlaceOk_f (r7.1, r7.2.1, r7.2.2)) fun r8 => (cond ((!r8)) (some (r2.1, r2.2.1, r2.2.2.1, r2.2.2.2, false)) (Option.bind (s_PlaceText_f (r7.1, r7.2.1, r7.2.2)) fun r9 => (Option.bind (s_PlaceText_f (x0, x1, x2)) fun r10 => (cond ((ByteArray.toList r9 == ByteArray.toList r10)) (some (r2.1, r2.2.1, r2.2.2.1, r2.2.2.2, false)) (if (List.length r2.2.2.2 + List.length ([(r2.1, r2.2.1, r2.2.2.1)] : List (List Int × Int × List Int))) * 56 ≤ 140737488355328 then (cond ((decide (8 < (List.length (r2.2.2.2 ++ ([(r2.1, r2.2.1, r2.2.2.1)] : List (List Int × Int × List Int))) : Int)))) (if (0 : Int) ≤ 1 ∧ 1 ≤ (List.length (r2.2.2.2 ++ ([(r2.1, r2.2.1, r2.2.2.1)] : List (List Int × Int × List Int))) : Int) then (s_DeskDo_j0 0 r2.2.1 (List.drop (1 : Int).toNat (List.take ((List.length (r2.2.2.2 ++ ([(r2.1, r2.2.1, r2.2.2.1)] : List (List Int × Int × List Int))))) (r2.2.2.2 ++ ([(r2.1, r2.2.1, r2.2.2.1)] : List (List Int × Int × List Int))))) r7.2.1 r7.1 r7.2.2) else none) (s_DeskDo_j1 0 r2.2.1 r7.2.1 (r2.2.2.2 ++ ([(r2.1, r2.2.1, r2.2.2.1)] : List (List Int × Int × List Int))) r7.1 r7.2.2)) else none))))))))))) := by
  kernel_rfl
theorem s_DeskDo_j0_eq (y0 : Int) (y1 : Int) (y2 : List (List Int × Int × List Int)) (y3 : Int) (y4 : List (Int)) (y5 : List (Int)) : s_DeskDo_j0 y0 y1 y2 y3 y4 y5 = (some (y4, y3, y5, y2, true)) := by
  kernel_rfl
theorem s_DeskDo_j1_eq (y0 : Int) (y1 : Int) (y2 : Int) (y3 : List (List Int × Int × List Int)) (y4 : List (Int)) (y5 : List (Int)) : s_DeskDo_j1 y0 y1 y2 y3 y4 y5 = (some (y4, y2, y5, y3, true)) := by
  kernel_rfl
theorem s_DeskDo_ent : Entb Try.prog 59 := ⟨Try.f59, by kernel_rfl, by kernel_rfl, by kernel_rfl⟩
theorem s_DeskDo_ok : CtrOk Try.prog 59 ⟨s_DeskDo_sig, s_DeskDo_f⟩ :=
  ctr_of (fn := Try.f59) (by kernel_rfl) (by kernel_rfl) (fun x : Ts s_DeskDo_sig.pc => s_DeskDo_E) (fun x => ⟨(fn_cons ⟨s_DeskOk_ok, s_DeskOk_ent⟩ (fn_cons ⟨s_PlaceOk_ok, s_PlaceOk_ent⟩ (fn_cons ⟨s_l15Copy_ok, s_l15Copy_ent⟩ (fn_cons ⟨s_l15Made_ok, s_l15Made_ent⟩ (fn_cons ⟨s_PlaceText_ok, s_PlaceText_ent⟩ fn_none))))), clo_none, wr_none⟩) (fun h => by cases h) follows_ (fun _ _ => trivial)
end FN
set_option linter.unusedVariables false
namespace FN
open Go Go.Proofs
/-! loop.example/firingnets/impl.DeskOk -/
@[reducible] def i_DeskOk_sig : Sig := { ps := [some 4], pc := [.view .i64, .int .i64, .view .i64, .view .place], rs := [none], rc := [.bool] }
noncomputable def i_DeskOk_E : Env' := { fn := fun f => if f = 35 then some ⟨i_PlaceOk_sig, i_PlaceOk_f⟩ else none, ck := ckT, cuts := [(2, [1, 6, 7, 8]), (7, [1])], mine := fun i => false }
noncomputable def i_DeskOk_f (x : Ts i_DeskOk_sig.pc) : Option (Ts i_DeskOk_sig.rc) := runFn Try.prog (i_DeskOk_E) Try.f17 i_DeskOk_sig x
noncomputable def i_DeskOk_l0 (y0 : List (List Int × Int × List Int)) (y1 : Int) (y2 : Int) (y3 : List (Int)) (y4 : Int) (y5 : List (Int)) (y6 : List (List Int × Int × List Int)) : Option ((Bool)) := from_ Try.prog (i_DeskOk_E) Try.f17 i_DeskOk_sig [1, 0, 1, 0] ⟨mkT 25 [(1, .ptr 0 0), (6, .row false .place y0), (7, .int .i64 y1), (8, .int .i64 y2)], [some (.box 29 [.row false .i64 y3, .int .i64 y4, .row false .i64 y5, .row false .place y6])]⟩
noncomputable def i_DeskOk_j1 (y0 : List (Int)) (y1 : Int) (y2 : List (Int)) (y3 : List (List Int × Int × List Int)) : Option ((Bool)) := from_ Try.prog (i_DeskOk_E) Try.f17 i_DeskOk_sig [1, 1] ⟨mkT 25 [(1, .ptr 0 0)], [some (.box 29 [.row false .i64 y0, .int .i64 y1, .row false .i64 y2, .row false .place y3])]⟩
theorem i_DeskOk_f_eq (x0 : (List (Int))) (x1 : (Int)) (x2 : (List (Int))) (x3 : (List (List Int × Int × List Int))) : i_DeskOk_f (x0, x1, x2, x3) = (i_DeskOk_l0 x3 (List.length x3 : Int) 0 x0 x1 x2 x3) := by
  kernel_rfl
theorem i_DeskOk_l0_eq (y0 : List (List Int × Int × List Int)) (y1 : Int) (y2 : Int) (y3 : List (Int)) (y4 : Int) (y5 : List (Int)) (y6 : List (List Int × Int × List Int)) : i_DeskOk_l0 y0 y1 y2 y3 y4 y5 y6 = (cond ((decide (y2 < y1))) (if (0 : Int) ≤ y2 ∧ y2 < (List.length y0 : Int) then (Option.bind (i_PlaceOk_f ((List.getD y0 (y2 : Int).toNat ([], 0, [])).1, (List.getD y0 (y2 : Int).toNat ([], 0, [])).2.1, (List.getD y0 (y2 : Int).toNat ([], 0, [])).2.2)) fun r1 => (cond ((!r1)) (some false) (i_DeskOk_l0 y0 y1 (IntKind.i64.wrap (y2 + 1)) y3 y4 y5 y6))) else none) (i_DeskOk_j1 y3 y4 y5 y6)) := by
  refine (loopK_eq Try.prog (i_DeskOk_E) (sub (Try.f17.body.getD .skip) [1, 0, 1, 0, 0]) _ _).trans ?_
  kernel_rfl
theorem i_DeskOk_j1_eq (y0 : List (Int)) (y1 : Int) (y2 : List (Int)) (y3 : List (List Int × Int × List Int)) : i_DeskOk_j1 y0 y1 y2 y3 = (Option.bind (i_PlaceOk_f (y0, y1, y2)) fun r1 => (cond (r1) (some (decide ((List.length y3 : Int) ≤ 8))) (some false))) := by
  kernel_rfl
theorem i_DeskOk_ent : Entb Try.prog 17 := ⟨Try.f17, by kernel_rfl, by kernel_rfl, by kernel_rfl⟩
theorem i_DeskOk_ok : CtrOk Try.prog 17 ⟨i_DeskOk_sig, i_DeskOk_f⟩ :=
  ctr_of (fn := Try.f17) (by kernel_rfl) (by kernel_rfl) (fun x : Ts i_DeskOk_sig.pc => i_DeskOk_E) (fun x => ⟨(fn_cons ⟨i_PlaceOk_ok, i_PlaceOk_ent⟩ fn_none), clo_none, wr_none⟩) (fun h => by cases h) follows_ (fun _ _ => trivial)
end FN
set_option linter.unusedVariables false
namespace FN
open Go Go.Proofs
/-! (*loop.example/firingnets/spec.l20Rd).pick -/
@[reducible] def r_pick_sig : Sig := { rd := some 79, ps := [none], pc := [.view .u8, .int .i64, .int .i64], rs := [none], rc := [.int .i64, .int .i64] }
noncomputable def r_pick_E (b : List Int) : Env' := { keep := [0], rdb := b, fn := fun f => none, ck := ckT, cuts := [], mine := fun i => false }
noncomputable def r_pick_f (x : Ts r_pick_sig.pc) : Option (Ts r_pick_sig.rc) := runFn Try.prog (r_pick_E x.1) Try.f58 r_pick_sig x
theorem r_pick_f_eq (x0 : (List (Int))) (x1 : (Int)) (x2 : (Int)) : r_pick_f (x0, x1, x2) = (cond ((decide (x2 < 1))) (if 79 = 79 ∧ x0 = x0 then (some (0, (IntKind.i64.wrap (x1 + 1)))) else none) (cond (((List.length x0 : Int) == 0)) (if 79 = 79 ∧ x0 = x0 then (some (0, (IntKind.i64.wrap (x1 + 1)))) else none) (cond ((decide ((IntKind.i64.wrap ((IntKind.i64.wrap (x1 + 1)) - 1)) < (List.length x0 : Int)))) (if (0 : Int) ≤ (IntKind.i64.wrap ((IntKind.i64.wrap (x1 + 1)) - 1)) ∧ (IntKind.i64.wrap ((IntKind.i64.wrap (x1 + 1)) - 1)) < (List.length x0 : Int) then (if x2 = 0 then none else (if 79 = 79 ∧ x0 = x0 then (some ((Int.tmod (IntKind.i64.wrap (List.getD x0 ((IntKind.i64.wrap ((IntKind.i64.wrap (x1 + 1)) - 1)) : Int).toNat 0)) x2), (IntKind.i64.wrap (x1 + 1)))) else none)) else none) (if (List.length x0 : Int) = 0 then none else (if (0 : Int) ≤ (Int.tmod (IntKind.i64.wrap ((IntKind.i64.wrap (x1 + 1)) - 1)) (List.length x0 : Int)) ∧ (Int.tmod (IntKind.i64.wrap ((IntKind.i64.wrap (x1 + 1)) - 1)) (List.length x0 : Int)) < (List.length x0 : Int) then (if (List.length x0 : Int) = 0 then none else (if (0 : Int) ≤ (Int.tmod (IntKind.i64.wrap ((IntKind.i64.wrap ((IntKind.i64.wrap ((IntKind.i64.wrap (x1 + 1)) - 1)) * 7)) + 3)) (List.length x0 : Int)) ∧ (Int.tmod (IntKind.i64.wrap ((IntKind.i64.wrap ((IntKind.i64.wrap ((IntKind.i64.wrap (x1 + 1)) - 1)) * 7)) + 3)) (List.length x0 : Int)) < (List.length x0 : Int) then (if (List.length x0 : Int) = 0 then none else (if x2 = 0 then none else (if 79 = 79 ∧ x0 = x0 then (some ((Int.tmod (Go.bits .xor IntKind.i64 (IntKind.i64.wrap ((IntKind.i64.wrap ((IntKind.i64.wrap ((IntKind.i64.wrap ((IntKind.i64.wrap (List.getD x0 ((Int.tmod (IntKind.i64.wrap ((IntKind.i64.wrap (x1 + 1)) - 1)) (List.length x0 : Int)) : Int).toNat 0)) * 131)) + (IntKind.i64.wrap ((IntKind.i64.wrap (List.getD x0 ((Int.tmod (IntKind.i64.wrap ((IntKind.i64.wrap ((IntKind.i64.wrap ((IntKind.i64.wrap (x1 + 1)) - 1)) * 7)) + 3)) (List.length x0 : Int)) : Int).toNat 0)) * 1117)))) + (IntKind.i64.wrap ((IntKind.i64.wrap ((IntKind.i64.wrap (x1 + 1)) - 1)) * 29)))) + (IntKind.i64.wrap ((IntKind.i64.wrap (Int.tdiv (IntKind.i64.wrap ((IntKind.i64.wrap (x1 + 1)) - 1)) (List.length x0 : Int))) * 53)))) (IntKind.i64.wrap (Int.tdiv (IntKind.i64.wrap ((IntKind.i64.wrap ((IntKind.i64.wrap ((IntKind.i64.wrap ((IntKind.i64.wrap (List.getD x0 ((Int.tmod (IntKind.i64.wrap ((IntKind.i64.wrap (x1 + 1)) - 1)) (List.length x0 : Int)) : Int).toNat 0)) * 131)) + (IntKind.i64.wrap ((IntKind.i64.wrap (List.getD x0 ((Int.tmod (IntKind.i64.wrap ((IntKind.i64.wrap ((IntKind.i64.wrap ((IntKind.i64.wrap (x1 + 1)) - 1)) * 7)) + 3)) (List.length x0 : Int)) : Int).toNat 0)) * 1117)))) + (IntKind.i64.wrap ((IntKind.i64.wrap ((IntKind.i64.wrap (x1 + 1)) - 1)) * 29)))) + (IntKind.i64.wrap ((IntKind.i64.wrap (Int.tdiv (IntKind.i64.wrap ((IntKind.i64.wrap (x1 + 1)) - 1)) (List.length x0 : Int))) * 53)))) 64))) x2), (IntKind.i64.wrap (x1 + 1)))) else none))) else none)) else none))))) := by
  kernel_rfl
theorem r_pick_ent : Entb Try.prog 58 := ⟨Try.f58, by kernel_rfl, by kernel_rfl, by kernel_rfl⟩
theorem r_pick_ok : CtrOk Try.prog 58 ⟨r_pick_sig, r_pick_f⟩ :=
  ctr_of (fn := Try.f58) (by kernel_rfl) (by kernel_rfl) (fun x : Ts r_pick_sig.pc => r_pick_E x.1) (fun x => ⟨fn_none, clo_none, wr_none⟩) (fun _ x => ⟨rfl, fun b ps h => rd_head h⟩) follows_ (fun _ _ => trivial)
end FN
set_option linter.unusedVariables false
namespace FN
open Go Go.Proofs
/-! loop.example/firingnets/spec.l20Open -/
@[reducible] def s_l20Open_sig : Sig := { ps := [none], pc := [.view .u8], nw := some 79, rs := [none], rc := [.view .u8, .int .i64] }
noncomputable def s_l20Open_E : Env' := { fn := fun f => none, ck := ckT, cuts := [], mine := fun i => false }
noncomputable def s_l20Open_f (x : Ts s_l20Open_sig.pc) : Option (Ts s_l20Open_sig.rc) := runFn Try.prog (s_l20Open_E) Try.f42 s_l20Open_sig x
theorem s_l20Open_f_eq (x0 : (List (Int))) : s_l20Open_f x0 = (cond ((decide (2000 < (List.length x0 : Int)))) (if (0 : Int) ≤ 2000 ∧ 2000 ≤ (List.length x0 : Int) then (some ((List.drop 0 (List.take ((2000 : Int).toNat) x0)), 0)) else none) (some (x0, 0))) := by
  kernel_rfl
theorem s_l20Open_ent : Entb Try.prog 42 := ⟨Try.f42, by kernel_rfl, by kernel_rfl, by kernel_rfl⟩
theorem s_l20Open_ok : CtrOk Try.prog 42 ⟨s_l20Open_sig, s_l20Open_f⟩ :=
  ctr_of (fn := Try.f42) (by kernel_rfl) (by kernel_rfl) (fun x : Ts s_l20Open_sig.pc => s_l20Open_E) (fun x => ⟨fn_none, clo_none, wr_none⟩) (fun h => by cases h) follows_ (fun _ _ => trivial)
end FN
set_option linter.unusedVariables false
namespace FN
open Go Go.Proofs
/-! (*loop.example/firingnets/spec.l20Rd).odd -/
@[reducible] def r_odd_sig : Sig := { rd := some 79, ps := [none], pc := [.view .u8, .int .i64, .int .i64], rs := [none], rc := [.bool, .int .i64] }
noncomputable def r_odd_E (b : List Int) : Env' := { keep := [0], rdb := b, fn := fun f => if f = 58 then some ⟨r_pick_sig, r_pick_f⟩ else none, ck := ckT, cuts := [], mine := fun i => false }
noncomputable def r_odd_f (x : Ts r_odd_sig.pc) : Option (Ts r_odd_sig.rc) := runFn Try.prog (r_odd_E x.1) Try.f61 r_odd_sig x
theorem r_odd_f_eq (x0 : (List (Int))) (x1 : (Int)) (x2 : (Int)) : r_odd_f (x0, x1, x2) = (cond ((decide (0 < x2))) (Option.bind (r_pick_f (x0, x1, x2)) fun r1 => (if 79 = 79 ∧ x0 = x0 then (some ((r1.1 == (IntKind.i64.wrap (x2 - 1))), r1.2)) else none)) (if 79 = 79 ∧ x0 = x0 then (some (false, x1)) else none)) := by
  kernel_rfl
theorem r_odd_ent : Entb Try.prog 61 := ⟨Try.f61, by kernel_rfl, by kernel_rfl, by kernel_rfl⟩
theorem r_odd_ok : CtrOk Try.prog 61 ⟨r_odd_sig, r_odd_f⟩ :=
  ctr_of (fn := Try.f61) (by kernel_rfl) (by kernel_rfl) (fun x : Ts r_odd_sig.pc => r_odd_E x.1) (fun x => ⟨(fn_cons ⟨r_pick_ok, r_pick_ent⟩ fn_none), clo_none, wr_none⟩) (fun _ x => ⟨rfl, fun b ps h => rd_head h⟩) follows_ (fun _ _ => trivial)
end FN
set_option linter.unusedVariables false
namespace FN
open Go Go.Proofs
/-! loop.example/firingnets/spec.PathNet -/
@[reducible] def s_PathNet_sig : Sig := { ps := [none], pc := [.int .i64], rs := [none], rc := [.row 3 .i64] }
noncomputable def s_PathNet_E : Env' := { fn := fun f => if f = 73 then some ⟨s_l1In_sig, s_l1In_f⟩ else none, ck := ckT, cuts := [(3, [0, 3, 4]), (8, [0, 3, 4, 5])], mine := fun i => false }
noncomputable def s_PathNet_f (x : Ts s_PathNet_sig.pc) : Option (Ts s_PathNet_sig.rc) := runFn Try.prog (s_PathNet_E) Try.f76 s_PathNet_sig x
noncomputable def s_PathNet_l0 (y0 : Int) (y1 : Int) (y2 : List (Int)) : Option ((List (Int))) := from_ Try.prog (s_PathNet_E) Try.f76 s_PathNet_sig [1, 1, 0, 1, 0] ⟨mkT 37 [(0, .int .i64 y0), (3, .own 0), (4, .int .i64 y1)], [some (.arr 3 true .i64 y2)]⟩
noncomputable def s_PathNet_j1 (y0 : Int) (y1 : Int) (y2 : Int) (y3 : List (Int)) : Option ((List (Int))) := from_ Try.prog (s_PathNet_E) Try.f76 s_PathNet_sig [1, 1, 0, 1, 0, 0, 1, 0, 0, 1, 1] ⟨mkT 37 [(0, .int .i64 y0), (3, .own 0), (4, .int .i64 y1), (5, .int .i64 y2)], [some (.arr 3 true .i64 y3)]⟩
theorem s_PathNet_f_eq (x0 : (Int)) : s_PathNet_f x0 = (s_PathNet_l0 x0 0 ([] : List (Int))) := by
  kernel_rfl
theorem s_PathNet_l0_eq (y0 : Int) (y1 : Int) (y2 : List (Int)) : s_PathNet_l0 y0 y1 y2 = (cond ((decide (y1 < y0))) (Option.bind (s_l1In_f (y0, 1, 6)) fun r1 => (cond (r1) (cond ((decide (0 < y1))) (if (IntKind.i64.wrap (y1 - 1)) < 0 then none else (s_PathNet_j1 y0 y1 (Go.bits .or IntKind.i64 0 (IntKind.i64.wrap (1 * 2 ^ min ((IntKind.i64.wrap (y1 - 1)) : Int).toNat IntKind.i64.bits))) y2)) (s_PathNet_j1 y0 y1 0 y2)) (some y2))) (some y2)) := by
  refine (loopK_eq Try.prog (s_PathNet_E) (sub (Try.f76.body.getD .skip) [1, 1, 0, 1, 0, 0]) _ _).trans ?_
  kernel_rfl
theorem s_PathNet_j1_eq (y0 : Int) (y1 : Int) (y2 : Int) (y3 : List (Int)) : s_PathNet_j1 y0 y1 y2 y3 = (cond ((decide ((IntKind.i64.wrap (y1 + 1)) < y0))) (if (IntKind.i64.wrap (y1 + 1)) < 0 then none else (if (List.length y3 + List.length ([(Go.bits .or IntKind.i64 y2 (IntKind.i64.wrap (1 * 2 ^ min ((IntKind.i64.wrap (y1 + 1)) : Int).toNat IntKind.i64.bits)))] : List (Int))) * 8 ≤ 140737488355328 then (s_PathNet_l0 y0 (IntKind.i64.wrap (y1 + 1)) (y3 ++ ([(Go.bits .or IntKind.i64 y2 (IntKind.i64.wrap (1 * 2 ^ min ((IntKind.i64.wrap (y1 + 1)) : Int).toNat IntKind.i64.bits)))] : List (Int)))) else none)) (if (List.length y3 + List.length ([y2] : List (Int))) * 8 ≤ 140737488355328 then (s_PathNet_l0 y0 (IntKind.i64.wrap (y1 + 1)) (y3 ++ ([y2] : List (Int)))) else none)) := by
  kernel_rfl
theorem s_PathNet_ent : Entb Try.prog 76 := ⟨Try.f76, by kernel_rfl, by kernel_rfl, by kernel_rfl⟩
theorem s_PathNet_ok : CtrOk Try.prog 76 ⟨s_PathNet_sig, s_PathNet_f⟩ :=
  ctr_of (fn := Try.f76) (by kernel_rfl) (by kernel_rfl) (fun x : Ts s_PathNet_sig.pc => s_PathNet_E) (fun x => ⟨(fn_cons ⟨s_l1In_ok, s_l1In_ent⟩ fn_none), clo_none, wr_none⟩) (fun h => by cases h) follows_ (fun _ _ => trivial)
end FN
set_option linter.unusedVariables false
namespace FN
open Go Go.Proofs
/-! loop.example/firingnets/spec.RingNet -/
@[reducible] def s_RingNet_sig : Sig := { ps := [none], pc := [.int .i64], rs := [none], rc := [.row 3 .i64] }
noncomputable def s_RingNet_E : Env' := { fn := fun f => if f = 73 then some ⟨s_l1In_sig, s_l1In_f⟩ else none, ck := ckT, cuts := [(3, [0, 3, 4])], mine := fun i => false }
noncomputable def s_RingNet_f (x : Ts s_RingNet_sig.pc) : Option (Ts s_RingNet_sig.rc) := runFn Try.prog (s_RingNet_E) Try.f77 s_RingNet_sig x
noncomputable def s_RingNet_l0 (y0 : Int) (y1 : Int) (y2 : List (Int)) : Option ((List (Int))) := from_ Try.prog (s_RingNet_E) Try.f77 s_RingNet_sig [1, 1, 0, 1, 0] ⟨mkT 32 [(0, .int .i64 y0), (3, .own 0), (4, .int .i64 y1)], [some (.arr 3 true .i64 y2)]⟩
theorem s_RingNet_f_eq (x0 : (Int)) : s_RingNet_f x0 = (s_RingNet_l0 x0 0 ([] : List (Int))) := by
  kernel_rfl
theorem s_RingNet_l0_eq (y0 : Int) (y1 : Int) (y2 : List (Int)) : s_RingNet_l0 y0 y1 y2 = (cond ((decide (y1 < y0))) (Option.bind (s_l1In_f (y0, 3, 6)) fun r1 => (cond (r1) (if y0 = 0 then none else (if (Int.tmod (IntKind.i64.wrap (y1 + 1)) y0) < 0 then none else (if y0 = 0 then none else (if (Int.tmod (IntKind.i64.wrap ((IntKind.i64.wrap (y1 + y0)) - 1)) y0) < 0 then none else (if (List.length y2 + List.length ([(Go.bits .or IntKind.i64 (IntKind.i64.wrap (1 * 2 ^ min ((Int.tmod (IntKind.i64.wrap (y1 + 1)) y0) : Int).toNat IntKind.i64.bits)) (IntKind.i64.wrap (1 * 2 ^ min ((Int.tmod (IntKind.i64.wrap ((IntKind.i64.wrap (y1 + y0)) - 1)) y0) : Int).toNat IntKind.i64.bits)))] : List (Int))) * 8 ≤ 140737488355328 then (s_RingNet_l0 y0 (IntKind.i64.wrap (y1 + 1)) (y2 ++ ([(Go.bits .or IntKind.i64 (IntKind.i64.wrap (1 * 2 ^ min ((Int.tmod (IntKind.i64.wrap (y1 + 1)) y0) : Int).toNat IntKind.i64.bits)) (IntKind.i64.wrap (1 * 2 ^ min ((Int.tmod (IntKind.i64.wrap ((IntKind.i64.wrap (y1 + y0)) - 1)) y0) : Int).toNat IntKind.i64.bits)))] : List (Int)))) else none))))) (some y2))) (some y2)) := by
  refine (loopK_eq Try.prog (s_RingNet_E) (sub (Try.f77.body.getD .skip) [1, 1, 0, 1, 0, 0]) _ _).trans ?_
  kernel_rfl
theorem s_RingNet_ent : Entb Try.prog 77 := ⟨Try.f77, by kernel_rfl, by kernel_rfl, by kernel_rfl⟩
theorem s_RingNet_ok : CtrOk Try.prog 77 ⟨s_RingNet_sig, s_RingNet_f⟩ :=
  ctr_of (fn := Try.f77) (by kernel_rfl) (by kernel_rfl) (fun x : Ts s_RingNet_sig.pc => s_RingNet_E) (fun x => ⟨(fn_cons ⟨s_l1In_ok, s_l1In_ent⟩ fn_none), clo_none, wr_none⟩) (fun h => by cases h) follows_ (fun _ _ => trivial)
end FN
set_option linter.unusedVariables false
namespace FN
open Go Go.Proofs
/-! loop.example/firingnets/spec.l20Net -/
@[reducible] def s_l20Net_sig : Sig := { rd := some 79, ps := [none], pc := [.view .u8, .int .i64, .int .i64], rs := [none], rc := [.row 3 .i64, .int .i64] }
noncomputable def s_l20Net_E (b : List Int) : Env' := { keep := [0], rdb := b, fn := fun f => if f = 58 then some ⟨r_pick_sig, r_pick_f⟩ else if f = 61 then some ⟨r_odd_sig, r_odd_f⟩ else if f = 76 then some ⟨s_PathNet_sig, s_PathNet_f⟩ else if f = 77 then some ⟨s_RingNet_sig, s_RingNet_f⟩ else none, ck := ckT, cuts := [(9, [0, 1, 5, 6]), (10, [0, 1, 5, 6, 7]), (17, [0, 1, 5, 6])], mine := fun i => i == 11 || i == 14 || i == 16 || i == 22 || i == 28 || i == 35 || i == 38 || i == 64 || i == 66 }
noncomputable def s_l20Net_f (x : Ts s_l20Net_sig.pc) : Option (Ts s_l20Net_sig.rc) := runFn Try.prog (s_l20Net_E x.1) Try.f69 s_l20Net_sig x
noncomputable def s_l20Net_j0 (b : List Int) (y0 : Int) (y1 : Int) (y2 : List (Int)) (y3 : Int) (y4 : List (Int)) : Option ((List (Int)) × (Int)) := from_ Try.prog (s_l20Net_E b) Try.f69 s_l20Net_sig [1, 1, 1, 1] ⟨mkT 92 [(0, .ptr 0 0), (1, .int .i64 y0), (5, .int .i64 y1), (6, .own 1)], [some (.box 79 [.row false .u8 y2, .int .i64 y3]), some (.arr 3 true .i64 y4)]⟩
noncomputable def s_l20Net_l1 (b : List Int) (y0 : Int) (y1 : Int) (y2 : Int) (y3 : List (Int)) (y4 : Int) (y5 : List (Int)) : Option ((List (Int)) × (Int)) := from_ Try.prog (s_l20Net_E b) Try.f69 s_l20Net_sig [1, 1, 1, 1, 0, 1, 0] ⟨mkT 92 [(0, .ptr 0 0), (1, .int .i64 y0), (5, .int .i64 y1), (6, .own 1), (7, .int .i64 y2)], [some (.box 79 [.row false .u8 y3, .int .i64 y4]), some (.arr 3 true .i64 y5)]⟩
noncomputable def s_l20Net_j2 (b : List Int) (y0 : Int) (y1 : Int) (y2 : List (Int)) (y3 : Int) (y4 : List (Int)) : Option ((List (Int)) × (Int)) := from_ Try.prog (s_l20Net_E b) Try.f69 s_l20Net_sig [1, 1, 1, 1, 1] ⟨mkT 92 [(0, .ptr 0 0), (1, .int .i64 y0), (5, .int .i64 y1), (6, .own 1)], [some (.box 79 [.row false .u8 y2, .int .i64 y3]), some (.arr 3 true .i64 y4)]⟩
theorem s_l20Net_f_eq (x0 : (List (Int))) (x1 : (Int)) (x2 : (Int)) : s_l20Net_f (x0, x1, x2) = (Option.bind (r_pick_f (x0, x1, 6)) fun r1 => (Option.bind (s_PathNet_f (IntKind.i64.wrap (1 + r1.1))) fun r2 => (Option.bind (r_pick_f (x0, r1.2, 4)) fun r3 => (cond ((r3.1 == 0)) (cond ((decide (3 ≤ (IntKind.i64.wrap (1 + r1.1))))) (Option.bind (s_RingNet_f (IntKind.i64.wrap (1 + r1.1))) fun r4 => (s_l20Net_j0 x0 x2 (IntKind.i64.wrap (1 + r1.1)) x0 r3.2 r4)) (s_l20Net_j0 x0 x2 (IntKind.i64.wrap (1 + r1.1)) x0 r3.2 r2)) (cond ((r3.1 == 1)) (if (0 : Int) ≤ (IntKind.i64.wrap (1 + r1.1)) ∧ (IntKind.i64.wrap (1 + r1.1)) * 8 ≤ 140737488355328 ∧ (IntKind.i64.wrap (1 + r1.1)) ≤ 140737488355328 then (s_l20Net_j0 x0 x2 (IntKind.i64.wrap (1 + r1.1)) x0 r3.2 (List.replicate ((IntKind.i64.wrap (1 + r1.1)) : Int).toNat 0 : List (Int))) else none) (s_l20Net_j0 x0 x2 (IntKind.i64.wrap (1 + r1.1)) x0 r3.2 r2)))))) := by
  kernel_rfl
theorem s_l20Net_j0_eq (b : List Int) (y0 : Int) (y1 : Int) (y2 : List (Int)) (y3 : Int) (y4 : List (Int)) : s_l20Net_j0 b y0 y1 y2 y3 y4 = (Option.bind (r_pick_f (y2, y3, 6)) fun r1 => (s_l20Net_l1 b y0 y1 r1.1 y2 r1.2 y4)) := by
  kernel_rfl
theorem s_l20Net_l1_eq (b : List Int) (y0 : Int) (y1 : Int) (y2 : Int) (y3 : List (Int)) (y4 : Int) (y5 : List (Int)) : s_l20Net_l1 b y0 y1 y2 y3 y4 y5 = (cond ((decide (0 < y2))) (Option.bind (r_pick_f (y3, y4, y1)) fun r1 => (Option.bind (r_pick_f (y3, r1.2, y1)) fun r2 => (cond ((r1.1 != r2.1)) (if (0 : Int) ≤ r1.1 ∧ r1.1 < (List.length y5 : Int) then (if r2.1 < 0 then none else (if (0 : Int) ≤ r1.1 ∧ r1.1 < (List.length y5 : Int) then (if (0 : Int) ≤ r2.1 ∧ r2.1 < (List.length (List.set y5 (r1.1 : Int).toNat (Go.bits .or IntKind.i64 (List.getD y5 (r1.1 : Int).toNat 0) (IntKind.i64.wrap (1 * 2 ^ min (r2.1 : Int).toNat IntKind.i64.bits)))) : Int) then (if r1.1 < 0 then none else (if (0 : Int) ≤ r2.1 ∧ r2.1 < (List.length (List.set y5 (r1.1 : Int).toNat (Go.bits .or IntKind.i64 (List.getD y5 (r1.1 : Int).toNat 0) (IntKind.i64.wrap (1 * 2 ^ min (r2.1 : Int).toNat IntKind.i64.bits)))) : Int) then (s_l20Net_l1 b y0 y1 (IntKind.i64.wrap (y2 - 1)) y3 r2.2 (List.set (List.set y5 (r1.1 : Int).toNat (Go.bits .or IntKind.i64 (List.getD y5 (r1.1 : Int).toNat 0) (IntKind.i64.wrap (1 * 2 ^ min (r2.1 : Int).toNat IntKind.i64.bits)))) (r2.1 : Int).toNat (Go.bits .or IntKind.i64 (List.getD (List.set y5 (r1.1 : Int).toNat (Go.bits .or IntKind.i64 (List.getD y5 (r1.1 : Int).toNat 0) (IntKind.i64.wrap (1 * 2 ^ min (r2.1 : Int).toNat IntKind.i64.bits)))) (r2.1 : Int).toNat 0) (IntKind.i64.wrap (1 * 2 ^ min (r1.1 : Int).toNat IntKind.i64.bits))))) else none)) else none) else none)) else none) (s_l20Net_l1 b y0 y1 (IntKind.i64.wrap (y2 - 1)) y3 r2.2 y5)))) (s_l20Net_j2 b y0 y1 y3 y4 y5)) := by
  refine (loopK_eq Try.prog (s_l20Net_E b) (sub (Try.f69.body.getD .skip) [1, 1, 1, 1, 0, 1, 0, 0]) _ _).trans ?_
  kernel_rfl
theorem s_l20Net_j2_eq (b : List Int) (y0 : Int) (y1 : Int) (y2 : List (Int)) (y3 : Int) (y4 : List (Int)) : s_l20Net_j2 b y0 y1 y2 y3 y4 = (Option.bind (r_odd_f (y2, y3, y0)) fun r1 => (cond (r1.1) (Option.bind (r_pick_f (y2, r1.2, 3)) fun r2 => (cond ((r2.1 == 0)) (if 79 = 79 ∧ y2 = b then (some (([] : List (Int)), r2.2)) else none) (cond ((r2.1 == 1)) (if (0 : Int) ≤ 0 ∧ 0 < (List.length y4 : Int) then (if (0 : Int) ≤ 0 ∧ 0 < (List.length y4 : Int) then (if 79 = 79 ∧ y2 = b then (some ((List.set y4 (0 : Int).toNat (Go.bits .or IntKind.i64 (List.getD y4 (0 : Int).toNat 0) 1)), r2.2)) else none) else none) else none) (if (0 : Int) ≤ 0 ∧ 0 < (List.length y4 : Int) then (if (IntKind.i64.wrap (y1 - 1)) < 0 then none else (if (0 : Int) ≤ 0 ∧ 0 < (List.length y4 : Int) then (cond ((y1 == 1)) (if (0 : Int) ≤ 0 ∧ 0 < (List.length (List.set y4 (0 : Int).toNat (Go.bits .xor IntKind.i64 (List.getD y4 (0 : Int).toNat 0) (IntKind.i64.wrap (1 * 2 ^ min ((IntKind.i64.wrap (y1 - 1)) : Int).toNat IntKind.i64.bits)))) : Int) then (if 79 = 79 ∧ y2 = b then (some ((List.set (List.set y4 (0 : Int).toNat (Go.bits .xor IntKind.i64 (List.getD y4 (0 : Int).toNat 0) (IntKind.i64.wrap (1 * 2 ^ min ((IntKind.i64.wrap (y1 - 1)) : Int).toNat IntKind.i64.bits)))) (0 : Int).toNat (-1)), r2.2)) else none) else none) (if 79 = 79 ∧ y2 = b then (some ((List.set y4 (0 : Int).toNat (Go.bits .xor IntKind.i64 (List.getD y4 (0 : Int).toNat 0) (IntKind.i64.wrap (1 * 2 ^ min ((IntKind.i64.wrap (y1 - 1)) : Int).toNat IntKind.i64.bits)))), r2.2)) else none)) else none)) else none)))) (if 79 = 79 ∧ y2 = b then (some (y4, r1.2)) else none))) := by
  kernel_rfl
theorem s_l20Net_ent : Entb Try.prog 69 := ⟨Try.f69, by kernel_rfl, by kernel_rfl, by kernel_rfl⟩
theorem s_l20Net_ok : CtrOk Try.prog 69 ⟨s_l20Net_sig, s_l20Net_f⟩ :=
  ctr_of (fn := Try.f69) (by kernel_rfl) (by kernel_rfl) (fun x : Ts s_l20Net_sig.pc => s_l20Net_E x.1) (fun x => ⟨(fn_cons ⟨r_pick_ok, r_pick_ent⟩ (fn_cons ⟨r_odd_ok, r_odd_ent⟩ (fn_cons ⟨s_PathNet_ok, s_PathNet_ent⟩ (fn_cons ⟨s_RingNet_ok, s_RingNet_ent⟩ fn_none)))), clo_none, wr_none⟩) (fun _ x => ⟨rfl, fun b ps h => rd_head h⟩) follows_ (fun _ _ => trivial)
end FN
set_option linter.unusedVariables false
namespace FN
open Go Go.Proofs
/-! loop.example/firingnets/spec.l20State -/
@[reducible] def s_l20State_sig : Sig := { rd := some 79, ps := [none, none, none], pc := [.view .u8, .int .i64, .int .i64, .int .i64, .int .i64], rs := [none], rc := [.row 3 .i64, .int .i64] }
noncomputable def s_l20State_E (b : List Int) : Env' := { keep := [0], rdb := b, fn := fun f => if f = 58 then some ⟨r_pick_sig, r_pick_f⟩ else if f = 61 then some ⟨r_odd_sig, r_odd_f⟩ else none, ck := ckT, cuts := [(4, [0, 1, 2, 3, 9, 10, 11]), (9, [0, 2, 3, 9])], mine := fun i => false }
noncomputable def s_l20State_f (x : Ts s_l20State_sig.pc) : Option (Ts s_l20State_sig.rc) := runFn Try.prog (s_l20State_E x.1) Try.f51 s_l20State_sig x
noncomputable def s_l20State_l0 (b : List Int) (y0 : Int) (y1 : Int) (y2 : Int) (y3 : Int) (y4 : Int) (y5 : List (Int)) (y6 : Int) (y7 : List (Int)) : Option ((List (Int)) × (Int)) := from_ Try.prog (s_l20State_E b) Try.f51 s_l20State_sig [1, 1, 1, 0, 1, 0] ⟨mkT 52 [(0, .ptr 0 0), (1, .int .i64 y0), (2, .int .i64 y1), (3, .int .i64 y2), (9, .own 1), (10, .int .i64 y3), (11, .int .i64 y4)], [some (.box 79 [.row false .u8 y5, .int .i64 y6]), some (.arr 3 true .i64 y7)]⟩
noncomputable def s_l20State_j1 (b : List Int) (y0 : Int) (y1 : Int) (y2 : List (Int)) (y3 : Int) (y4 : List (Int)) : Option ((List (Int)) × (Int)) := from_ Try.prog (s_l20State_E b) Try.f51 s_l20State_sig [1, 1, 1, 1] ⟨mkT 52 [(0, .ptr 0 0), (2, .int .i64 y0), (3, .int .i64 y1), (9, .own 1)], [some (.box 79 [.row false .u8 y2, .int .i64 y3]), some (.arr 3 true .i64 y4)]⟩
theorem s_l20State_f_eq (x0 : (List (Int))) (x1 : (Int)) (x2 : (Int)) (x3 : (Int)) (x4 : (Int)) : s_l20State_f (x0, x1, x2, x3, x4) = (Option.bind (r_pick_f (x0, x1, 3)) fun r1 => (s_l20State_l0 x0 x2 x3 x4 r1.1 0 x0 r1.2 ([] : List (Int)))) := by
  kernel_rfl
theorem s_l20State_l0_eq (b : List Int) (y0 : Int) (y1 : Int) (y2 : Int) (y3 : Int) (y4 : Int) (y5 : List (Int)) (y6 : Int) (y7 : List (Int)) : s_l20State_l0 b y0 y1 y2 y3 y4 y5 y6 y7 = (cond ((decide (y4 < y0))) (cond ((decide (0 < y3))) (Option.bind (r_pick_f (y5, y6, 3)) fun r1 => (cond ((decide (r1.1 < y3))) (if (List.length y7 + List.length ([0] : List (Int))) * 8 ≤ 140737488355328 then (s_l20State_l0 b y0 y1 y2 y3 (IntKind.i64.wrap (y4 + 1)) y5 r1.2 (y7 ++ ([0] : List (Int)))) else none) (Option.bind (r_pick_f (y5, r1.2, y1)) fun r2 => (if (List.length y7 + List.length ([r2.1] : List (Int))) * 8 ≤ 140737488355328 then (s_l20State_l0 b y0 y1 y2 y3 (IntKind.i64.wrap (y4 + 1)) y5 r2.2 (y7 ++ ([r2.1] : List (Int)))) else none)))) (Option.bind (r_pick_f (y5, y6, y1)) fun r3 => (if (List.length y7 + List.length ([r3.1] : List (Int))) * 8 ≤ 140737488355328 then (s_l20State_l0 b y0 y1 y2 y3 (IntKind.i64.wrap (y4 + 1)) y5 r3.2 (y7 ++ ([r3.1] : List (Int)))) else none))) (s_l20State_j1 b y1 y2 y5 y6 y7)) := by
  refine (loopK_eq Try.prog (s_l20State_E b) (sub (Try.f51.body.getD .skip) [1, 1, 1, 0, 1, 0, 0]) _ _).trans ?_
  kernel_rfl
theorem s_l20State_j1_eq (b : List Int) (y0 : Int) (y1 : Int) (y2 : List (Int)) (y3 : Int) (y4 : List (Int)) : s_l20State_j1 b y0 y1 y2 y3 y4 = (Option.bind (r_odd_f (y2, y3, y1)) fun r1 => (cond (r1.1) (Option.bind (r_pick_f (y2, r1.2, 2)) fun r2 => (cond ((r2.1 == 0)) (if 79 = 79 ∧ y2 = b then (some (([] : List (Int)), r2.2)) else none) (if (0 : Int) ≤ (IntKind.i64.wrap ((List.length y4 : Int) - 1)) ∧ (IntKind.i64.wrap ((List.length y4 : Int) - 1)) < (List.length y4 : Int) then (if 79 = 79 ∧ y2 = b then (some ((List.set y4 ((IntKind.i64.wrap ((List.length y4 : Int) - 1)) : Int).toNat y0), r2.2)) else none) else none))) (if 79 = 79 ∧ y2 = b then (some (y4, r1.2)) else none))) := by
  kernel_rfl
theorem s_l20State_ent : Entb Try.prog 51 := ⟨Try.f51, by kernel_rfl, by kernel_rfl, by kernel_rfl⟩
theorem s_l20State_ok : CtrOk Try.prog 51 ⟨s_l20State_sig, s_l20State_f⟩ :=
  ctr_of (fn := Try.f51) (by kernel_rfl) (by kernel_rfl) (fun x : Ts s_l20State_sig.pc => s_l20State_E x.1) (fun x => ⟨(fn_cons ⟨r_pick_ok, r_pick_ent⟩ (fn_cons ⟨r_odd_ok, r_odd_ent⟩ fn_none)), clo_none, wr_none⟩) (fun _ x => ⟨rfl, fun b ps h => rd_head h⟩) follows_ (fun _ _ => trivial)
end FN
set_option linter.unusedVariables false
namespace FN
open Go Go.Proofs
/-! loop.example/firingnets/spec.l20Place -/
@[reducible] def s_l20Place_sig : Sig := { rd := some 79, ps := [none], pc := [.view .u8, .int .i64, .int .i64], rs := [some 3], rc := [.row 3 .i64, .int .i64, .row 3 .i64, .int .i64] }
noncomputable def s_l20Place_E (b : List Int) : Env' := { keep := [0], rdb := b, fn := fun f => if f = 51 then some ⟨s_l20State_sig, s_l20State_f⟩ else if f = 58 then some ⟨r_pick_sig, r_pick_f⟩ else if f = 61 then some ⟨r_odd_sig, r_odd_f⟩ else if f = 69 then some ⟨s_l20Net_sig, s_l20Net_f⟩ else none, ck := ckT, cuts := [], mine := fun i => i == 7 || i == 9 || i == 11 || i == 21 || i == 25 || i == 27 || i == 40 }
noncomputable def s_l20Place_f (x : Ts s_l20Place_sig.pc) : Option (Ts s_l20Place_sig.rc) := runFn Try.prog (s_l20Place_E x.1) Try.f57 s_l20Place_sig x
theorem s_l20Place_f_eq (x0 : (List (Int))) (x1 : (Int)) (x2 : (Int)) : s_l20Place_f (x0, x1, x2) = (Option.bind (s_l20Net_f (x0, x1, 0)) fun r1 => (Option.bind (r_pick_f (x0, r1.2, 3)) fun r2 => (Option.bind (r_pick_f (x0, r2.2, 2)) fun r3 => (Option.bind (s_l20State_f (x0, r3.2, (List.length r1.1 : Int), (IntKind.i64.wrap (3 + (IntKind.i64.wrap (r2.1 * r3.1)))), 0)) fun r4 => (Option.bind (r_odd_f (x0, r4.2, x2)) fun r5 => (cond (r5.1) (Option.bind (r_pick_f (x0, r5.2, 3)) fun r6 => (cond ((r6.1 == 0)) (if (List.length r4.1 + List.length ([0] : List (Int))) * 8 ≤ 140737488355328 then (if 79 = 79 ∧ x0 = x0 then (some (r1.1, (IntKind.i64.wrap (3 + (IntKind.i64.wrap (r2.1 * r3.1)))), (r4.1 ++ ([0] : List (Int))), r6.2)) else none) else none) (cond ((r6.1 == 1)) (Option.bind (r_pick_f (x0, r6.2, 2)) fun r7 => (if (0 : Int) ≤ r7.1 ∧ r7.1 < (List.length ([2, 6] : List (Int)) : Int) then (if 79 = 79 ∧ x0 = x0 then (some (r1.1, (List.getD ([2, 6] : List (Int)) (r7.1 : Int).toNat 0), r4.1, r7.2)) else none) else none)) (if 79 = 79 ∧ x0 = x0 then (some ([], 0, [], r6.2)) else none)))) (if 79 = 79 ∧ x0 = x0 then (some (r1.1, (IntKind.i64.wrap (3 + (IntKind.i64.wrap (r2.1 * r3.1)))), r4.1, r5.2)) else none))))))) := by
  kernel_rfl
theorem s_l20Place_ent : Entb Try.prog 57 := ⟨Try.f57, by kernel_rfl, by kernel_rfl, by kernel_rfl⟩
theorem s_l20Place_ok : CtrOk Try.prog 57 ⟨s_l20Place_sig, s_l20Place_f⟩ :=
  ctr_of (fn := Try.f57) (by kernel_rfl) (by kernel_rfl) (fun x : Ts s_l20Place_sig.pc => s_l20Place_E x.1) (fun x => ⟨(fn_cons ⟨s_l20State_ok, s_l20State_ent⟩ (fn_cons ⟨r_pick_ok, r_pick_ent⟩ (fn_cons ⟨r_odd_ok, r_odd_ent⟩ (fn_cons ⟨s_l20Net_ok, s_l20Net_ent⟩ fn_none)))), clo_none, wr_none⟩) (fun _ x => ⟨rfl, fun b ps h => rd_head h⟩) follows_ (fun _ _ => trivial)
end FN
set_option linter.unusedVariables false
namespace FN
open Go Go.Proofs
/-! loop.example/firingnets/laws.sameInts -/
@[reducible] def w_sameInts_sig : Sig := { ps := [none, none], pc := [.view .i64, .view .i64], rs := [none], rc := [.bool] }
noncomputable def w_sameInts_E : Env' := { fn := fun f => none, ck := ckT, cuts := [(4, [0, 1, 5])], mine := fun i => false }
noncomputable def w_sameInts_f (x : Ts w_sameInts_sig.pc) : Option (Ts w_sameInts_sig.rc) := runFn Try.prog (w_sameInts_E) Try.f27 w_sameInts_sig x
noncomputable def w_sameInts_l0 (y0 : List (Int)) (y1 : List (Int)) (y2 : Int) : Option ((Bool)) := from_ Try.prog (w_sameInts_E) Try.f27 w_sameInts_sig [1, 1, 0, 1, 0] ⟨mkT 26 [(0, .row false .i64 y0), (1, .row false .i64 y1), (5, .int .i64 y2)], []⟩
theorem w_sameInts_f_eq (x0 : (List (Int))) (x1 : (List (Int))) : w_sameInts_f (x0, x1) = (cond (((List.length x0 : Int) != (List.length x1 : Int))) (some false) (w_sameInts_l0 x0 x1 0)) := by
  kernel_rfl
theorem w_sameInts_l0_eq (y0 : List (Int)) (y1 : List (Int)) (y2 : Int) : w_sameInts_l0 y0 y1 y2 = (cond ((decide (y2 < (List.length y0 : Int)))) (if (0 : Int) ≤ y2 ∧ y2 < (List.length y0 : Int) then (if (0 : Int) ≤ y2 ∧ y2 < (List.length y1 : Int) then (cond (((List.getD y0 (y2 : Int).toNat 0) != (List.getD y1 (y2 : Int).toNat 0))) (some false) (w_sameInts_l0 y0 y1 (IntKind.i64.wrap (y2 + 1)))) else none) else none) (some true)) := by
  refine (loopK_eq Try.prog (w_sameInts_E) (sub (Try.f27.body.getD .skip) [1, 1, 0, 1, 0, 0]) _ _).trans ?_
  kernel_rfl
theorem w_sameInts_ent : Entb Try.prog 27 := ⟨Try.f27, by kernel_rfl, by kernel_rfl, by kernel_rfl⟩
theorem w_sameInts_ok : CtrOk Try.prog 27 ⟨w_sameInts_sig, w_sameInts_f⟩ :=
  ctr_of (fn := Try.f27) (by kernel_rfl) (by kernel_rfl) (fun x : Ts w_sameInts_sig.pc => w_sameInts_E) (fun x => ⟨fn_none, clo_none, wr_none⟩) (fun h => by cases h) follows_ (fun _ _ => trivial)
end FN
set_option linter.unusedVariables false
namespace FN
open Go Go.Proofs
/-! loop.example/firingnets/laws.alive -/
@[reducible] def w_alive_sig : Sig := { ps := [], pc := [], rs := [none], rc := [.bool] }
noncomputable def w_alive_E : Env' := { fn := fun f => if f = 43 then some ⟨i_NetOk_sig, i_NetOk_f⟩ else none, ck := ckT, cuts := [], mine := fun i => false }
noncomputable def w_alive_f (x : Ts w_alive_sig.pc) : Option (Ts w_alive_sig.rc) := runFn Try.prog (w_alive_E) Try.f19 w_alive_sig x
theorem w_alive_f_eq  : w_alive_f () = (Option.bind (i_NetOk_f ([2, 1] : List (Int))) fun r1 => (cond (r1) (Option.bind (i_NetOk_f ([1] : List (Int))) fun r2 => (some (!r2))) (some false))) := by
  kernel_rfl
theorem w_alive_ent : Entb Try.prog 19 := ⟨Try.f19, by kernel_rfl, by kernel_rfl, by kernel_rfl⟩
theorem w_alive_ok : CtrOk Try.prog 19 ⟨w_alive_sig, w_alive_f⟩ :=
  ctr_of (fn := Try.f19) (by kernel_rfl) (by kernel_rfl) (fun x : Ts w_alive_sig.pc => w_alive_E) (fun x => ⟨(fn_cons ⟨i_NetOk_ok, i_NetOk_ent⟩ fn_none), clo_none, wr_none⟩) (fun h => by cases h) follows_ (fun _ _ => trivial)
end FN
set_option linter.unusedVariables false
namespace FN
open Go Go.Proofs
/-! loop.example/firingnets/spec.l20Deed -/
@[reducible] def s_l20Deed_sig : Sig := { rd := some 79, ps := [some 3], pc := [.view .u8, .int .i64, .view .i64, .int .i64, .view .i64], rs := [some 3], rc := [.int .i64, .int .i64, .int .i64, .int .i64] }
noncomputable def s_l20Deed_E (b : List Int) : Env' := { keep := [0], rdb := b, fn := fun f => if f = 58 then some ⟨r_pick_sig, r_pick_f⟩ else if f = 61 then some ⟨r_odd_sig, r_odd_f⟩ else none, ck := ckT, cuts := [(10, [0, 4, 5])], mine := fun i => false }
noncomputable def s_l20Deed_f (x : Ts s_l20Deed_sig.pc) : Option (Ts s_l20Deed_sig.rc) := runFn Try.prog (s_l20Deed_E x.1) Try.f60 s_l20Deed_sig x
noncomputable def s_l20Deed_j0 (b : List Int) (y0 : List (Int)) (y1 : Int) (y2 : Int) (y3 : Int) (y4 : Int) (y5 : Int) (y6 : Int) (y7 : Int) : Option ((Int) × (Int) × (Int) × (Int)) := from_ Try.prog (s_l20Deed_E b) Try.f60 s_l20Deed_sig [1, 1, 1] ⟨mkT 64 [(0, .ptr 0 0), (4, .ptr 1 0), (5, .ptr 2 0)], [some (.box 79 [.row false .u8 y0, .int .i64 y1]), some (.box 75 [.int .i64 y2, .int .i64 y3, .int .i64 y4]), some (.box 75 [.int .i64 y5, .int .i64 y6, .int .i64 y7])]⟩
theorem s_l20Deed_f_eq (x0 : (List (Int))) (x1 : (Int)) (x2 : (List (Int))) (x3 : (Int)) (x4 : (List (Int))) : s_l20Deed_f (x0, x1, x2, x3, x4) = (Option.bind (r_pick_f (x0, x1, 8)) fun r1 => (if (0 : Int) ≤ r1.1 ∧ r1.1 < (List.length ([0, 0, 1, 1, 2, 2, 3, 4] : List (Int)) : Int) then (Option.bind (r_pick_f (x0, r1.2, 60)) fun r2 => (cond (((IntKind.i64.wrap ((List.getD ([0, 0, 1, 1, 2, 2, 3, 4] : List (Int)) (r1.1 : Int).toNat 0) + (IntKind.i64.wrap ((IntKind.i64.wrap (Int.tdiv r2.1 59)) * 5)))) == 0)) (Option.bind (r_pick_f (x0, r2.2, (if 1 > (List.length x2 : Int) then 1 else (List.length x2 : Int)))) fun r3 => (Option.bind (r_pick_f (x0, r3.2, (if 1 > (List.length x2 : Int) then 1 else (List.length x2 : Int)))) fun r4 => (s_l20Deed_j0 x0 x0 r4.2 0 0 0 (IntKind.i64.wrap ((List.getD ([0, 0, 1, 1, 2, 2, 3, 4] : List (Int)) (r1.1 : Int).toNat 0) + (IntKind.i64.wrap ((IntKind.i64.wrap (Int.tdiv r2.1 59)) * 5)))) r3.1 r4.1))) (cond (((IntKind.i64.wrap ((List.getD ([0, 0, 1, 1, 2, 2, 3, 4] : List (Int)) (r1.1 : Int).toNat 0) + (IntKind.i64.wrap ((IntKind.i64.wrap (Int.tdiv r2.1 59)) * 5)))) == 1)) (Option.bind (r_pick_f (x0, r2.2, (if 1 > (List.length x2 : Int) then 1 else (List.length x2 : Int)))) fun r5 => (s_l20Deed_j0 x0 x0 r5.2 0 0 0 (IntKind.i64.wrap ((List.getD ([0, 0, 1, 1, 2, 2, 3, 4] : List (Int)) (r1.1 : Int).toNat 0) + (IntKind.i64.wrap ((IntKind.i64.wrap (Int.tdiv r2.1 59)) * 5)))) r5.1 0)) (cond (((IntKind.i64.wrap ((List.getD ([0, 0, 1, 1, 2, 2, 3, 4] : List (Int)) (r1.1 : Int).toNat 0) + (IntKind.i64.wrap ((IntKind.i64.wrap (Int.tdiv r2.1 59)) * 5)))) == 3)) (Option.bind (r_pick_f (x0, r2.2, 3)) fun r6 => (s_l20Deed_j0 x0 x0 r6.2 0 0 0 (IntKind.i64.wrap ((List.getD ([0, 0, 1, 1, 2, 2, 3, 4] : List (Int)) (r1.1 : Int).toNat 0) + (IntKind.i64.wrap ((IntKind.i64.wrap (Int.tdiv r2.1 59)) * 5)))) (IntKind.i64.wrap (3 + r6.1)) 0)) (s_l20Deed_j0 x0 x0 r2.2 0 0 0 (IntKind.i64.wrap ((List.getD ([0, 0, 1, 1, 2, 2, 3, 4] : List (Int)) (r1.1 : Int).toNat 0) + (IntKind.i64.wrap ((IntKind.i64.wrap (Int.tdiv r2.1 59)) * 5)))) 0 0))))) else none)) := by
  refine Eq.trans (b := (same [(same [(Option.bind (r_pick_f (x0, x1, 8)) fun r1 => (same [(if (0 : Int) ≤ r1.1 ∧ r1.1 < (List.length ([0, 0, 1, 1, 2, 2, 3, 4] : List (Int)) : Int) then (same [(same [(Option.bind (r_pick_f (x0, r1.2, 60)) fun r2 => (cond (((IntKind.i64.wrap ((List.getD ([0, 0, 1, 1, 2, 2, 3, 4] : List (Int)) (r1.1 : Int).toNat 0) + (IntKind.i64.wrap ((IntKind.i64.wrap (Int.tdiv r2.1 59)) * 5)))) == 0)) (Option.bind (r_pick_f (x0, r2.2, (if 1 > (List.length x2 : Int) then 1 else (List.length x2 : Int)))) fun r3 => (Option.bind (r_pick_f (x0, r3.2, (if 1 > (List.length x2 : Int) then 1 else (List.length x2 : Int)))) fun r4 => (s_l20Deed_j0 x0 x0 r4.2 0 0 0 (IntKind.i64.wrap ((List.getD ([0, 0, 1, 1, 2, 2, 3, 4] : List (Int)) (r1.1 : Int).toNat 0) + (IntKind.i64.wrap ((IntKind.i64.wrap (Int.tdiv r2.1 59)) * 5)))) r3.1 r4.1))) (cond (((IntKind.i64.wrap ((List.getD ([0, 0, 1, 1, 2, 2, 3, 4] : List (Int)) (r1.1 : Int).toNat 0) + (IntKind.i64.wrap ((IntKind.i64.wrap (Int.tdiv r2.1 59)) * 5)))) == 1)) (Option.bind (r_pick_f (x0, r2.2, (if 1 > (List.length x2 : Int) then 1 else (List.length x2 : Int)))) fun r5 => (s_l20Deed_j0 x0 x0 r5.2 0 0 0 (IntKind.i64.wrap ((List.getD ([0, 0, 1, 1, 2, 2, 3, 4] : List (Int)) (r1.1 : Int).toNat 0) + (IntKind.i64.wrap ((IntKind.i64.wrap (Int.tdiv r2.1 59)) * 5)))) r5.1 0)) (cond (((IntKind.i64.wrap ((List.getD ([0, 0, 1, 1, 2, 2, 3, 4] : List (Int)) (r1.1 : Int).toNat 0) + (IntKind.i64.wrap ((IntKind.i64.wrap (Int.tdiv r2.1 59)) * 5)))) == 3)) (Option.bind (r_pick_f (x0, r2.2, 3)) fun r6 => (s_l20Deed_j0 x0 x0 r6.2 0 0 0 (IntKind.i64.wrap ((List.getD ([0, 0, 1, 1, 2, 2, 3, 4] : List (Int)) (r1.1 : Int).toNat 0) + (IntKind.i64.wrap ((IntKind.i64.wrap (Int.tdiv r2.1 59)) * 5)))) (IntKind.i64.wrap (3 + r6.1)) 0)) (s_l20Deed_j0 x0 x0 r2.2 0 0 0 (IntKind.i64.wrap ((List.getD ([0, 0, 1, 1, 2, 2, 3, 4] : List (Int)) (r1.1 : Int).toNat 0) + (IntKind.i64.wrap ((IntKind.i64.wrap (Int.tdiv r2.1 59)) * 5)))) 0 0))))), (Option.bind (r_pick_f (x0, r1.2, 60)) fun r2 => (cond (((IntKind.i64.wrap ((List.getD ([0, 0, 1, 1, 2, 2, 3, 4] : List (Int)) (r1.1 : Int).toNat 0) + (IntKind.i64.wrap ((IntKind.i64.wrap (Int.tdiv r2.1 59)) * 5)))) == 0)) (Option.bind (r_pick_f (x0, r2.2, (if 1 > (List.length x2 : Int) then 1 else (List.length x2 : Int)))) fun r3 => (Option.bind (r_pick_f (x0, r3.2, (if 1 > (List.length x2 : Int) then 1 else (List.length x2 : Int)))) fun r4 => (s_l20Deed_j0 x0 x0 r4.2 0 0 0 (IntKind.i64.wrap ((List.getD ([0, 0, 1, 1, 2, 2, 3, 4] : List (Int)) (r1.1 : Int).toNat 0) + (IntKind.i64.wrap ((IntKind.i64.wrap (Int.tdiv r2.1 59)) * 5)))) r3.1 r4.1))) (cond (((IntKind.i64.wrap ((List.getD ([0, 0, 1, 1, 2, 2, 3, 4] : List (Int)) (r1.1 : Int).toNat 0) + (IntKind.i64.wrap ((IntKind.i64.wrap (Int.tdiv r2.1 59)) * 5)))) == 1)) (Option.bind (r_pick_f (x0, r2.2, (if 1 > (List.length x2 : Int) then 1 else (List.length x2 : Int)))) fun r5 => (s_l20Deed_j0 x0 x0 r5.2 0 0 0 (IntKind.i64.wrap ((List.getD ([0, 0, 1, 1, 2, 2, 3, 4] : List (Int)) (r1.1 : Int).toNat 0) + (IntKind.i64.wrap ((IntKind.i64.wrap (Int.tdiv r2.1 59)) * 5)))) r5.1 0)) (cond (((IntKind.i64.wrap ((List.getD ([0, 0, 1, 1, 2, 2, 3, 4] : List (Int)) (r1.1 : Int).toNat 0) + (IntKind.i64.wrap ((IntKind.i64.wrap (Int.tdiv r2.1 59)) * 5)))) == 3)) (Option.bind (r_pick_f (x0, r2.2, 3)) fun r6 => (s_l20Deed_j0 x0 x0 r6.2 0 0 0 (IntKind.i64.wrap ((List.getD ([0, 0, 1, 1, 2, 2, 3, 4] : List (Int)) (r1.1 : Int).toNat 0) + (IntKind.i64.wrap ((IntKind.i64.wrap (Int.tdiv r2.1 59)) * 5)))) (IntKind.i64.wrap (3 + r6.1)) 0)) (s_l20Deed_j0 x0 x0 r2.2 0 0 0 (IntKind.i64.wrap ((List.getD ([0, 0, 1, 1, 2, 2, 3, 4] : List (Int)) (r1.1 : Int).toNat 0) + (IntKind.i64.wrap ((IntKind.i64.wrap (Int.tdiv r2.1 59)) * 5)))) 0 0)))))]), (Option.bind (r_pick_f (x0, r1.2, 60)) fun r2 => (cond (((IntKind.i64.wrap ((List.getD ([0, 0, 1, 1, 2, 2, 3, 4] : List (Int)) (r1.1 : Int).toNat 0) + (IntKind.i64.wrap ((IntKind.i64.wrap (Int.tdiv r2.1 59)) * 5)))) == 0)) (Option.bind (r_pick_f (x0, r2.2, (if 1 > (List.length x2 : Int) then 1 else (List.length x2 : Int)))) fun r3 => (Option.bind (r_pick_f (x0, r3.2, (if 1 > (List.length x2 : Int) then 1 else (List.length x2 : Int)))) fun r4 => (s_l20Deed_j0 x0 x0 r4.2 0 0 0 (IntKind.i64.wrap ((List.getD ([0, 0, 1, 1, 2, 2, 3, 4] : List (Int)) (r1.1 : Int).toNat 0) + (IntKind.i64.wrap ((IntKind.i64.wrap (Int.tdiv r2.1 59)) * 5)))) r3.1 r4.1))) (cond (((IntKind.i64.wrap ((List.getD ([0, 0, 1, 1, 2, 2, 3, 4] : List (Int)) (r1.1 : Int).toNat 0) + (IntKind.i64.wrap ((IntKind.i64.wrap (Int.tdiv r2.1 59)) * 5)))) == 1)) (Option.bind (r_pick_f (x0, r2.2, (if 1 > (List.length x2 : Int) then 1 else (List.length x2 : Int)))) fun r5 => (s_l20Deed_j0 x0 x0 r5.2 0 0 0 (IntKind.i64.wrap ((List.getD ([0, 0, 1, 1, 2, 2, 3, 4] : List (Int)) (r1.1 : Int).toNat 0) + (IntKind.i64.wrap ((IntKind.i64.wrap (Int.tdiv r2.1 59)) * 5)))) r5.1 0)) (cond (((IntKind.i64.wrap ((List.getD ([0, 0, 1, 1, 2, 2, 3, 4] : List (Int)) (r1.1 : Int).toNat 0) + (IntKind.i64.wrap ((IntKind.i64.wrap (Int.tdiv r2.1 59)) * 5)))) == 3)) (Option.bind (r_pick_f (x0, r2.2, 3)) fun r6 => (s_l20Deed_j0 x0 x0 r6.2 0 0 0 (IntKind.i64.wrap ((List.getD ([0, 0, 1, 1, 2, 2, 3, 4] : List (Int)) (r1.1 : Int).toNat 0) + (IntKind.i64.wrap ((IntKind.i64.wrap (Int.tdiv r2.1 59)) * 5)))) (IntKind.i64.wrap (3 + r6.1)) 0)) (s_l20Deed_j0 x0 x0 r2.2 0 0 0 (IntKind.i64.wrap ((List.getD ([0, 0, 1, 1, 2, 2, 3, 4] : List (Int)) (r1.1 : Int).toNat 0) + (IntKind.i64.wrap ((IntKind.i64.wrap (Int.tdiv r2.1 59)) * 5)))) 0 0))))), (same [(Option.bind (r_pick_f (x0, r1.2, 60)) fun r2 => (cond (((IntKind.i64.wrap ((List.getD ([0, 0, 1, 1, 2, 2, 3, 4] : List (Int)) (r1.1 : Int).toNat 0) + (IntKind.i64.wrap ((IntKind.i64.wrap (Int.tdiv r2.1 59)) * 5)))) == 0)) (Option.bind (r_pick_f (x0, r2.2, (if 1 > (List.length x2 : Int) then 1 else (List.length x2 : Int)))) fun r3 => (Option.bind (r_pick_f (x0, r3.2, (if 1 > (List.length x2 : Int) then 1 else (List.length x2 : Int)))) fun r4 => (s_l20Deed_j0 x0 x0 r4.2 0 0 0 (IntKind.i64.wrap ((List.getD ([0, 0, 1, 1, 2, 2, 3, 4] : List (Int)) (r1.1 : Int).toNat 0) + (IntKind.i64.wrap ((IntKind.i64.wrap (Int.tdiv r2.1 59)) * 5)))) r3.1 r4.1))) (cond (((IntKind.i64.wrap ((List.getD ([0, 0, 1, 1, 2, 2, 3, 4] : List (Int)) (r1.1 : Int).toNat 0) + (IntKind.i64.wrap ((IntKind.i64.wrap (Int.tdiv r2.1 59)) * 5)))) == 1)) (Option.bind (r_pick_f (x0, r2.2, (if 1 > (List.length x2 : Int) then 1 else (List.length x2 : Int)))) fun r5 => (s_l20Deed_j0 x0 x0 r5.2 0 0 0 (IntKind.i64.wrap ((List.getD ([0, 0, 1, 1, 2, 2, 3, 4] : List (Int)) (r1.1 : Int).toNat 0) + (IntKind.i64.wrap ((IntKind.i64.wrap (Int.tdiv r2.1 59)) * 5)))) r5.1 0)) (cond (((IntKind.i64.wrap ((List.getD ([0, 0, 1, 1, 2, 2, 3, 4] : List (Int)) (r1.1 : Int).toNat 0) + (IntKind.i64.wrap ((IntKind.i64.wrap (Int.tdiv r2.1 59)) * 5)))) == 3)) (Option.bind (r_pick_f (x0, r2.2, 3)) fun r6 => (s_l20Deed_j0 x0 x0 r6.2 0 0 0 (IntKind.i64.wrap ((List.getD ([0, 0, 1, 1, 2, 2, 3, 4] : List (Int)) (r1.1 : Int).toNat 0) + (IntKind.i64.wrap ((IntKind.i64.wrap (Int.tdiv r2.1 59)) * 5)))) (IntKind.i64.wrap (3 + r6.1)) 0)) (s_l20Deed_j0 x0 x0 r2.2 0 0 0 (IntKind.i64.wrap ((List.getD ([0, 0, 1, 1, 2, 2, 3, 4] : List (Int)) (r1.1 : Int).toNat 0) + (IntKind.i64.wrap ((IntKind.i64.wrap (Int.tdiv r2.1 59)) * 5)))) 0 0))))), (Option.bind (r_pick_f (x0, r1.2, 60)) fun r2 => (cond (((IntKind.i64.wrap ((List.getD ([0, 0, 1, 1, 2, 2, 3, 4] : List (Int)) (r1.1 : Int).toNat 0) + (IntKind.i64.wrap ((IntKind.i64.wrap (Int.tdiv r2.1 59)) * 5)))) == 0)) (Option.bind (r_pick_f (x0, r2.2, (if 1 > (List.length x2 : Int) then 1 else (List.length x2 : Int)))) fun r3 => (Option.bind (r_pick_f (x0, r3.2, (if 1 > (List.length x2 : Int) then 1 else (List.length x2 : Int)))) fun r4 => (s_l20Deed_j0 x0 x0 r4.2 0 0 0 (IntKind.i64.wrap ((List.getD ([0, 0, 1, 1, 2, 2, 3, 4] : List (Int)) (r1.1 : Int).toNat 0) + (IntKind.i64.wrap ((IntKind.i64.wrap (Int.tdiv r2.1 59)) * 5)))) r3.1 r4.1))) (cond (((IntKind.i64.wrap ((List.getD ([0, 0, 1, 1, 2, 2, 3, 4] : List (Int)) (r1.1 : Int).toNat 0) + (IntKind.i64.wrap ((IntKind.i64.wrap (Int.tdiv r2.1 59)) * 5)))) == 1)) (Option.bind (r_pick_f (x0, r2.2, (if 1 > (List.length x2 : Int) then 1 else (List.length x2 : Int)))) fun r5 => (s_l20Deed_j0 x0 x0 r5.2 0 0 0 (IntKind.i64.wrap ((List.getD ([0, 0, 1, 1, 2, 2, 3, 4] : List (Int)) (r1.1 : Int).toNat 0) + (IntKind.i64.wrap ((IntKind.i64.wrap (Int.tdiv r2.1 59)) * 5)))) r5.1 0)) (cond (((IntKind.i64.wrap ((List.getD ([0, 0, 1, 1, 2, 2, 3, 4] : List (Int)) (r1.1 : Int).toNat 0) + (IntKind.i64.wrap ((IntKind.i64.wrap (Int.tdiv r2.1 59)) * 5)))) == 3)) (Option.bind (r_pick_f (x0, r2.2, 3)) fun r6 => (s_l20Deed_j0 x0 x0 r6.2 0 0 0 (IntKind.i64.wrap ((List.getD ([0, 0, 1, 1, 2, 2, 3, 4] : List (Int)) (r1.1 : Int).toNat 0) + (IntKind.i64.wrap ((IntKind.i64.wrap (Int.tdiv r2.1 59)) * 5)))) (IntKind.i64.wrap (3 + r6.1)) 0)) (s_l20Deed_j0 x0 x0 r2.2 0 0 0 (IntKind.i64.wrap ((List.getD ([0, 0, 1, 1, 2, 2, 3, 4] : List (Int)) (r1.1 : Int).toNat 0) + (IntKind.i64.wrap ((IntKind.i64.wrap (Int.tdiv r2.1 59)) * 5)))) 0 0)))))])]) else none), (Option.bind (r_pick_f (x0, r1.2, 60)) fun r2 => (if (0 : Int) ≤ r1.1 ∧ r1.1 < (List.length ([0, 0, 1, 1, 2, 2, 3, 4] : List (Int)) : Int) then (cond (((IntKind.i64.wrap ((List.getD ([0, 0, 1, 1, 2, 2, 3, 4] : List (Int)) (r1.1 : Int).toNat 0) + (IntKind.i64.wrap ((IntKind.i64.wrap (Int.tdiv r2.1 59)) * 5)))) == 0)) (Option.bind (r_pick_f (x0, r2.2, (if 1 > (List.length x2 : Int) then 1 else (List.length x2 : Int)))) fun r3 => (Option.bind (r_pick_f (x0, r3.2, (if 1 > (List.length x2 : Int) then 1 else (List.length x2 : Int)))) fun r4 => (s_l20Deed_j0 x0 x0 r4.2 0 0 0 (IntKind.i64.wrap ((List.getD ([0, 0, 1, 1, 2, 2, 3, 4] : List (Int)) (r1.1 : Int).toNat 0) + (IntKind.i64.wrap ((IntKind.i64.wrap (Int.tdiv r2.1 59)) * 5)))) r3.1 r4.1))) (cond (((IntKind.i64.wrap ((List.getD ([0, 0, 1, 1, 2, 2, 3, 4] : List (Int)) (r1.1 : Int).toNat 0) + (IntKind.i64.wrap ((IntKind.i64.wrap (Int.tdiv r2.1 59)) * 5)))) == 1)) (Option.bind (r_pick_f (x0, r2.2, (if 1 > (List.length x2 : Int) then 1 else (List.length x2 : Int)))) fun r5 => (s_l20Deed_j0 x0 x0 r5.2 0 0 0 (IntKind.i64.wrap ((List.getD ([0, 0, 1, 1, 2, 2, 3, 4] : List (Int)) (r1.1 : Int).toNat 0) + (IntKind.i64.wrap ((IntKind.i64.wrap (Int.tdiv r2.1 59)) * 5)))) r5.1 0)) (cond (((IntKind.i64.wrap ((List.getD ([0, 0, 1, 1, 2, 2, 3, 4] : List (Int)) (r1.1 : Int).toNat 0) + (IntKind.i64.wrap ((IntKind.i64.wrap (Int.tdiv r2.1 59)) * 5)))) == 3)) (Option.bind (r_pick_f (x0, r2.2, 3)) fun r6 => (s_l20Deed_j0 x0 x0 r6.2 0 0 0 (IntKind.i64.wrap ((List.getD ([0, 0, 1, 1, 2, 2, 3, 4] : List (Int)) (r1.1 : Int).toNat 0) + (IntKind.i64.wrap ((IntKind.i64.wrap (Int.tdiv r2.1 59)) * 5)))) (IntKind.i64.wrap (3 + r6.1)) 0)) (s_l20Deed_j0 x0 x0 r2.2 0 0 0 (IntKind.i64.wrap ((List.getD ([0, 0, 1, 1, 2, 2, 3, 4] : List (Int)) (r1.1 : Int).toNat 0) + (IntKind.i64.wrap ((IntKind.i64.wrap (Int.tdiv r2.1 59)) * 5)))) 0 0)))) else none)), (same [(if (0 : Int) ≤ r1.1 ∧ r1.1 < (List.length ([0, 0, 1, 1, 2, 2, 3, 4] : List (Int)) : Int) then (same [(Option.bind (r_pick_f (x0, r1.2, 60)) fun r2 => (cond (((IntKind.i64.wrap ((List.getD ([0, 0, 1, 1, 2, 2, 3, 4] : List (Int)) (r1.1 : Int).toNat 0) + (IntKind.i64.wrap ((IntKind.i64.wrap (Int.tdiv r2.1 59)) * 5)))) == 0)) (Option.bind (r_pick_f (x0, r2.2, (if 1 > (List.length x2 : Int) then 1 else (List.length x2 : Int)))) fun r3 => (Option.bind (r_pick_f (x0, r3.2, (if 1 > (List.length x2 : Int) then 1 else (List.length x2 : Int)))) fun r4 => (s_l20Deed_j0 x0 x0 r4.2 0 0 0 (IntKind.i64.wrap ((List.getD ([0, 0, 1, 1, 2, 2, 3, 4] : List (Int)) (r1.1 : Int).toNat 0) + (IntKind.i64.wrap ((IntKind.i64.wrap (Int.tdiv r2.1 59)) * 5)))) r3.1 r4.1))) (cond (((IntKind.i64.wrap ((List.getD ([0, 0, 1, 1, 2, 2, 3, 4] : List (Int)) (r1.1 : Int).toNat 0) + (IntKind.i64.wrap ((IntKind.i64.wrap (Int.tdiv r2.1 59)) * 5)))) == 1)) (Option.bind (r_pick_f (x0, r2.2, (if 1 > (List.length x2 : Int) then 1 else (List.length x2 : Int)))) fun r5 => (s_l20Deed_j0 x0 x0 r5.2 0 0 0 (IntKind.i64.wrap ((List.getD ([0, 0, 1, 1, 2, 2, 3, 4] : List (Int)) (r1.1 : Int).toNat 0) + (IntKind.i64.wrap ((IntKind.i64.wrap (Int.tdiv r2.1 59)) * 5)))) r5.1 0)) (cond (((IntKind.i64.wrap ((List.getD ([0, 0, 1, 1, 2, 2, 3, 4] : List (Int)) (r1.1 : Int).toNat 0) + (IntKind.i64.wrap ((IntKind.i64.wrap (Int.tdiv r2.1 59)) * 5)))) == 3)) (Option.bind (r_pick_f (x0, r2.2, 3)) fun r6 => (s_l20Deed_j0 x0 x0 r6.2 0 0 0 (IntKind.i64.wrap ((List.getD ([0, 0, 1, 1, 2, 2, 3, 4] : List (Int)) (r1.1 : Int).toNat 0) + (IntKind.i64.wrap ((IntKind.i64.wrap (Int.tdiv r2.1 59)) * 5)))) (IntKind.i64.wrap (3 + r6.1)) 0)) (s_l20Deed_j0 x0 x0 r2.2 0 0 0 (IntKind.i64.wrap ((List.getD ([0, 0, 1, 1, 2, 2, 3, 4] : List (Int)) (r1.1 : Int).toNat 0) + (IntKind.i64.wrap ((IntKind.i64.wrap (Int.tdiv r2.1 59)) * 5)))) 0 0))))), (Option.bind (r_pick_f (x0, r1.2, 60)) fun r2 => (cond (((IntKind.i64.wrap ((List.getD ([0, 0, 1, 1, 2, 2, 3, 4] : List (Int)) (r1.1 : Int).toNat 0) + (IntKind.i64.wrap ((IntKind.i64.wrap (Int.tdiv r2.1 59)) * 5)))) == 0)) (Option.bind (r_pick_f (x0, r2.2, (if 1 > (List.length x2 : Int) then 1 else (List.length x2 : Int)))) fun r3 => (Option.bind (r_pick_f (x0, r3.2, (if 1 > (List.length x2 : Int) then 1 else (List.length x2 : Int)))) fun r4 => (s_l20Deed_j0 x0 x0 r4.2 0 0 0 (IntKind.i64.wrap ((List.getD ([0, 0, 1, 1, 2, 2, 3, 4] : List (Int)) (r1.1 : Int).toNat 0) + (IntKind.i64.wrap ((IntKind.i64.wrap (Int.tdiv r2.1 59)) * 5)))) r3.1 r4.1))) (cond (((IntKind.i64.wrap ((List.getD ([0, 0, 1, 1, 2, 2, 3, 4] : List (Int)) (r1.1 : Int).toNat 0) + (IntKind.i64.wrap ((IntKind.i64.wrap (Int.tdiv r2.1 59)) * 5)))) == 1)) (Option.bind (r_pick_f (x0, r2.2, (if 1 > (List.length x2 : Int) then 1 else (List.length x2 : Int)))) fun r5 => (s_l20Deed_j0 x0 x0 r5.2 0 0 0 (IntKind.i64.wrap ((List.getD ([0, 0, 1, 1, 2, 2, 3, 4] : List (Int)) (r1.1 : Int).toNat 0) + (IntKind.i64.wrap ((IntKind.i64.wrap (Int.tdiv r2.1 59)) * 5)))) r5.1 0)) (cond (((IntKind.i64.wrap ((List.getD ([0, 0, 1, 1, 2, 2, 3, 4] : List (Int)) (r1.1 : Int).toNat 0) + (IntKind.i64.wrap ((IntKind.i64.wrap (Int.tdiv r2.1 59)) * 5)))) == 3)) (Option.bind (r_pick_f (x0, r2.2, 3)) fun r6 => (s_l20Deed_j0 x0 x0 r6.2 0 0 0 (IntKind.i64.wrap ((List.getD ([0, 0, 1, 1, 2, 2, 3, 4] : List (Int)) (r1.1 : Int).toNat 0) + (IntKind.i64.wrap ((IntKind.i64.wrap (Int.tdiv r2.1 59)) * 5)))) (IntKind.i64.wrap (3 + r6.1)) 0)) (s_l20Deed_j0 x0 x0 r2.2 0 0 0 (IntKind.i64.wrap ((List.getD ([0, 0, 1, 1, 2, 2, 3, 4] : List (Int)) (r1.1 : Int).toNat 0) + (IntKind.i64.wrap ((IntKind.i64.wrap (Int.tdiv r2.1 59)) * 5)))) 0 0)))))]) else none), (Option.bind (r_pick_f (x0, r1.2, 60)) fun r2 => (if (0 : Int) ≤ r1.1 ∧ r1.1 < (List.length ([0, 0, 1, 1, 2, 2, 3, 4] : List (Int)) : Int) then (cond (((IntKind.i64.wrap ((List.getD ([0, 0, 1, 1, 2, 2, 3, 4] : List (Int)) (r1.1 : Int).toNat 0) + (IntKind.i64.wrap ((IntKind.i64.wrap (Int.tdiv r2.1 59)) * 5)))) == 0)) (Option.bind (r_pick_f (x0, r2.2, (if 1 > (List.length x2 : Int) then 1 else (List.length x2 : Int)))) fun r3 => (Option.bind (r_pick_f (x0, r3.2, (if 1 > (List.length x2 : Int) then 1 else (List.length x2 : Int)))) fun r4 => (s_l20Deed_j0 x0 x0 r4.2 0 0 0 (IntKind.i64.wrap ((List.getD ([0, 0, 1, 1, 2, 2, 3, 4] : List (Int)) (r1.1 : Int).toNat 0) + (IntKind.i64.wrap ((IntKind.i64.wrap (Int.tdiv r2.1 59)) * 5)))) r3.1 r4.1))) (cond (((IntKind.i64.wrap ((List.getD ([0, 0, 1, 1, 2, 2, 3, 4] : List (Int)) (r1.1 : Int).toNat 0) + (IntKind.i64.wrap ((IntKind.i64.wrap (Int.tdiv r2.1 59)) * 5)))) == 1)) (Option.bind (r_pick_f (x0, r2.2, (if 1 > (List.length x2 : Int) then 1 else (List.length x2 : Int)))) fun r5 => (s_l20Deed_j0 x0 x0 r5.2 0 0 0 (IntKind.i64.wrap ((List.getD ([0, 0, 1, 1, 2, 2, 3, 4] : List (Int)) (r1.1 : Int).toNat 0) + (IntKind.i64.wrap ((IntKind.i64.wrap (Int.tdiv r2.1 59)) * 5)))) r5.1 0)) (cond (((IntKind.i64.wrap ((List.getD ([0, 0, 1, 1, 2, 2, 3, 4] : List (Int)) (r1.1 : Int).toNat 0) + (IntKind.i64.wrap ((IntKind.i64.wrap (Int.tdiv r2.1 59)) * 5)))) == 3)) (Option.bind (r_pick_f (x0, r2.2, 3)) fun r6 => (s_l20Deed_j0 x0 x0 r6.2 0 0 0 (IntKind.i64.wrap ((List.getD ([0, 0, 1, 1, 2, 2, 3, 4] : List (Int)) (r1.1 : Int).toNat 0) + (IntKind.i64.wrap ((IntKind.i64.wrap (Int.tdiv r2.1 59)) * 5)))) (IntKind.i64.wrap (3 + r6.1)) 0)) (s_l20Deed_j0 x0 x0 r2.2 0 0 0 (IntKind.i64.wrap ((List.getD ([0, 0, 1, 1, 2, 2, 3, 4] : List (Int)) (r1.1 : Int).toNat 0) + (IntKind.i64.wrap ((IntKind.i64.wrap (Int.tdiv r2.1 59)) * 5)))) 0 0)))) else none))])])), (Option.bind (r_pick_f (x0, x1, 8)) fun r1 => (same [(if (0 : Int) ≤ r1.1 ∧ r1.1 < (List.length ([0, 0, 1, 1, 2, 2, 3, 4] : List (Int)) : Int) then (same [(Option.bind (r_pick_f (x0, r1.2, 60)) fun r2 => (cond (((IntKind.i64.wrap ((List.getD ([0, 0, 1, 1, 2, 2, 3, 4] : List (Int)) (r1.1 : Int).toNat 0) + (IntKind.i64.wrap ((IntKind.i64.wrap (Int.tdiv r2.1 59)) * 5)))) == 0)) (Option.bind (r_pick_f (x0, r2.2, (if 1 > (List.length x2 : Int) then 1 else (List.length x2 : Int)))) fun r3 => (Option.bind (r_pick_f (x0, r3.2, (if 1 > (List.length x2 : Int) then 1 else (List.length x2 : Int)))) fun r4 => (s_l20Deed_j0 x0 x0 r4.2 0 0 0 (IntKind.i64.wrap ((List.getD ([0, 0, 1, 1, 2, 2, 3, 4] : List (Int)) (r1.1 : Int).toNat 0) + (IntKind.i64.wrap ((IntKind.i64.wrap (Int.tdiv r2.1 59)) * 5)))) r3.1 r4.1))) (cond (((IntKind.i64.wrap ((List.getD ([0, 0, 1, 1, 2, 2, 3, 4] : List (Int)) (r1.1 : Int).toNat 0) + (IntKind.i64.wrap ((IntKind.i64.wrap (Int.tdiv r2.1 59)) * 5)))) == 1)) (Option.bind (r_pick_f (x0, r2.2, (if 1 > (List.length x2 : Int) then 1 else (List.length x2 : Int)))) fun r5 => (s_l20Deed_j0 x0 x0 r5.2 0 0 0 (IntKind.i64.wrap ((List.getD ([0, 0, 1, 1, 2, 2, 3, 4] : List (Int)) (r1.1 : Int).toNat 0) + (IntKind.i64.wrap ((IntKind.i64.wrap (Int.tdiv r2.1 59)) * 5)))) r5.1 0)) (cond (((IntKind.i64.wrap ((List.getD ([0, 0, 1, 1, 2, 2, 3, 4] : List (Int)) (r1.1 : Int).toNat 0) + (IntKind.i64.wrap ((IntKind.i64.wrap (Int.tdiv r2.1 59)) * 5)))) == 3)) (Option.bind (r_pick_f (x0, r2.2, 3)) fun r6 => (s_l20Deed_j0 x0 x0 r6.2 0 0 0 (IntKind.i64.wrap ((List.getD ([0, 0, 1, 1, 2, 2, 3, 4] : List (Int)) (r1.1 : Int).toNat 0) + (IntKind.i64.wrap ((IntKind.i64.wrap (Int.tdiv r2.1 59)) * 5)))) (IntKind.i64.wrap (3 + r6.1)) 0)) (s_l20Deed_j0 x0 x0 r2.2 0 0 0 (IntKind.i64.wrap ((List.getD ([0, 0, 1, 1, 2, 2, 3, 4] : List (Int)) (r1.1 : Int).toNat 0) + (IntKind.i64.wrap ((IntKind.i64.wrap (Int.tdiv r2.1 59)) * 5)))) 0 0))))), (Option.bind (r_pick_f (x0, r1.2, 60)) fun r2 => (cond (((IntKind.i64.wrap ((List.getD ([0, 0, 1, 1, 2, 2, 3, 4] : List (Int)) (r1.1 : Int).toNat 0) + (IntKind.i64.wrap ((IntKind.i64.wrap (Int.tdiv r2.1 59)) * 5)))) == 0)) (Option.bind (r_pick_f (x0, r2.2, (if 1 > (List.length x2 : Int) then 1 else (List.length x2 : Int)))) fun r3 => (Option.bind (r_pick_f (x0, r3.2, (if 1 > (List.length x2 : Int) then 1 else (List.length x2 : Int)))) fun r4 => (s_l20Deed_j0 x0 x0 r4.2 0 0 0 (IntKind.i64.wrap ((List.getD ([0, 0, 1, 1, 2, 2, 3, 4] : List (Int)) (r1.1 : Int).toNat 0) + (IntKind.i64.wrap ((IntKind.i64.wrap (Int.tdiv r2.1 59)) * 5)))) r3.1 r4.1))) (cond (((IntKind.i64.wrap ((List.getD ([0, 0, 1, 1, 2, 2, 3, 4] : List (Int)) (r1.1 : Int).toNat 0) + (IntKind.i64.wrap ((IntKind.i64.wrap (Int.tdiv r2.1 59)) * 5)))) == 1)) (Option.bind (r_pick_f (x0, r2.2, (if 1 > (List.length x2 : Int) then 1 else (List.length x2 : Int)))) fun r5 => (s_l20Deed_j0 x0 x0 r5.2 0 0 0 (IntKind.i64.wrap ((List.getD ([0, 0, 1, 1, 2, 2, 3, 4] : List (Int)) (r1.1 : Int).toNat 0) + (IntKind.i64.wrap ((IntKind.i64.wrap (Int.tdiv r2.1 59)) * 5)))) r5.1 0)) (cond (((IntKind.i64.wrap ((List.getD ([0, 0, 1, 1, 2, 2, 3, 4] : List (Int)) (r1.1 : Int).toNat 0) + (IntKind.i64.wrap ((IntKind.i64.wrap (Int.tdiv r2.1 59)) * 5)))) == 3)) (Option.bind (r_pick_f (x0, r2.2, 3)) fun r6 => (s_l20Deed_j0 x0 x0 r6.2 0 0 0 (IntKind.i64.wrap ((List.getD ([0, 0, 1, 1, 2, 2, 3, 4] : List (Int)) (r1.1 : Int).toNat 0) + (IntKind.i64.wrap ((IntKind.i64.wrap (Int.tdiv r2.1 59)) * 5)))) (IntKind.i64.wrap (3 + r6.1)) 0)) (s_l20Deed_j0 x0 x0 r2.2 0 0 0 (IntKind.i64.wrap ((List.getD ([0, 0, 1, 1, 2, 2, 3, 4] : List (Int)) (r1.1 : Int).toNat 0) + (IntKind.i64.wrap ((IntKind.i64.wrap (Int.tdiv r2.1 59)) * 5)))) 0 0)))))]) else none), (Option.bind (r_pick_f (x0, r1.2, 60)) fun r2 => (if (0 : Int) ≤ r1.1 ∧ r1.1 < (List.length ([0, 0, 1, 1, 2, 2, 3, 4] : List (Int)) : Int) then (cond (((IntKind.i64.wrap ((List.getD ([0, 0, 1, 1, 2, 2, 3, 4] : List (Int)) (r1.1 : Int).toNat 0) + (IntKind.i64.wrap ((IntKind.i64.wrap (Int.tdiv r2.1 59)) * 5)))) == 0)) (Option.bind (r_pick_f (x0, r2.2, (if 1 > (List.length x2 : Int) then 1 else (List.length x2 : Int)))) fun r3 => (Option.bind (r_pick_f (x0, r3.2, (if 1 > (List.length x2 : Int) then 1 else (List.length x2 : Int)))) fun r4 => (s_l20Deed_j0 x0 x0 r4.2 0 0 0 (IntKind.i64.wrap ((List.getD ([0, 0, 1, 1, 2, 2, 3, 4] : List (Int)) (r1.1 : Int).toNat 0) + (IntKind.i64.wrap ((IntKind.i64.wrap (Int.tdiv r2.1 59)) * 5)))) r3.1 r4.1))) (cond (((IntKind.i64.wrap ((List.getD ([0, 0, 1, 1, 2, 2, 3, 4] : List (Int)) (r1.1 : Int).toNat 0) + (IntKind.i64.wrap ((IntKind.i64.wrap (Int.tdiv r2.1 59)) * 5)))) == 1)) (Option.bind (r_pick_f (x0, r2.2, (if 1 > (List.length x2 : Int) then 1 else (List.length x2 : Int)))) fun r5 => (s_l20Deed_j0 x0 x0 r5.2 0 0 0 (IntKind.i64.wrap ((List.getD ([0, 0, 1, 1, 2, 2, 3, 4] : List (Int)) (r1.1 : Int).toNat 0) + (IntKind.i64.wrap ((IntKind.i64.wrap (Int.tdiv r2.1 59)) * 5)))) r5.1 0)) (cond (((IntKind.i64.wrap ((List.getD ([0, 0, 1, 1, 2, 2, 3, 4] : List (Int)) (r1.1 : Int).toNat 0) + (IntKind.i64.wrap ((IntKind.i64.wrap (Int.tdiv r2.1 59)) * 5)))) == 3)) (Option.bind (r_pick_f (x0, r2.2, 3)) fun r6 => (s_l20Deed_j0 x0 x0 r6.2 0 0 0 (IntKind.i64.wrap ((List.getD ([0, 0, 1, 1, 2, 2, 3, 4] : List (Int)) (r1.1 : Int).toNat 0) + (IntKind.i64.wrap ((IntKind.i64.wrap (Int.tdiv r2.1 59)) * 5)))) (IntKind.i64.wrap (3 + r6.1)) 0)) (s_l20Deed_j0 x0 x0 r2.2 0 0 0 (IntKind.i64.wrap ((List.getD ([0, 0, 1, 1, 2, 2, 3, 4] : List (Int)) (r1.1 : Int).toNat 0) + (IntKind.i64.wrap ((IntKind.i64.wrap (Int.tdiv r2.1 59)) * 5)))) 0 0)))) else none))]))]), (Option.bind (r_pick_f (x0, x1, 8)) fun r1 => (same [(same [(if (0 : Int) ≤ r1.1 ∧ r1.1 < (List.length ([0, 0, 1, 1, 2, 2, 3, 4] : List (Int)) : Int) then (same [(same [(Option.bind (r_pick_f (x0, r1.2, 60)) fun r2 => (cond (((IntKind.i64.wrap ((List.getD ([0, 0, 1, 1, 2, 2, 3, 4] : List (Int)) (r1.1 : Int).toNat 0) + (IntKind.i64.wrap ((IntKind.i64.wrap (Int.tdiv r2.1 59)) * 5)))) == 0)) (Option.bind (r_pick_f (x0, r2.2, (if 1 > (List.length x2 : Int) then 1 else (List.length x2 : Int)))) fun r3 => (Option.bind (r_pick_f (x0, r3.2, (if 1 > (List.length x2 : Int) then 1 else (List.length x2 : Int)))) fun r4 => (s_l20Deed_j0 x0 x0 r4.2 0 0 0 (IntKind.i64.wrap ((List.getD ([0, 0, 1, 1, 2, 2, 3, 4] : List (Int)) (r1.1 : Int).toNat 0) + (IntKind.i64.wrap ((IntKind.i64.wrap (Int.tdiv r2.1 59)) * 5)))) r3.1 r4.1))) (cond (((IntKind.i64.wrap ((List.getD ([0, 0, 1, 1, 2, 2, 3, 4] : List (Int)) (r1.1 : Int).toNat 0) + (IntKind.i64.wrap ((IntKind.i64.wrap (Int.tdiv r2.1 59)) * 5)))) == 1)) (Option.bind (r_pick_f (x0, r2.2, (if 1 > (List.length x2 : Int) then 1 else (List.length x2 : Int)))) fun r5 => (s_l20Deed_j0 x0 x0 r5.2 0 0 0 (IntKind.i64.wrap ((List.getD ([0, 0, 1, 1, 2, 2, 3, 4] : List (Int)) (r1.1 : Int).toNat 0) + (IntKind.i64.wrap ((IntKind.i64.wrap (Int.tdiv r2.1 59)) * 5)))) r5.1 0)) (cond (((IntKind.i64.wrap ((List.getD ([0, 0, 1, 1, 2, 2, 3, 4] : List (Int)) (r1.1 : Int).toNat 0) + (IntKind.i64.wrap ((IntKind.i64.wrap (Int.tdiv r2.1 59)) * 5)))) == 3)) (Option.bind (r_pick_f (x0, r2.2, 3)) fun r6 => (s_l20Deed_j0 x0 x0 r6.2 0 0 0 (IntKind.i64.wrap ((List.getD ([0, 0, 1, 1, 2, 2, 3, 4] : List (Int)) (r1.1 : Int).toNat 0) + (IntKind.i64.wrap ((IntKind.i64.wrap (Int.tdiv r2.1 59)) * 5)))) (IntKind.i64.wrap (3 + r6.1)) 0)) (s_l20Deed_j0 x0 x0 r2.2 0 0 0 (IntKind.i64.wrap ((List.getD ([0, 0, 1, 1, 2, 2, 3, 4] : List (Int)) (r1.1 : Int).toNat 0) + (IntKind.i64.wrap ((IntKind.i64.wrap (Int.tdiv r2.1 59)) * 5)))) 0 0))))), (Option.bind (r_pick_f (x0, r1.2, 60)) fun r2 => (cond (((IntKind.i64.wrap ((List.getD ([0, 0, 1, 1, 2, 2, 3, 4] : List (Int)) (r1.1 : Int).toNat 0) + (IntKind.i64.wrap ((IntKind.i64.wrap (Int.tdiv r2.1 59)) * 5)))) == 0)) (Option.bind (r_pick_f (x0, r2.2, (if 1 > (List.length x2 : Int) then 1 else (List.length x2 : Int)))) fun r3 => (Option.bind (r_pick_f (x0, r3.2, (if 1 > (List.length x2 : Int) then 1 else (List.length x2 : Int)))) fun r4 => (s_l20Deed_j0 x0 x0 r4.2 0 0 0 (IntKind.i64.wrap ((List.getD ([0, 0, 1, 1, 2, 2, 3, 4] : List (Int)) (r1.1 : Int).toNat 0) + (IntKind.i64.wrap ((IntKind.i64.wrap (Int.tdiv r2.1 59)) * 5)))) r3.1 r4.1))) (cond (((IntKind.i64.wrap ((List.getD ([0, 0, 1, 1, 2, 2, 3, 4] : List (Int)) (r1.1 : Int).toNat 0) + (IntKind.i64.wrap ((IntKind.i64.wrap (Int.tdiv r2.1 59)) * 5)))) == 1)) (Option.bind (r_pick_f (x0, r2.2, (if 1 > (List.length x2 : Int) then 1 else (List.length x2 : Int)))) fun r5 => (s_l20Deed_j0 x0 x0 r5.2 0 0 0 (IntKind.i64.wrap ((List.getD ([0, 0, 1, 1, 2, 2, 3, 4] : List (Int)) (r1.1 : Int).toNat 0) + (IntKind.i64.wrap ((IntKind.i64.wrap (Int.tdiv r2.1 59)) * 5)))) r5.1 0)) (cond (((IntKind.i64.wrap ((List.getD ([0, 0, 1, 1, 2, 2, 3, 4] : List (Int)) (r1.1 : Int).toNat 0) + (IntKind.i64.wrap ((IntKind.i64.wrap (Int.tdiv r2.1 59)) * 5)))) == 3)) (Option.bind (r_pick_f (x0, r2.2, 3)) fun r6 => (s_l20Deed_j0 x0 x0 r6.2 0 0 0 (IntKind.i64.wrap ((List.getD ([0, 0, 1, 1, 2, 2, 3, 4] : List (Int)) (r1.1 : Int).toNat 0) + (IntKind.i64.wrap ((IntKind.i64.wrap (Int.tdiv r2.1 59)) * 5)))) (IntKind.i64.wrap (3 + r6.1)) 0)) (s_l20Deed_j0 x0 x0 r2.2 0 0 0 (IntKind.i64.wrap ((List.getD ([0, 0, 1, 1, 2, 2, 3, 4] : List (Int)) (r1.1 : Int).toNat 0) + (IntKind.i64.wrap ((IntKind.i64.wrap (Int.tdiv r2.1 59)) * 5)))) 0 0)))))]), (Option.bind (r_pick_f (x0, r1.2, 60)) fun r2 => (cond (((IntKind.i64.wrap ((List.getD ([0, 0, 1, 1, 2, 2, 3, 4] : List (Int)) (r1.1 : Int).toNat 0) + (IntKind.i64.wrap ((IntKind.i64.wrap (Int.tdiv r2.1 59)) * 5)))) == 0)) (Option.bind (r_pick_f (x0, r2.2, (if 1 > (List.length x2 : Int) then 1 else (List.length x2 : Int)))) fun r3 => (Option.bind (r_pick_f (x0, r3.2, (if 1 > (List.length x2 : Int) then 1 else (List.length x2 : Int)))) fun r4 => (s_l20Deed_j0 x0 x0 r4.2 0 0 0 (IntKind.i64.wrap ((List.getD ([0, 0, 1, 1, 2, 2, 3, 4] : List (Int)) (r1.1 : Int).toNat 0) + (IntKind.i64.wrap ((IntKind.i64.wrap (Int.tdiv r2.1 59)) * 5)))) r3.1 r4.1))) (cond (((IntKind.i64.wrap ((List.getD ([0, 0, 1, 1, 2, 2, 3, 4] : List (Int)) (r1.1 : Int).toNat 0) + (IntKind.i64.wrap ((IntKind.i64.wrap (Int.tdiv r2.1 59)) * 5)))) == 1)) (Option.bind (r_pick_f (x0, r2.2, (if 1 > (List.length x2 : Int) then 1 else (List.length x2 : Int)))) fun r5 => (s_l20Deed_j0 x0 x0 r5.2 0 0 0 (IntKind.i64.wrap ((List.getD ([0, 0, 1, 1, 2, 2, 3, 4] : List (Int)) (r1.1 : Int).toNat 0) + (IntKind.i64.wrap ((IntKind.i64.wrap (Int.tdiv r2.1 59)) * 5)))) r5.1 0)) (cond (((IntKind.i64.wrap ((List.getD ([0, 0, 1, 1, 2, 2, 3, 4] : List (Int)) (r1.1 : Int).toNat 0) + (IntKind.i64.wrap ((IntKind.i64.wrap (Int.tdiv r2.1 59)) * 5)))) == 3)) (Option.bind (r_pick_f (x0, r2.2, 3)) fun r6 => (s_l20Deed_j0 x0 x0 r6.2 0 0 0 (IntKind.i64.wrap ((List.getD ([0, 0, 1, 1, 2, 2, 3, 4] : List (Int)) (r1.1 : Int).toNat 0) + (IntKind.i64.wrap ((IntKind.i64.wrap (Int.tdiv r2.1 59)) * 5)))) (IntKind.i64.wrap (3 + r6.1)) 0)) (s_l20Deed_j0 x0 x0 r2.2 0 0 0 (IntKind.i64.wrap ((List.getD ([0, 0, 1, 1, 2, 2, 3, 4] : List (Int)) (r1.1 : Int).toNat 0) + (IntKind.i64.wrap ((IntKind.i64.wrap (Int.tdiv r2.1 59)) * 5)))) 0 0))))), (same [(Option.bind (r_pick_f (x0, r1.2, 60)) fun r2 => (cond (((IntKind.i64.wrap ((List.getD ([0, 0, 1, 1, 2, 2, 3, 4] : List (Int)) (r1.1 : Int).toNat 0) + (IntKind.i64.wrap ((IntKind.i64.wrap (Int.tdiv r2.1 59)) * 5)))) == 0)) (Option.bind (r_pick_f (x0, r2.2, (if 1 > (List.length x2 : Int) then 1 else (List.length x2 : Int)))) fun r3 => (Option.bind (r_pick_f (x0, r3.2, (if 1 > (List.length x2 : Int) then 1 else (List.length x2 : Int)))) fun r4 => (s_l20Deed_j0 x0 x0 r4.2 0 0 0 (IntKind.i64.wrap ((List.getD ([0, 0, 1, 1, 2, 2, 3, 4] : List (Int)) (r1.1 : Int).toNat 0) + (IntKind.i64.wrap ((IntKind.i64.wrap (Int.tdiv r2.1 59)) * 5)))) r3.1 r4.1))) (cond (((IntKind.i64.wrap ((List.getD ([0, 0, 1, 1, 2, 2, 3, 4] : List (Int)) (r1.1 : Int).toNat 0) + (IntKind.i64.wrap ((IntKind.i64.wrap (Int.tdiv r2.1 59)) * 5)))) == 1)) (Option.bind (r_pick_f (x0, r2.2, (if 1 > (List.length x2 : Int) then 1 else (List.length x2 : Int)))) fun r5 => (s_l20Deed_j0 x0 x0 r5.2 0 0 0 (IntKind.i64.wrap ((List.getD ([0, 0, 1, 1, 2, 2, 3, 4] : List (Int)) (r1.1 : Int).toNat 0) + (IntKind.i64.wrap ((IntKind.i64.wrap (Int.tdiv r2.1 59)) * 5)))) r5.1 0)) (cond (((IntKind.i64.wrap ((List.getD ([0, 0, 1, 1, 2, 2, 3, 4] : List (Int)) (r1.1 : Int).toNat 0) + (IntKind.i64.wrap ((IntKind.i64.wrap (Int.tdiv r2.1 59)) * 5)))) == 3)) (Option.bind (r_pick_f (x0, r2.2, 3)) fun r6 => (s_l20Deed_j0 x0 x0 r6.2 0 0 0 (IntKind.i64.wrap ((List.getD ([0, 0, 1, 1, 2, 2, 3, 4] : List (Int)) (r1.1 : Int).toNat 0) + (IntKind.i64.wrap ((IntKind.i64.wrap (Int.tdiv r2.1 59)) * 5)))) (IntKind.i64.wrap (3 + r6.1)) 0)) (s_l20Deed_j0 x0 x0 r2.2 0 0 0 (IntKind.i64.wrap ((List.getD ([0, 0, 1, 1, 2, 2, 3, 4] : List (Int)) (r1.1 : Int).toNat 0) + (IntKind.i64.wrap ((IntKind.i64.wrap (Int.tdiv r2.1 59)) * 5)))) 0 0))))), (Option.bind (r_pick_f (x0, r1.2, 60)) fun r2 => (cond (((IntKind.i64.wrap ((List.getD ([0, 0, 1, 1, 2, 2, 3, 4] : List (Int)) (r1.1 : Int).toNat 0) + (IntKind.i64.wrap ((IntKind.i64.wrap (Int.tdiv r2.1 59)) * 5)))) == 0)) (Option.bind (r_pick_f (x0, r2.2, (if 1 > (List.length x2 : Int) then 1 else (List.length x2 : Int)))) fun r3 => (Option.bind (r_pick_f (x0, r3.2, (if 1 > (List.length x2 : Int) then 1 else (List.length x2 : Int)))) fun r4 => (s_l20Deed_j0 x0 x0 r4.2 0 0 0 (IntKind.i64.wrap ((List.getD ([0, 0, 1, 1, 2, 2, 3, 4] : List (Int)) (r1.1 : Int).toNat 0) + (IntKind.i64.wrap ((IntKind.i64.wrap (Int.tdiv r2.1 59)) * 5)))) r3.1 r4.1))) (cond (((IntKind.i64.wrap ((List.getD ([0, 0, 1, 1, 2, 2, 3, 4] : List (Int)) (r1.1 : Int).toNat 0) + (IntKind.i64.wrap ((IntKind.i64.wrap (Int.tdiv r2.1 59)) * 5)))) == 1)) (Option.bind (r_pick_f (x0, r2.2, (if 1 > (List.length x2 : Int) then 1 else (List.length x2 : Int)))) fun r5 => (s_l20Deed_j0 x0 x0 r5.2 0 0 0 (IntKind.i64.wrap ((List.getD ([0, 0, 1, 1, 2, 2, 3, 4] : List (Int)) (r1.1 : Int).toNat 0) + (IntKind.i64.wrap ((IntKind.i64.wrap (Int.tdiv r2.1 59)) * 5)))) r5.1 0)) (cond (((IntKind.i64.wrap ((List.getD ([0, 0, 1, 1, 2, 2, 3, 4] : List (Int)) (r1.1 : Int).toNat 0) + (IntKind.i64.wrap ((IntKind.i64.wrap (Int.tdiv r2.1 59)) * 5)))) == 3)) (Option.bind (r_pick_f (x0, r2.2, 3)) fun r6 => (s_l20Deed_j0 x0 x0 r6.2 0 0 0 (IntKind.i64.wrap ((List.getD ([0, 0, 1, 1, 2, 2, 3, 4] : List (Int)) (r1.1 : Int).toNat 0) + (IntKind.i64.wrap ((IntKind.i64.wrap (Int.tdiv r2.1 59)) * 5)))) (IntKind.i64.wrap (3 + r6.1)) 0)) (s_l20Deed_j0 x0 x0 r2.2 0 0 0 (IntKind.i64.wrap ((List.getD ([0, 0, 1, 1, 2, 2, 3, 4] : List (Int)) (r1.1 : Int).toNat 0) + (IntKind.i64.wrap ((IntKind.i64.wrap (Int.tdiv r2.1 59)) * 5)))) 0 0)))))])]) else none), (Option.bind (r_pick_f (x0, r1.2, 60)) fun r2 => (if (0 : Int) ≤ r1.1 ∧ r1.1 < (List.length ([0, 0, 1, 1, 2, 2, 3, 4] : List (Int)) : Int) then (cond (((IntKind.i64.wrap ((List.getD ([0, 0, 1, 1, 2, 2, 3, 4] : List (Int)) (r1.1 : Int).toNat 0) + (IntKind.i64.wrap ((IntKind.i64.wrap (Int.tdiv r2.1 59)) * 5)))) == 0)) (Option.bind (r_pick_f (x0, r2.2, (if 1 > (List.length x2 : Int) then 1 else (List.length x2 : Int)))) fun r3 => (Option.bind (r_pick_f (x0, r3.2, (if 1 > (List.length x2 : Int) then 1 else (List.length x2 : Int)))) fun r4 => (s_l20Deed_j0 x0 x0 r4.2 0 0 0 (IntKind.i64.wrap ((List.getD ([0, 0, 1, 1, 2, 2, 3, 4] : List (Int)) (r1.1 : Int).toNat 0) + (IntKind.i64.wrap ((IntKind.i64.wrap (Int.tdiv r2.1 59)) * 5)))) r3.1 r4.1))) (cond (((IntKind.i64.wrap ((List.getD ([0, 0, 1, 1, 2, 2, 3, 4] : List (Int)) (r1.1 : Int).toNat 0) + (IntKind.i64.wrap ((IntKind.i64.wrap (Int.tdiv r2.1 59)) * 5)))) == 1)) (Option.bind (r_pick_f (x0, r2.2, (if 1 > (List.length x2 : Int) then 1 else (List.length x2 : Int)))) fun r5 => (s_l20Deed_j0 x0 x0 r5.2 0 0 0 (IntKind.i64.wrap ((List.getD ([0, 0, 1, 1, 2, 2, 3, 4] : List (Int)) (r1.1 : Int).toNat 0) + (IntKind.i64.wrap ((IntKind.i64.wrap (Int.tdiv r2.1 59)) * 5)))) r5.1 0)) (cond (((IntKind.i64.wrap ((List.getD ([0, 0, 1, 1, 2, 2, 3, 4] : List (Int)) (r1.1 : Int).toNat 0) + (IntKind.i64.wrap ((IntKind.i64.wrap (Int.tdiv r2.1 59)) * 5)))) == 3)) (Option.bind (r_pick_f (x0, r2.2, 3)) fun r6 => (s_l20Deed_j0 x0 x0 r6.2 0 0 0 (IntKind.i64.wrap ((List.getD ([0, 0, 1, 1, 2, 2, 3, 4] : List (Int)) (r1.1 : Int).toNat 0) + (IntKind.i64.wrap ((IntKind.i64.wrap (Int.tdiv r2.1 59)) * 5)))) (IntKind.i64.wrap (3 + r6.1)) 0)) (s_l20Deed_j0 x0 x0 r2.2 0 0 0 (IntKind.i64.wrap ((List.getD ([0, 0, 1, 1, 2, 2, 3, 4] : List (Int)) (r1.1 : Int).toNat 0) + (IntKind.i64.wrap ((IntKind.i64.wrap (Int.tdiv r2.1 59)) * 5)))) 0 0)))) else none)), (same [(if (0 : Int) ≤ r1.1 ∧ r1.1 < (List.length ([0, 0, 1, 1, 2, 2, 3, 4] : List (Int)) : Int) then (same [(Option.bind (r_pick_f (x0, r1.2, 60)) fun r2 => (cond (((IntKind.i64.wrap ((List.getD ([0, 0, 1, 1, 2, 2, 3, 4] : List (Int)) (r1.1 : Int).toNat 0) + (IntKind.i64.wrap ((IntKind.i64.wrap (Int.tdiv r2.1 59)) * 5)))) == 0)) (Option.bind (r_pick_f (x0, r2.2, (if 1 > (List.length x2 : Int) then 1 else (List.length x2 : Int)))) fun r3 => (Option.bind (r_pick_f (x0, r3.2, (if 1 > (List.length x2 : Int) then 1 else (List.length x2 : Int)))) fun r4 => (s_l20Deed_j0 x0 x0 r4.2 0 0 0 (IntKind.i64.wrap ((List.getD ([0, 0, 1, 1, 2, 2, 3, 4] : List (Int)) (r1.1 : Int).toNat 0) + (IntKind.i64.wrap ((IntKind.i64.wrap (Int.tdiv r2.1 59)) * 5)))) r3.1 r4.1))) (cond (((IntKind.i64.wrap ((List.getD ([0, 0, 1, 1, 2, 2, 3, 4] : List (Int)) (r1.1 : Int).toNat 0) + (IntKind.i64.wrap ((IntKind.i64.wrap (Int.tdiv r2.1 59)) * 5)))) == 1)) (Option.bind (r_pick_f (x0, r2.2, (if 1 > (List.length x2 : Int) then 1 else (List.length x2 : Int)))) fun r5 => (s_l20Deed_j0 x0 x0 r5.2 0 0 0 (IntKind.i64.wrap ((List.getD ([0, 0, 1, 1, 2, 2, 3, 4] : List (Int)) (r1.1 : Int).toNat 0) + (IntKind.i64.wrap ((IntKind.i64.wrap (Int.tdiv r2.1 59)) * 5)))) r5.1 0)) (cond (((IntKind.i64.wrap ((List.getD ([0, 0, 1, 1, 2, 2, 3, 4] : List (Int)) (r1.1 : Int).toNat 0) + (IntKind.i64.wrap ((IntKind.i64.wrap (Int.tdiv r2.1 59)) * 5)))) == 3)) (Option.bind (r_pick_f (x0, r2.2, 3)) fun r6 => (s_l20Deed_j0 x0 x0 r6.2 0 0 0 (IntKind.i64.wrap ((List.getD ([0, 0, 1, 1, 2, 2, 3, 4] : List (Int)) (r1.1 : Int).toNat 0) + (IntKind.i64.wrap ((IntKind.i64.wrap (Int.tdiv r2.1 59)) * 5)))) (IntKind.i64.wrap (3 + r6.1)) 0)) (s_l20Deed_j0 x0 x0 r2.2 0 0 0 (IntKind.i64.wrap ((List.getD ([0, 0, 1, 1, 2, 2, 3, 4] : List (Int)) (r1.1 : Int).toNat 0) + (IntKind.i64.wrap ((IntKind.i64.wrap (Int.tdiv r2.1 59)) * 5)))) 0 0))))), (Option.bind (r_pick_f (x0, r1.2, 60)) fun r2 => (cond (((IntKind.i64.wrap ((List.getD ([0, 0, 1, 1, 2, 2, 3, 4] : List (Int)) (r1.1 : Int).toNat 0) + (IntKind.i64.wrap ((IntKind.i64.wrap (Int.tdiv r2.1 59)) * 5)))) == 0)) (Option.bind (r_pick_f (x0, r2.2, (if 1 > (List.length x2 : Int) then 1 else (List.length x2 : Int)))) fun r3 => (Option.bind (r_pick_f (x0, r3.2, (if 1 > (List.length x2 : Int) then 1 else (List.length x2 : Int)))) fun r4 => (s_l20Deed_j0 x0 x0 r4.2 0 0 0 (IntKind.i64.wrap ((List.getD ([0, 0, 1, 1, 2, 2, 3, 4] : List (Int)) (r1.1 : Int).toNat 0) + (IntKind.i64.wrap ((IntKind.i64.wrap (Int.tdiv r2.1 59)) * 5)))) r3.1 r4.1))) (cond (((IntKind.i64.wrap ((List.getD ([0, 0, 1, 1, 2, 2, 3, 4] : List (Int)) (r1.1 : Int).toNat 0) + (IntKind.i64.wrap ((IntKind.i64.wrap (Int.tdiv r2.1 59)) * 5)))) == 1)) (Option.bind (r_pick_f (x0, r2.2, (if 1 > (List.length x2 : Int) then 1 else (List.length x2 : Int)))) fun r5 => (s_l20Deed_j0 x0 x0 r5.2 0 0 0 (IntKind.i64.wrap ((List.getD ([0, 0, 1, 1, 2, 2, 3, 4] : List (Int)) (r1.1 : Int).toNat 0) + (IntKind.i64.wrap ((IntKind.i64.wrap (Int.tdiv r2.1 59)) * 5)))) r5.1 0)) (cond (((IntKind.i64.wrap ((List.getD ([0, 0, 1, 1, 2, 2, 3, 4] : List (Int)) (r1.1 : Int).toNat 0) + (IntKind.i64.wrap ((IntKind.i64.wrap (Int.tdiv r2.1 59)) * 5)))) == 3)) (Option.bind (r_pick_f (x0, r2.2, 3)) fun r6 => (s_l20Deed_j0 x0 x0 r6.2 0 0 0 (IntKind.i64.wrap ((List.getD ([0, 0, 1, 1, 2, 2, 3, 4] : List (Int)) (r1.1 : Int).toNat 0) + (IntKind.i64.wrap ((IntKind.i64.wrap (Int.tdiv r2.1 59)) * 5)))) (IntKind.i64.wrap (3 + r6.1)) 0)) (s_l20Deed_j0 x0 x0 r2.2 0 0 0 (IntKind.i64.wrap ((List.getD ([0, 0, 1, 1, 2, 2, 3, 4] : List (Int)) (r1.1 : Int).toNat 0) + (IntKind.i64.wrap ((IntKind.i64.wrap (Int.tdiv r2.1 59)) * 5)))) 0 0)))))]) else none), (Option.bind (r_pick_f (x0, r1.2, 60)) fun r2 => (if (0 : Int) ≤ r1.1 ∧ r1.1 < (List.length ([0, 0, 1, 1, 2, 2, 3, 4] : List (Int)) : Int) then (cond (((IntKind.i64.wrap ((List.getD ([0, 0, 1, 1, 2, 2, 3, 4] : List (Int)) (r1.1 : Int).toNat 0) + (IntKind.i64.wrap ((IntKind.i64.wrap (Int.tdiv r2.1 59)) * 5)))) == 0)) (Option.bind (r_pick_f (x0, r2.2, (if 1 > (List.length x2 : Int) then 1 else (List.length x2 : Int)))) fun r3 => (Option.bind (r_pick_f (x0, r3.2, (if 1 > (List.length x2 : Int) then 1 else (List.length x2 : Int)))) fun r4 => (s_l20Deed_j0 x0 x0 r4.2 0 0 0 (IntKind.i64.wrap ((List.getD ([0, 0, 1, 1, 2, 2, 3, 4] : List (Int)) (r1.1 : Int).toNat 0) + (IntKind.i64.wrap ((IntKind.i64.wrap (Int.tdiv r2.1 59)) * 5)))) r3.1 r4.1))) (cond (((IntKind.i64.wrap ((List.getD ([0, 0, 1, 1, 2, 2, 3, 4] : List (Int)) (r1.1 : Int).toNat 0) + (IntKind.i64.wrap ((IntKind.i64.wrap (Int.tdiv r2.1 59)) * 5)))) == 1)) (Option.bind (r_pick_f (x0, r2.2, (if 1 > (List.length x2 : Int) then 1 else (List.length x2 : Int)))) fun r5 => (s_l20Deed_j0 x0 x0 r5.2 0 0 0 (IntKind.i64.wrap ((List.getD ([0, 0, 1, 1, 2, 2, 3, 4] : List (Int)) (r1.1 : Int).toNat 0) + (IntKind.i64.wrap ((IntKind.i64.wrap (Int.tdiv r2.1 59)) * 5)))) r5.1 0)) (cond (((IntKind.i64.wrap ((List.getD ([0, 0, 1, 1, 2, 2, 3, 4] : List (Int)) (r1.1 : Int).toNat 0) + (IntKind.i64.wrap ((IntKind.i64.wrap (Int.tdiv r2.1 59)) * 5)))) == 3)) (Option.bind (r_pick_f (x0, r2.2, 3)) fun r6 => (s_l20Deed_j0 x0 x0 r6.2 0 0 0 (IntKind.i64.wrap ((List.getD ([0, 0, 1, 1, 2, 2, 3, 4] : List (Int)) (r1.1 : Int).toNat 0) + (IntKind.i64.wrap ((IntKind.i64.wrap (Int.tdiv r2.1 59)) * 5)))) (IntKind.i64.wrap (3 + r6.1)) 0)) (s_l20Deed_j0 x0 x0 r2.2 0 0 0 (IntKind.i64.wrap ((List.getD ([0, 0, 1, 1, 2, 2, 3, 4] : List (Int)) (r1.1 : Int).toNat 0) + (IntKind.i64.wrap ((IntKind.i64.wrap (Int.tdiv r2.1 59)) * 5)))) 0 0)))) else none))])]), (Option.bind (r_pick_f (x0, r1.2, 60)) fun r2 => (same [(if (0 : Int) ≤ r1.1 ∧ r1.1 < (List.length ([0, 0, 1, 1, 2, 2, 3, 4] : List (Int)) : Int) then (cond (((IntKind.i64.wrap ((List.getD ([0, 0, 1, 1, 2, 2, 3, 4] : List (Int)) (r1.1 : Int).toNat 0) + (IntKind.i64.wrap ((IntKind.i64.wrap (Int.tdiv r2.1 59)) * 5)))) == 0)) (Option.bind (r_pick_f (x0, r2.2, (if 1 > (List.length x2 : Int) then 1 else (List.length x2 : Int)))) fun r3 => (Option.bind (r_pick_f (x0, r3.2, (if 1 > (List.length x2 : Int) then 1 else (List.length x2 : Int)))) fun r4 => (s_l20Deed_j0 x0 x0 r4.2 0 0 0 (IntKind.i64.wrap ((List.getD ([0, 0, 1, 1, 2, 2, 3, 4] : List (Int)) (r1.1 : Int).toNat 0) + (IntKind.i64.wrap ((IntKind.i64.wrap (Int.tdiv r2.1 59)) * 5)))) r3.1 r4.1))) (cond (((IntKind.i64.wrap ((List.getD ([0, 0, 1, 1, 2, 2, 3, 4] : List (Int)) (r1.1 : Int).toNat 0) + (IntKind.i64.wrap ((IntKind.i64.wrap (Int.tdiv r2.1 59)) * 5)))) == 1)) (Option.bind (r_pick_f (x0, r2.2, (if 1 > (List.length x2 : Int) then 1 else (List.length x2 : Int)))) fun r5 => (s_l20Deed_j0 x0 x0 r5.2 0 0 0 (IntKind.i64.wrap ((List.getD ([0, 0, 1, 1, 2, 2, 3, 4] : List (Int)) (r1.1 : Int).toNat 0) + (IntKind.i64.wrap ((IntKind.i64.wrap (Int.tdiv r2.1 59)) * 5)))) r5.1 0)) (cond (((IntKind.i64.wrap ((List.getD ([0, 0, 1, 1, 2, 2, 3, 4] : List (Int)) (r1.1 : Int).toNat 0) + (IntKind.i64.wrap ((IntKind.i64.wrap (Int.tdiv r2.1 59)) * 5)))) == 3)) (Option.bind (r_pick_f (x0, r2.2, 3)) fun r6 => (s_l20Deed_j0 x0 x0 r6.2 0 0 0 (IntKind.i64.wrap ((List.getD ([0, 0, 1, 1, 2, 2, 3, 4] : List (Int)) (r1.1 : Int).toNat 0) + (IntKind.i64.wrap ((IntKind.i64.wrap (Int.tdiv r2.1 59)) * 5)))) (IntKind.i64.wrap (3 + r6.1)) 0)) (s_l20Deed_j0 x0 x0 r2.2 0 0 0 (IntKind.i64.wrap ((List.getD ([0, 0, 1, 1, 2, 2, 3, 4] : List (Int)) (r1.1 : Int).toNat 0) + (IntKind.i64.wrap ((IntKind.i64.wrap (Int.tdiv r2.1 59)) * 5)))) 0 0)))) else none), (if (0 : Int) ≤ r1.1 ∧ r1.1 < (List.length ([0, 0, 1, 1, 2, 2, 3, 4] : List (Int)) : Int) then (cond (((IntKind.i64.wrap ((List.getD ([0, 0, 1, 1, 2, 2, 3, 4] : List (Int)) (r1.1 : Int).toNat 0) + (IntKind.i64.wrap ((IntKind.i64.wrap (Int.tdiv r2.1 59)) * 5)))) == 0)) (Option.bind (r_pick_f (x0, r2.2, (if 1 > (List.length x2 : Int) then 1 else (List.length x2 : Int)))) fun r3 => (Option.bind (r_pick_f (x0, r3.2, (if 1 > (List.length x2 : Int) then 1 else (List.length x2 : Int)))) fun r4 => (s_l20Deed_j0 x0 x0 r4.2 0 0 0 (IntKind.i64.wrap ((List.getD ([0, 0, 1, 1, 2, 2, 3, 4] : List (Int)) (r1.1 : Int).toNat 0) + (IntKind.i64.wrap ((IntKind.i64.wrap (Int.tdiv r2.1 59)) * 5)))) r3.1 r4.1))) (cond (((IntKind.i64.wrap ((List.getD ([0, 0, 1, 1, 2, 2, 3, 4] : List (Int)) (r1.1 : Int).toNat 0) + (IntKind.i64.wrap ((IntKind.i64.wrap (Int.tdiv r2.1 59)) * 5)))) == 1)) (Option.bind (r_pick_f (x0, r2.2, (if 1 > (List.length x2 : Int) then 1 else (List.length x2 : Int)))) fun r5 => (s_l20Deed_j0 x0 x0 r5.2 0 0 0 (IntKind.i64.wrap ((List.getD ([0, 0, 1, 1, 2, 2, 3, 4] : List (Int)) (r1.1 : Int).toNat 0) + (IntKind.i64.wrap ((IntKind.i64.wrap (Int.tdiv r2.1 59)) * 5)))) r5.1 0)) (cond (((IntKind.i64.wrap ((List.getD ([0, 0, 1, 1, 2, 2, 3, 4] : List (Int)) (r1.1 : Int).toNat 0) + (IntKind.i64.wrap ((IntKind.i64.wrap (Int.tdiv r2.1 59)) * 5)))) == 3)) (Option.bind (r_pick_f (x0, r2.2, 3)) fun r6 => (s_l20Deed_j0 x0 x0 r6.2 0 0 0 (IntKind.i64.wrap ((List.getD ([0, 0, 1, 1, 2, 2, 3, 4] : List (Int)) (r1.1 : Int).toNat 0) + (IntKind.i64.wrap ((IntKind.i64.wrap (Int.tdiv r2.1 59)) * 5)))) (IntKind.i64.wrap (3 + r6.1)) 0)) (s_l20Deed_j0 x0 x0 r2.2 0 0 0 (IntKind.i64.wrap ((List.getD ([0, 0, 1, 1, 2, 2, 3, 4] : List (Int)) (r1.1 : Int).toNat 0) + (IntKind.i64.wrap ((IntKind.i64.wrap (Int.tdiv r2.1 59)) * 5)))) 0 0)))) else none)])), (same [(same [(if (0 : Int) ≤ r1.1 ∧ r1.1 < (List.length ([0, 0, 1, 1, 2, 2, 3, 4] : List (Int)) : Int) then (same [(Option.bind (r_pick_f (x0, r1.2, 60)) fun r2 => (cond (((IntKind.i64.wrap ((List.getD ([0, 0, 1, 1, 2, 2, 3, 4] : List (Int)) (r1.1 : Int).toNat 0) + (IntKind.i64.wrap ((IntKind.i64.wrap (Int.tdiv r2.1 59)) * 5)))) == 0)) (Option.bind (r_pick_f (x0, r2.2, (if 1 > (List.length x2 : Int) then 1 else (List.length x2 : Int)))) fun r3 => (Option.bind (r_pick_f (x0, r3.2, (if 1 > (List.length x2 : Int) then 1 else (List.length x2 : Int)))) fun r4 => (s_l20Deed_j0 x0 x0 r4.2 0 0 0 (IntKind.i64.wrap ((List.getD ([0, 0, 1, 1, 2, 2, 3, 4] : List (Int)) (r1.1 : Int).toNat 0) + (IntKind.i64.wrap ((IntKind.i64.wrap (Int.tdiv r2.1 59)) * 5)))) r3.1 r4.1))) (cond (((IntKind.i64.wrap ((List.getD ([0, 0, 1, 1, 2, 2, 3, 4] : List (Int)) (r1.1 : Int).toNat 0) + (IntKind.i64.wrap ((IntKind.i64.wrap (Int.tdiv r2.1 59)) * 5)))) == 1)) (Option.bind (r_pick_f (x0, r2.2, (if 1 > (List.length x2 : Int) then 1 else (List.length x2 : Int)))) fun r5 => (s_l20Deed_j0 x0 x0 r5.2 0 0 0 (IntKind.i64.wrap ((List.getD ([0, 0, 1, 1, 2, 2, 3, 4] : List (Int)) (r1.1 : Int).toNat 0) + (IntKind.i64.wrap ((IntKind.i64.wrap (Int.tdiv r2.1 59)) * 5)))) r5.1 0)) (cond (((IntKind.i64.wrap ((List.getD ([0, 0, 1, 1, 2, 2, 3, 4] : List (Int)) (r1.1 : Int).toNat 0) + (IntKind.i64.wrap ((IntKind.i64.wrap (Int.tdiv r2.1 59)) * 5)))) == 3)) (Option.bind (r_pick_f (x0, r2.2, 3)) fun r6 => (s_l20Deed_j0 x0 x0 r6.2 0 0 0 (IntKind.i64.wrap ((List.getD ([0, 0, 1, 1, 2, 2, 3, 4] : List (Int)) (r1.1 : Int).toNat 0) + (IntKind.i64.wrap ((IntKind.i64.wrap (Int.tdiv r2.1 59)) * 5)))) (IntKind.i64.wrap (3 + r6.1)) 0)) (s_l20Deed_j0 x0 x0 r2.2 0 0 0 (IntKind.i64.wrap ((List.getD ([0, 0, 1, 1, 2, 2, 3, 4] : List (Int)) (r1.1 : Int).toNat 0) + (IntKind.i64.wrap ((IntKind.i64.wrap (Int.tdiv r2.1 59)) * 5)))) 0 0))))), (Option.bind (r_pick_f (x0, r1.2, 60)) fun r2 => (cond (((IntKind.i64.wrap ((List.getD ([0, 0, 1, 1, 2, 2, 3, 4] : List (Int)) (r1.1 : Int).toNat 0) + (IntKind.i64.wrap ((IntKind.i64.wrap (Int.tdiv r2.1 59)) * 5)))) == 0)) (Option.bind (r_pick_f (x0, r2.2, (if 1 > (List.length x2 : Int) then 1 else (List.length x2 : Int)))) fun r3 => (Option.bind (r_pick_f (x0, r3.2, (if 1 > (List.length x2 : Int) then 1 else (List.length x2 : Int)))) fun r4 => (s_l20Deed_j0 x0 x0 r4.2 0 0 0 (IntKind.i64.wrap ((List.getD ([0, 0, 1, 1, 2, 2, 3, 4] : List (Int)) (r1.1 : Int).toNat 0) + (IntKind.i64.wrap ((IntKind.i64.wrap (Int.tdiv r2.1 59)) * 5)))) r3.1 r4.1))) (cond (((IntKind.i64.wrap ((List.getD ([0, 0, 1, 1, 2, 2, 3, 4] : List (Int)) (r1.1 : Int).toNat 0) + (IntKind.i64.wrap ((IntKind.i64.wrap (Int.tdiv r2.1 59)) * 5)))) == 1)) (Option.bind (r_pick_f (x0, r2.2, (if 1 > (List.length x2 : Int) then 1 else (List.length x2 : Int)))) fun r5 => (s_l20Deed_j0 x0 x0 r5.2 0 0 0 (IntKind.i64.wrap ((List.getD ([0, 0, 1, 1, 2, 2, 3, 4] : List (Int)) (r1.1 : Int).toNat 0) + (IntKind.i64.wrap ((IntKind.i64.wrap (Int.tdiv r2.1 59)) * 5)))) r5.1 0)) (cond (((IntKind.i64.wrap ((List.getD ([0, 0, 1, 1, 2, 2, 3, 4] : List (Int)) (r1.1 : Int).toNat 0) + (IntKind.i64.wrap ((IntKind.i64.wrap (Int.tdiv r2.1 59)) * 5)))) == 3)) (Option.bind (r_pick_f (x0, r2.2, 3)) fun r6 => (s_l20Deed_j0 x0 x0 r6.2 0 0 0 (IntKind.i64.wrap ((List.getD ([0, 0, 1, 1, 2, 2, 3, 4] : List (Int)) (r1.1 : Int).toNat 0) + (IntKind.i64.wrap ((IntKind.i64.wrap (Int.tdiv r2.1 59)) * 5)))) (IntKind.i64.wrap (3 + r6.1)) 0)) (s_l20Deed_j0 x0 x0 r2.2 0 0 0 (IntKind.i64.wrap ((List.getD ([0, 0, 1, 1, 2, 2, 3, 4] : List (Int)) (r1.1 : Int).toNat 0) + (IntKind.i64.wrap ((IntKind.i64.wrap (Int.tdiv r2.1 59)) * 5)))) 0 0)))))]) else none), (Option.bind (r_pick_f (x0, r1.2, 60)) fun r2 => (if (0 : Int) ≤ r1.1 ∧ r1.1 < (List.length ([0, 0, 1, 1, 2, 2, 3, 4] : List (Int)) : Int) then (cond (((IntKind.i64.wrap ((List.getD ([0, 0, 1, 1, 2, 2, 3, 4] : List (Int)) (r1.1 : Int).toNat 0) + (IntKind.i64.wrap ((IntKind.i64.wrap (Int.tdiv r2.1 59)) * 5)))) == 0)) (Option.bind (r_pick_f (x0, r2.2, (if 1 > (List.length x2 : Int) then 1 else (List.length x2 : Int)))) fun r3 => (Option.bind (r_pick_f (x0, r3.2, (if 1 > (List.length x2 : Int) then 1 else (List.length x2 : Int)))) fun r4 => (s_l20Deed_j0 x0 x0 r4.2 0 0 0 (IntKind.i64.wrap ((List.getD ([0, 0, 1, 1, 2, 2, 3, 4] : List (Int)) (r1.1 : Int).toNat 0) + (IntKind.i64.wrap ((IntKind.i64.wrap (Int.tdiv r2.1 59)) * 5)))) r3.1 r4.1))) (cond (((IntKind.i64.wrap ((List.getD ([0, 0, 1, 1, 2, 2, 3, 4] : List (Int)) (r1.1 : Int).toNat 0) + (IntKind.i64.wrap ((IntKind.i64.wrap (Int.tdiv r2.1 59)) * 5)))) == 1)) (Option.bind (r_pick_f (x0, r2.2, (if 1 > (List.length x2 : Int) then 1 else (List.length x2 : Int)))) fun r5 => (s_l20Deed_j0 x0 x0 r5.2 0 0 0 (IntKind.i64.wrap ((List.getD ([0, 0, 1, 1, 2, 2, 3, 4] : List (Int)) (r1.1 : Int).toNat 0) + (IntKind.i64.wrap ((IntKind.i64.wrap (Int.tdiv r2.1 59)) * 5)))) r5.1 0)) (cond (((IntKind.i64.wrap ((List.getD ([0, 0, 1, 1, 2, 2, 3, 4] : List (Int)) (r1.1 : Int).toNat 0) + (IntKind.i64.wrap ((IntKind.i64.wrap (Int.tdiv r2.1 59)) * 5)))) == 3)) (Option.bind (r_pick_f (x0, r2.2, 3)) fun r6 => (s_l20Deed_j0 x0 x0 r6.2 0 0 0 (IntKind.i64.wrap ((List.getD ([0, 0, 1, 1, 2, 2, 3, 4] : List (Int)) (r1.1 : Int).toNat 0) + (IntKind.i64.wrap ((IntKind.i64.wrap (Int.tdiv r2.1 59)) * 5)))) (IntKind.i64.wrap (3 + r6.1)) 0)) (s_l20Deed_j0 x0 x0 r2.2 0 0 0 (IntKind.i64.wrap ((List.getD ([0, 0, 1, 1, 2, 2, 3, 4] : List (Int)) (r1.1 : Int).toNat 0) + (IntKind.i64.wrap ((IntKind.i64.wrap (Int.tdiv r2.1 59)) * 5)))) 0 0)))) else none))]), (Option.bind (r_pick_f (x0, r1.2, 60)) fun r2 => (if (0 : Int) ≤ r1.1 ∧ r1.1 < (List.length ([0, 0, 1, 1, 2, 2, 3, 4] : List (Int)) : Int) then (cond (((IntKind.i64.wrap ((List.getD ([0, 0, 1, 1, 2, 2, 3, 4] : List (Int)) (r1.1 : Int).toNat 0) + (IntKind.i64.wrap ((IntKind.i64.wrap (Int.tdiv r2.1 59)) * 5)))) == 0)) (Option.bind (r_pick_f (x0, r2.2, (if 1 > (List.length x2 : Int) then 1 else (List.length x2 : Int)))) fun r3 => (Option.bind (r_pick_f (x0, r3.2, (if 1 > (List.length x2 : Int) then 1 else (List.length x2 : Int)))) fun r4 => (s_l20Deed_j0 x0 x0 r4.2 0 0 0 (IntKind.i64.wrap ((List.getD ([0, 0, 1, 1, 2, 2, 3, 4] : List (Int)) (r1.1 : Int).toNat 0) + (IntKind.i64.wrap ((IntKind.i64.wrap (Int.tdiv r2.1 59)) * 5)))) r3.1 r4.1))) (cond (((IntKind.i64.wrap ((List.getD ([0, 0, 1, 1, 2, 2, 3, 4] : List (Int)) (r1.1 : Int).toNat 0) + (IntKind.i64.wrap ((IntKind.i64.wrap (Int.tdiv r2.1 59)) * 5)))) == 1)) (Option.bind (r_pick_f (x0, r2.2, (if 1 > (List.length x2 : Int) then 1 else (List.length x2 : Int)))) fun r5 => (s_l20Deed_j0 x0 x0 r5.2 0 0 0 (IntKind.i64.wrap ((List.getD ([0, 0, 1, 1, 2, 2, 3, 4] : List (Int)) (r1.1 : Int).toNat 0) + (IntKind.i64.wrap ((IntKind.i64.wrap (Int.tdiv r2.1 59)) * 5)))) r5.1 0)) (cond (((IntKind.i64.wrap ((List.getD ([0, 0, 1, 1, 2, 2, 3, 4] : List (Int)) (r1.1 : Int).toNat 0) + (IntKind.i64.wrap ((IntKind.i64.wrap (Int.tdiv r2.1 59)) * 5)))) == 3)) (Option.bind (r_pick_f (x0, r2.2, 3)) fun r6 => (s_l20Deed_j0 x0 x0 r6.2 0 0 0 (IntKind.i64.wrap ((List.getD ([0, 0, 1, 1, 2, 2, 3, 4] : List (Int)) (r1.1 : Int).toNat 0) + (IntKind.i64.wrap ((IntKind.i64.wrap (Int.tdiv r2.1 59)) * 5)))) (IntKind.i64.wrap (3 + r6.1)) 0)) (s_l20Deed_j0 x0 x0 r2.2 0 0 0 (IntKind.i64.wrap ((List.getD ([0, 0, 1, 1, 2, 2, 3, 4] : List (Int)) (r1.1 : Int).toNat 0) + (IntKind.i64.wrap ((IntKind.i64.wrap (Int.tdiv r2.1 59)) * 5)))) 0 0)))) else none))])])), (same [(Option.bind (r_pick_f (x0, x1, 8)) fun r1 => (same [(if (0 : Int) ≤ r1.1 ∧ r1.1 < (List.length ([0, 0, 1, 1, 2, 2, 3, 4] : List (Int)) : Int) then (same [(Option.bind (r_pick_f (x0, r1.2, 60)) fun r2 => (cond (((IntKind.i64.wrap ((List.getD ([0, 0, 1, 1, 2, 2, 3, 4] : List (Int)) (r1.1 : Int).toNat 0) + (IntKind.i64.wrap ((IntKind.i64.wrap (Int.tdiv r2.1 59)) * 5)))) == 0)) (Option.bind (r_pick_f (x0, r2.2, (if 1 > (List.length x2 : Int) then 1 else (List.length x2 : Int)))) fun r3 => (Option.bind (r_pick_f (x0, r3.2, (if 1 > (List.length x2 : Int) then 1 else (List.length x2 : Int)))) fun r4 => (s_l20Deed_j0 x0 x0 r4.2 0 0 0 (IntKind.i64.wrap ((List.getD ([0, 0, 1, 1, 2, 2, 3, 4] : List (Int)) (r1.1 : Int).toNat 0) + (IntKind.i64.wrap ((IntKind.i64.wrap (Int.tdiv r2.1 59)) * 5)))) r3.1 r4.1))) (cond (((IntKind.i64.wrap ((List.getD ([0, 0, 1, 1, 2, 2, 3, 4] : List (Int)) (r1.1 : Int).toNat 0) + (IntKind.i64.wrap ((IntKind.i64.wrap (Int.tdiv r2.1 59)) * 5)))) == 1)) (Option.bind (r_pick_f (x0, r2.2, (if 1 > (List.length x2 : Int) then 1 else (List.length x2 : Int)))) fun r5 => (s_l20Deed_j0 x0 x0 r5.2 0 0 0 (IntKind.i64.wrap ((List.getD ([0, 0, 1, 1, 2, 2, 3, 4] : List (Int)) (r1.1 : Int).toNat 0) + (IntKind.i64.wrap ((IntKind.i64.wrap (Int.tdiv r2.1 59)) * 5)))) r5.1 0)) (cond (((IntKind.i64.wrap ((List.getD ([0, 0, 1, 1, 2, 2, 3, 4] : List (Int)) (r1.1 : Int).toNat 0) + (IntKind.i64.wrap ((IntKind.i64.wrap (Int.tdiv r2.1 59)) * 5)))) == 3)) (Option.bind (r_pick_f (x0, r2.2, 3)) fun r6 => (s_l20Deed_j0 x0 x0 r6.2 0 0 0 (IntKind.i64.wrap ((List.getD ([0, 0, 1, 1, 2, 2, 3, 4] : List (Int)) (r1.1 : Int).toNat 0) + (IntKind.i64.wrap ((IntKind.i64.wrap (Int.tdiv r2.1 59)) * 5)))) (IntKind.i64.wrap (3 + r6.1)) 0)) (s_l20Deed_j0 x0 x0 r2.2 0 0 0 (IntKind.i64.wrap ((List.getD ([0, 0, 1, 1, 2, 2, 3, 4] : List (Int)) (r1.1 : Int).toNat 0) + (IntKind.i64.wrap ((IntKind.i64.wrap (Int.tdiv r2.1 59)) * 5)))) 0 0))))), (Option.bind (r_pick_f (x0, r1.2, 60)) fun r2 => (cond (((IntKind.i64.wrap ((List.getD ([0, 0, 1, 1, 2, 2, 3, 4] : List (Int)) (r1.1 : Int).toNat 0) + (IntKind.i64.wrap ((IntKind.i64.wrap (Int.tdiv r2.1 59)) * 5)))) == 0)) (Option.bind (r_pick_f (x0, r2.2, (if 1 > (List.length x2 : Int) then 1 else (List.length x2 : Int)))) fun r3 => (Option.bind (r_pick_f (x0, r3.2, (if 1 > (List.length x2 : Int) then 1 else (List.length x2 : Int)))) fun r4 => (s_l20Deed_j0 x0 x0 r4.2 0 0 0 (IntKind.i64.wrap ((List.getD ([0, 0, 1, 1, 2, 2, 3, 4] : List (Int)) (r1.1 : Int).toNat 0) + (IntKind.i64.wrap ((IntKind.i64.wrap (Int.tdiv r2.1 59)) * 5)))) r3.1 r4.1))) (cond (((IntKind.i64.wrap ((List.getD ([0, 0, 1, 1, 2, 2, 3, 4] : List (Int)) (r1.1 : Int).toNat 0) + (IntKind.i64.wrap ((IntKind.i64.wrap (Int.tdiv r2.1 59)) * 5)))) == 1)) (Option.bind (r_pick_f (x0, r2.2, (if 1 > (List.length x2 : Int) then 1 else (List.length x2 : Int)))) fun r5 => (s_l20Deed_j0 x0 x0 r5.2 0 0 0 (IntKind.i64.wrap ((List.getD ([0, 0, 1, 1, 2, 2, 3, 4] : List (Int)) (r1.1 : Int).toNat 0) + (IntKind.i64.wrap ((IntKind.i64.wrap (Int.tdiv r2.1 59)) * 5)))) r5.1 0)) (cond (((IntKind.i64.wrap ((List.getD ([0, 0, 1, 1, 2, 2, 3, 4] : List (Int)) (r1.1 : Int).toNat 0) + (IntKind.i64.wrap ((IntKind.i64.wrap (Int.tdiv r2.1 59)) * 5)))) == 3)) (Option.bind (r_pick_f (x0, r2.2, 3)) fun r6 => (s_l20Deed_j0 x0 x0 r6.2 0 0 0 (IntKind.i64.wrap ((List.getD ([0, 0, 1, 1, 2, 2, 3, 4] : List (Int)) (r1.1 : Int).toNat 0) + (IntKind.i64.wrap ((IntKind.i64.wrap (Int.tdiv r2.1 59)) * 5)))) (IntKind.i64.wrap (3 + r6.1)) 0)) (s_l20Deed_j0 x0 x0 r2.2 0 0 0 (IntKind.i64.wrap ((List.getD ([0, 0, 1, 1, 2, 2, 3, 4] : List (Int)) (r1.1 : Int).toNat 0) + (IntKind.i64.wrap ((IntKind.i64.wrap (Int.tdiv r2.1 59)) * 5)))) 0 0)))))]) else none), (Option.bind (r_pick_f (x0, r1.2, 60)) fun r2 => (if (0 : Int) ≤ r1.1 ∧ r1.1 < (List.length ([0, 0, 1, 1, 2, 2, 3, 4] : List (Int)) : Int) then (cond (((IntKind.i64.wrap ((List.getD ([0, 0, 1, 1, 2, 2, 3, 4] : List (Int)) (r1.1 : Int).toNat 0) + (IntKind.i64.wrap ((IntKind.i64.wrap (Int.tdiv r2.1 59)) * 5)))) == 0)) (Option.bind (r_pick_f (x0, r2.2, (if 1 > (List.length x2 : Int) then 1 else (List.length x2 : Int)))) fun r3 => (Option.bind (r_pick_f (x0, r3.2, (if 1 > (List.length x2 : Int) then 1 else (List.length x2 : Int)))) fun r4 => (s_l20Deed_j0 x0 x0 r4.2 0 0 0 (IntKind.i64.wrap ((List.getD ([0, 0, 1, 1, 2, 2, 3, 4] : List (Int)) (r1.1 : Int).toNat 0) + (IntKind.i64.wrap ((IntKind.i64.wrap (Int.tdiv r2.1 59)) * 5)))) r3.1 r4.1))) (cond (((IntKind.i64.wrap ((List.getD ([0, 0, 1, 1, 2, 2, 3, 4] : List (Int)) (r1.1 : Int).toNat 0) + (IntKind.i64.wrap ((IntKind.i64.wrap (Int.tdiv r2.1 59)) * 5)))) == 1)) (Option.bind (r_pick_f (x0, r2.2, (if 1 > (List.length x2 : Int) then 1 else (List.length x2 : Int)))) fun r5 => (s_l20Deed_j0 x0 x0 r5.2 0 0 0 (IntKind.i64.wrap ((List.getD ([0, 0, 1, 1, 2, 2, 3, 4] : List (Int)) (r1.1 : Int).toNat 0) + (IntKind.i64.wrap ((IntKind.i64.wrap (Int.tdiv r2.1 59)) * 5)))) r5.1 0)) (cond (((IntKind.i64.wrap ((List.getD ([0, 0, 1, 1, 2, 2, 3, 4] : List (Int)) (r1.1 : Int).toNat 0) + (IntKind.i64.wrap ((IntKind.i64.wrap (Int.tdiv r2.1 59)) * 5)))) == 3)) (Option.bind (r_pick_f (x0, r2.2, 3)) fun r6 => (s_l20Deed_j0 x0 x0 r6.2 0 0 0 (IntKind.i64.wrap ((List.getD ([0, 0, 1, 1, 2, 2, 3, 4] : List (Int)) (r1.1 : Int).toNat 0) + (IntKind.i64.wrap ((IntKind.i64.wrap (Int.tdiv r2.1 59)) * 5)))) (IntKind.i64.wrap (3 + r6.1)) 0)) (s_l20Deed_j0 x0 x0 r2.2 0 0 0 (IntKind.i64.wrap ((List.getD ([0, 0, 1, 1, 2, 2, 3, 4] : List (Int)) (r1.1 : Int).toNat 0) + (IntKind.i64.wrap ((IntKind.i64.wrap (Int.tdiv r2.1 59)) * 5)))) 0 0)))) else none))])), (Option.bind (r_pick_f (x0, x1, 8)) fun r1 => (same [(same [(if (0 : Int) ≤ r1.1 ∧ r1.1 < (List.length ([0, 0, 1, 1, 2, 2, 3, 4] : List (Int)) : Int) then (same [(Option.bind (r_pick_f (x0, r1.2, 60)) fun r2 => (cond (((IntKind.i64.wrap ((List.getD ([0, 0, 1, 1, 2, 2, 3, 4] : List (Int)) (r1.1 : Int).toNat 0) + (IntKind.i64.wrap ((IntKind.i64.wrap (Int.tdiv r2.1 59)) * 5)))) == 0)) (Option.bind (r_pick_f (x0, r2.2, (if 1 > (List.length x2 : Int) then 1 else (List.length x2 : Int)))) fun r3 => (Option.bind (r_pick_f (x0, r3.2, (if 1 > (List.length x2 : Int) then 1 else (List.length x2 : Int)))) fun r4 => (s_l20Deed_j0 x0 x0 r4.2 0 0 0 (IntKind.i64.wrap ((List.getD ([0, 0, 1, 1, 2, 2, 3, 4] : List (Int)) (r1.1 : Int).toNat 0) + (IntKind.i64.wrap ((IntKind.i64.wrap (Int.tdiv r2.1 59)) * 5)))) r3.1 r4.1))) (cond (((IntKind.i64.wrap ((List.getD ([0, 0, 1, 1, 2, 2, 3, 4] : List (Int)) (r1.1 : Int).toNat 0) + (IntKind.i64.wrap ((IntKind.i64.wrap (Int.tdiv r2.1 59)) * 5)))) == 1)) (Option.bind (r_pick_f (x0, r2.2, (if 1 > (List.length x2 : Int) then 1 else (List.length x2 : Int)))) fun r5 => (s_l20Deed_j0 x0 x0 r5.2 0 0 0 (IntKind.i64.wrap ((List.getD ([0, 0, 1, 1, 2, 2, 3, 4] : List (Int)) (r1.1 : Int).toNat 0) + (IntKind.i64.wrap ((IntKind.i64.wrap (Int.tdiv r2.1 59)) * 5)))) r5.1 0)) (cond (((IntKind.i64.wrap ((List.getD ([0, 0, 1, 1, 2, 2, 3, 4] : List (Int)) (r1.1 : Int).toNat 0) + (IntKind.i64.wrap ((IntKind.i64.wrap (Int.tdiv r2.1 59)) * 5)))) == 3)) (Option.bind (r_pick_f (x0, r2.2, 3)) fun r6 => (s_l20Deed_j0 x0 x0 r6.2 0 0 0 (IntKind.i64.wrap ((List.getD ([0, 0, 1, 1, 2, 2, 3, 4] : List (Int)) (r1.1 : Int).toNat 0) + (IntKind.i64.wrap ((IntKind.i64.wrap (Int.tdiv r2.1 59)) * 5)))) (IntKind.i64.wrap (3 + r6.1)) 0)) (s_l20Deed_j0 x0 x0 r2.2 0 0 0 (IntKind.i64.wrap ((List.getD ([0, 0, 1, 1, 2, 2, 3, 4] : List (Int)) (r1.1 : Int).toNat 0) + (IntKind.i64.wrap ((IntKind.i64.wrap (Int.tdiv r2.1 59)) * 5)))) 0 0))))), (Option.bind (r_pick_f (x0, r1.2, 60)) fun r2 => (cond (((IntKind.i64.wrap ((List.getD ([0, 0, 1, 1, 2, 2, 3, 4] : List (Int)) (r1.1 : Int).toNat 0) + (IntKind.i64.wrap ((IntKind.i64.wrap (Int.tdiv r2.1 59)) * 5)))) == 0)) (Option.bind (r_pick_f (x0, r2.2, (if 1 > (List.length x2 : Int) then 1 else (List.length x2 : Int)))) fun r3 => (Option.bind (r_pick_f (x0, r3.2, (if 1 > (List.length x2 : Int) then 1 else (List.length x2 : Int)))) fun r4 => (s_l20Deed_j0 x0 x0 r4.2 0 0 0 (IntKind.i64.wrap ((List.getD ([0, 0, 1, 1, 2, 2, 3, 4] : List (Int)) (r1.1 : Int).toNat 0) + (IntKind.i64.wrap ((IntKind.i64.wrap (Int.tdiv r2.1 59)) * 5)))) r3.1 r4.1))) (cond (((IntKind.i64.wrap ((List.getD ([0, 0, 1, 1, 2, 2, 3, 4] : List (Int)) (r1.1 : Int).toNat 0) + (IntKind.i64.wrap ((IntKind.i64.wrap (Int.tdiv r2.1 59)) * 5)))) == 1)) (Option.bind (r_pick_f (x0, r2.2, (if 1 > (List.length x2 : Int) then 1 else (List.length x2 : Int)))) fun r5 => (s_l20Deed_j0 x0 x0 r5.2 0 0 0 (IntKind.i64.wrap ((List.getD ([0, 0, 1, 1, 2, 2, 3, 4] : List (Int)) (r1.1 : Int).toNat 0) + (IntKind.i64.wrap ((IntKind.i64.wrap (Int.tdiv r2.1 59)) * 5)))) r5.1 0)) (cond (((IntKind.i64.wrap ((List.getD ([0, 0, 1, 1, 2, 2, 3, 4] : List (Int)) (r1.1 : Int).toNat 0) + (IntKind.i64.wrap ((IntKind.i64.wrap (Int.tdiv r2.1 59)) * 5)))) == 3)) (Option.bind (r_pick_f (x0, r2.2, 3)) fun r6 => (s_l20Deed_j0 x0 x0 r6.2 0 0 0 (IntKind.i64.wrap ((List.getD ([0, 0, 1, 1, 2, 2, 3, 4] : List (Int)) (r1.1 : Int).toNat 0) + (IntKind.i64.wrap ((IntKind.i64.wrap (Int.tdiv r2.1 59)) * 5)))) (IntKind.i64.wrap (3 + r6.1)) 0)) (s_l20Deed_j0 x0 x0 r2.2 0 0 0 (IntKind.i64.wrap ((List.getD ([0, 0, 1, 1, 2, 2, 3, 4] : List (Int)) (r1.1 : Int).toNat 0) + (IntKind.i64.wrap ((IntKind.i64.wrap (Int.tdiv r2.1 59)) * 5)))) 0 0)))))]) else none), (Option.bind (r_pick_f (x0, r1.2, 60)) fun r2 => (if (0 : Int) ≤ r1.1 ∧ r1.1 < (List.length ([0, 0, 1, 1, 2, 2, 3, 4] : List (Int)) : Int) then (cond (((IntKind.i64.wrap ((List.getD ([0, 0, 1, 1, 2, 2, 3, 4] : List (Int)) (r1.1 : Int).toNat 0) + (IntKind.i64.wrap ((IntKind.i64.wrap (Int.tdiv r2.1 59)) * 5)))) == 0)) (Option.bind (r_pick_f (x0, r2.2, (if 1 > (List.length x2 : Int) then 1 else (List.length x2 : Int)))) fun r3 => (Option.bind (r_pick_f (x0, r3.2, (if 1 > (List.length x2 : Int) then 1 else (List.length x2 : Int)))) fun r4 => (s_l20Deed_j0 x0 x0 r4.2 0 0 0 (IntKind.i64.wrap ((List.getD ([0, 0, 1, 1, 2, 2, 3, 4] : List (Int)) (r1.1 : Int).toNat 0) + (IntKind.i64.wrap ((IntKind.i64.wrap (Int.tdiv r2.1 59)) * 5)))) r3.1 r4.1))) (cond (((IntKind.i64.wrap ((List.getD ([0, 0, 1, 1, 2, 2, 3, 4] : List (Int)) (r1.1 : Int).toNat 0) + (IntKind.i64.wrap ((IntKind.i64.wrap (Int.tdiv r2.1 59)) * 5)))) == 1)) (Option.bind (r_pick_f (x0, r2.2, (if 1 > (List.length x2 : Int) then 1 else (List.length x2 : Int)))) fun r5 => (s_l20Deed_j0 x0 x0 r5.2 0 0 0 (IntKind.i64.wrap ((List.getD ([0, 0, 1, 1, 2, 2, 3, 4] : List (Int)) (r1.1 : Int).toNat 0) + (IntKind.i64.wrap ((IntKind.i64.wrap (Int.tdiv r2.1 59)) * 5)))) r5.1 0)) (cond (((IntKind.i64.wrap ((List.getD ([0, 0, 1, 1, 2, 2, 3, 4] : List (Int)) (r1.1 : Int).toNat 0) + (IntKind.i64.wrap ((IntKind.i64.wrap (Int.tdiv r2.1 59)) * 5)))) == 3)) (Option.bind (r_pick_f (x0, r2.2, 3)) fun r6 => (s_l20Deed_j0 x0 x0 r6.2 0 0 0 (IntKind.i64.wrap ((List.getD ([0, 0, 1, 1, 2, 2, 3, 4] : List (Int)) (r1.1 : Int).toNat 0) + (IntKind.i64.wrap ((IntKind.i64.wrap (Int.tdiv r2.1 59)) * 5)))) (IntKind.i64.wrap (3 + r6.1)) 0)) (s_l20Deed_j0 x0 x0 r2.2 0 0 0 (IntKind.i64.wrap ((List.getD ([0, 0, 1, 1, 2, 2, 3, 4] : List (Int)) (r1.1 : Int).toNat 0) + (IntKind.i64.wrap ((IntKind.i64.wrap (Int.tdiv r2.1 59)) * 5)))) 0 0)))) else none))]), (Option.bind (r_pick_f (x0, r1.2, 60)) fun r2 => (if (0 : Int) ≤ r1.1 ∧ r1.1 < (List.length ([0, 0, 1, 1, 2, 2, 3, 4] : List (Int)) : Int) then (cond (((IntKind.i64.wrap ((List.getD ([0, 0, 1, 1, 2, 2, 3, 4] : List (Int)) (r1.1 : Int).toNat 0) + (IntKind.i64.wrap ((IntKind.i64.wrap (Int.tdiv r2.1 59)) * 5)))) == 0)) (Option.bind (r_pick_f (x0, r2.2, (if 1 > (List.length x2 : Int) then 1 else (List.length x2 : Int)))) fun r3 => (Option.bind (r_pick_f (x0, r3.2, (if 1 > (List.length x2 : Int) then 1 else (List.length x2 : Int)))) fun r4 => (s_l20Deed_j0 x0 x0 r4.2 0 0 0 (IntKind.i64.wrap ((List.getD ([0, 0, 1, 1, 2, 2, 3, 4] : List (Int)) (r1.1 : Int).toNat 0) + (IntKind.i64.wrap ((IntKind.i64.wrap (Int.tdiv r2.1 59)) * 5)))) r3.1 r4.1))) (cond (((IntKind.i64.wrap ((List.getD ([0, 0, 1, 1, 2, 2, 3, 4] : List (Int)) (r1.1 : Int).toNat 0) + (IntKind.i64.wrap ((IntKind.i64.wrap (Int.tdiv r2.1 59)) * 5)))) == 1)) (Option.bind (r_pick_f (x0, r2.2, (if 1 > (List.length x2 : Int) then 1 else (List.length x2 : Int)))) fun r5 => (s_l20Deed_j0 x0 x0 r5.2 0 0 0 (IntKind.i64.wrap ((List.getD ([0, 0, 1, 1, 2, 2, 3, 4] : List (Int)) (r1.1 : Int).toNat 0) + (IntKind.i64.wrap ((IntKind.i64.wrap (Int.tdiv r2.1 59)) * 5)))) r5.1 0)) (cond (((IntKind.i64.wrap ((List.getD ([0, 0, 1, 1, 2, 2, 3, 4] : List (Int)) (r1.1 : Int).toNat 0) + (IntKind.i64.wrap ((IntKind.i64.wrap (Int.tdiv r2.1 59)) * 5)))) == 3)) (Option.bind (r_pick_f (x0, r2.2, 3)) fun r6 => (s_l20Deed_j0 x0 x0 r6.2 0 0 0 (IntKind.i64.wrap ((List.getD ([0, 0, 1, 1, 2, 2, 3, 4] : List (Int)) (r1.1 : Int).toNat 0) + (IntKind.i64.wrap ((IntKind.i64.wrap (Int.tdiv r2.1 59)) * 5)))) (IntKind.i64.wrap (3 + r6.1)) 0)) (s_l20Deed_j0 x0 x0 r2.2 0 0 0 (IntKind.i64.wrap ((List.getD ([0, 0, 1, 1, 2, 2, 3, 4] : List (Int)) (r1.1 : Int).toNat 0) + (IntKind.i64.wrap ((IntKind.i64.wrap (Int.tdiv r2.1 59)) * 5)))) 0 0)))) else none))]))])])) (by kernel_rfl) ?_
  simp only [same2, same3, same4, same5, same6, obind_ite]
theorem s_l20Deed_j0_eq (b : List Int) (y0 : List (Int)) (y1 : Int) (y2 : Int) (y3 : Int) (y4 : Int) (y5 : Int) (y6 : Int) (y7 : Int) : s_l20Deed_j0 b y0 y1 y2 y3 y4 y5 y6 y7 = (Option.bind (r_odd_f (y0, y1, 40)) fun r1 => (cond (r1.1) (Option.bind (r_pick_f (y0, r1.2, 2)) fun r2 => (cond ((r2.1 == 0)) (Option.bind (r_pick_f (y0, r2.2, 2)) fun r3 => (if (0 : Int) ≤ r3.1 ∧ r3.1 < (List.length ([(-1), 100] : List (Int)) : Int) then (if 79 = 79 ∧ y0 = b then (some (y5, (List.getD ([(-1), 100] : List (Int)) (r3.1 : Int).toNat 0), y7, r3.2)) else none) else none)) (if 79 = 79 ∧ y0 = b then (some (y5, y6, 99, r2.2)) else none))) (if 79 = 79 ∧ y0 = b then (some (y5, y6, y7, r1.2)) else none))) := by
  kernel_rfl
theorem s_l20Deed_ent : Entb Try.prog 60 := ⟨Try.f60, by kernel_rfl, by kernel_rfl, by kernel_rfl⟩
theorem s_l20Deed_ok : CtrOk Try.prog 60 ⟨s_l20Deed_sig, s_l20Deed_f⟩ :=
  ctr_of (fn := Try.f60) (by kernel_rfl) (by kernel_rfl) (fun x : Ts s_l20Deed_sig.pc => s_l20Deed_E x.1) (fun x => ⟨(fn_cons ⟨r_pick_ok, r_pick_ent⟩ (fn_cons ⟨r_odd_ok, r_odd_ent⟩ fn_none)), clo_none, wr_none⟩) (fun _ x => ⟨rfl, fun b ps h => rd_head h⟩) follows_ (fun _ _ => trivial)
end FN
set_option linter.unusedVariables false
namespace FN
open Go Go.Proofs
/-! loop.example/firingnets/spec.DeskDo -/
@[reducible] def s_DeskDoO_sig : Sig := { ps := [some 4, some 3], pc := [.view .i64, .int .i64, .view .i64, .view .place, .int .i64, .int .i64, .int .i64], rs := [some 4, none], rc := [.fview .i64, .int .i64, .fview .i64, .row 26 .place, .bool] }
noncomputable def s_DeskDoO_E : Env' := { fn := fun f => if f = 18 then some ⟨s_DeskOk_sig, s_DeskOk_f⟩ else if f = 33 then some ⟨s_PlaceOk_sig, s_PlaceOk_f⟩ else if f = 70 then some ⟨s_l15Copy_sig, s_l15Copy_f⟩ else if f = 71 then some ⟨s_l15Made_sig, s_l15Made_f⟩ else if f = 72 then some ⟨s_PlaceText_sig, s_PlaceText_f⟩ else none, ck := ckT, cuts := [(15, [4, 6, 8])], mine := fun i => i == 10 || i == 14 || i == 37 || i == 43 || i == 45 || i == 49 || i == 52 || i == 69 }
noncomputable def s_DeskDoO_f (x : Ts s_DeskDoO_sig.pc) : Option (Ts s_DeskDoO_sig.rc) := runFn Try.prog (s_DeskDoO_E) Try.f59 s_DeskDoO_sig x
noncomputable def s_DeskDoO_j0 (y0 : Int) (y1 : Int) (y2 : List (List Int × Int × List Int)) (y3 : Int) (y4 : List (Int)) (y5 : List (Int)) : Option ((List (Int)) × (Int) × (List (Int)) × (List (List Int × Int × List Int)) × (Bool)) := from_ Try.prog (s_DeskDoO_E) Try.f59 s_DeskDoO_sig [1, 1, 1, 1, 1, 1, 1, 1] ⟨mkT 74 [(4, .ptr 0 0), (6, .ptr 1 0), (8, .ptr 2 0)], [some (.box 29 [.nilS, .int .i64 y0, .nilS, .nilS]), some (.box 29 [.junk, .int .i64 y1, .junk, .row true .place y2]), some (.box 26 [.own 3, .int .i64 y3, .own 4]), some (.arr 3 true .i64 y4), some (.arr 3 true .i64 y5)]⟩
noncomputable def s_DeskDoO_j1 (y0 : Int) (y1 : Int) (y2 : Int) (y3 : List (List Int × Int × List Int)) (y4 : List (Int)) (y5 : List (Int)) : Option ((List (Int)) × (Int) × (List (Int)) × (List (List Int × Int × List Int)) × (Bool)) := from_ Try.prog (s_DeskDoO_E) Try.f59 s_DeskDoO_sig [1, 1, 1, 1, 1, 1, 1, 1] ⟨mkT 74 [(4, .ptr 0 0), (6, .ptr 1 0), (8, .ptr 2 0)], [some (.box 29 [.nilS, .int .i64 y0, .nilS, .nilS]), some (.box 29 [.junk, .int .i64 y1, .junk, .own 3]), some (.box 26 [.own 4, .int .i64 y2, .own 5]), some (.arr 26 true .place y3), some (.arr 3 true .i64 y4), some (.arr 3 true .i64 y5)]⟩
theorem s_DeskDoO_f_eq (x0 : (List (Int))) (x1 : (Int)) (x2 : (List (Int))) (x3 : (List (List Int × Int × List Int))) (x4 : (Int)) (x5 : (Int)) (x6 : (Int)) : s_DeskDoO_f (x0, x1, x2, x3, x4, x5, x6) = (Option.bind (s_DeskOk_f (x0, x1, x2, x3)) fun r1 => (cond ((!r1)) (some ([], 0, [], [], false)) (Option.bind (s_l15Copy_f (x0, x1, x2, x3)) fun r2 => (cond (((x4 == 4) && ((x5 == 0) && ((x6 == 0) && true)))) (cond ((decide (0 < (List.length x3 : Int)))) (if (0 : Int) ≤ (IntKind.i64.wrap ((List.length r2.2.2.2 : Int) - 1)) ∧ (IntKind.i64.wrap ((List.length r2.2.2.2 : Int) - 1)) < (List.length r2.2.2.2 : Int) then (if (0 : Int) ≤ (IntKind.i64.wrap ((List.length r2.2.2.2 : Int) - 1)) ∧ (IntKind.i64.wrap ((List.length r2.2.2.2 : Int) - 1)) ≤ (List.length r2.2.2.2 : Int) then (some ((List.getD r2.2.2.2 ((IntKind.i64.wrap ((List.length r2.2.2.2 : Int) - 1)) : Int).toNat ([], 0, [])).1, (List.getD r2.2.2.2 ((IntKind.i64.wrap ((List.length r2.2.2.2 : Int) - 1)) : Int).toNat ([], 0, [])).2.1, (List.getD r2.2.2.2 ((IntKind.i64.wrap ((List.length r2.2.2.2 : Int) - 1)) : Int).toNat ([], 0, [])).2.2, (List.take ((IntKind.i64.wrap ((List.length r2.2.2.2 : Int) - 1)) : Int).toNat r2.2.2.2), true)) else none) else none) (Option.bind (s_l15Made_f (x0, x1, x2, x4, x5, x6)) fun r3 => (Option.bind (s_PlaceOk_f (r3.1, r3.2.1, r3.2.2)) fun r4 => (cond ((!r4)) (some (r2.1, r2.2.1, r2.2.2.1, r2.2.2.2, false)) (Option.bind (s_PlaceText_f (r3.1, r3.2.1, r3.2.2)) fun r5 => (Option.bind (s_PlaceText_f (x0, x1, x2)) fun r6 => (cond ((ByteArray.toList r5 == ByteArray.toList r6)) (some (r2.1, r2.2.1, r2.2.2.1, r2.2.2.2, false)) (if (List.length r2.2.2.2 + List.length ([(r2.1, r2.2.1, r2.2.2.1)] : List (List Int × Int × List Int))) * 56 ≤ 140737488355328 then (cond ((decide (8 < (List.length (r2.2.2.2 ++ ([(r2.1, r2.2.1, r2.2.2.1)] : List (List Int × Int × List Int))) : Int)))) (if (0 : Int) ≤ 1 ∧ 1 ≤ (List.length (r2.2.2.2 ++ ([(r2.1, r2.2.1, r2.2.2.1)] : List (List Int × Int × List Int))) : Int) then (s_DeskDoO_j0 0 r2.2.1 (List.drop (1 : Int).toNat (List.take ((List.length (r2.2.2.2 ++ ([(r2.1, r2.2.1, r2.2.2.1)] : List (List Int × Int × List Int))))) (r2.2.2.2 ++ ([(r2.1, r2.2.1, r2.2.2.1)] : List (List Int × Int × List Int))))) r3.2.1 r3.1 r3.2.2) else none) (s_DeskDoO_j1 0 r2.2.1 r3.2.1 (r2.2.2.2 ++ ([(r2.1, r2.2.1, r2.2.2.1)] : List (List Int × Int × List Int))) r3.1 r3.2.2)) else none)))))))) (Option.bind (s_l15Made_f (x0, x1, x2, x4, x5, x6)) fun r7 => (Option.bind (s_PlaceOk_f (r7.1, r7.2.1, r7.2.2)) fun r8 => (cond ((!r8)) (some (r2.1, r2.2.1, r2.2.2.1, r2.2.2.2, false)) (Option.bind (s_PlaceText_f (r7.1, r7.2.1, r7.2.2)) fun r9 => (Option.bind (s_PlaceText_f (x0, x1, x2)) fun r10 => (cond ((ByteArray.toList r9 == ByteArray.toList r10)) (some (r2.1, r2.2.1, r2.2.2.1, r2.2.2.2, false)) (if (List.length r2.2.2.2 + List.length ([(r2.1, r2.2.1, r2.2.2.1)] : List (List Int × Int × List Int))) * 56 ≤ 140737488355328 then (cond ((decide (8 < (List.length (r2.2.2.2 ++ ([(r2.1, r2.2.1, r2.2.2.1)] : List (List Int × Int × List Int))) : Int)))) (if (0 : Int) ≤ 1 ∧ 1 ≤ (List.length (r2.2.2.2 ++ ([(r2.1, r2.2.1, r2.2.2.1)] : List (List Int × Int × List Int))) : Int) then (s_DeskDoO_j0 0 r2.2.1 (List.drop (1 : Int).toNat (List.take ((List.length (r2.2.2.2 ++ ([(r2.1, r2.2.1, r2.2.2.1)] : List (List Int × Int × List Int))))) (r2.2.2.2 ++ ([(r2.1, r2.2.1, r2.2.2.1)] : List (List Int × Int × List Int))))) r7.2.1 r7.1 r7.2.2) else none) (s_DeskDoO_j1 0 r2.2.1 r7.2.1 (r2.2.2.2 ++ ([(r2.1, r2.2.1, r2.2.2.1)] : List (List Int × Int × List Int))) r7.1 r7.2.2)) else none))))))))))) := by
  kernel_rfl
theorem s_DeskDoO_j0_eq (y0 : Int) (y1 : Int) (y2 : List (List Int × Int × List Int)) (y3 : Int) (y4 : List (Int)) (y5 : List (Int)) : s_DeskDoO_j0 y0 y1 y2 y3 y4 y5 = none := by
  kernel_rfl
theorem s_DeskDoO_j1_eq (y0 : Int) (y1 : Int) (y2 : Int) (y3 : List (List Int × Int × List Int)) (y4 : List (Int)) (y5 : List (Int)) : s_DeskDoO_j1 y0 y1 y2 y3 y4 y5 = (some (y4, y2, y5, y3, true)) := by
  kernel_rfl
theorem s_DeskDoO_ent : Entb Try.prog 59 := ⟨Try.f59, by kernel_rfl, by kernel_rfl, by kernel_rfl⟩
theorem s_DeskDoO_ok : CtrOk Try.prog 59 ⟨s_DeskDoO_sig, s_DeskDoO_f⟩ :=
  ctr_of (fn := Try.f59) (by kernel_rfl) (by kernel_rfl) (fun x : Ts s_DeskDoO_sig.pc => s_DeskDoO_E) (fun x => ⟨(fn_cons ⟨s_DeskOk_ok, s_DeskOk_ent⟩ (fn_cons ⟨s_PlaceOk_ok, s_PlaceOk_ent⟩ (fn_cons ⟨s_l15Copy_ok, s_l15Copy_ent⟩ (fn_cons ⟨s_l15Made_ok, s_l15Made_ent⟩ (fn_cons ⟨s_PlaceText_ok, s_PlaceText_ent⟩ fn_none))))), clo_none, wr_none⟩) (fun h => by cases h) follows_ (fun _ _ => trivial)
end FN
set_option linter.unusedVariables false
namespace FN
open Go Go.Proofs
/-! loop.example/firingnets/spec.l20Desk -/
@[reducible] def s_l20Desk_sig : Sig := { rd := some 79, ps := [none], pc := [.view .u8, .int .i64, .int .i64], rs := [some 4], rc := [.fview .i64, .int .i64, .fview .i64, .row 26 .place, .int .i64] }
noncomputable def s_l20Desk_E (b : List Int) : Env' := { keep := [0], rdb := b, fn := fun f => if f = 8 then some ⟨s_DeskNew_sig, s_DeskNew_f⟩ else if f = 57 then some ⟨s_l20Place_sig, s_l20Place_f⟩ else if f = 58 then some ⟨r_pick_sig, r_pick_f⟩ else if f = 59 then some ⟨s_DeskDoO_sig, s_DeskDoO_f⟩ else if f = 60 then some ⟨s_l20Deed_sig, s_l20Deed_f⟩ else if f = 61 then some ⟨r_odd_sig, r_odd_f⟩ else none, ck := ckT, cuts := [(3, [0, 1, 4, 5, 7]), (8, [0, 1, 4, 5])], mine := fun i => i == 12 || i == 13 || i == 17 || i == 27 || i == 28 || i == 35 || i == 37 }
noncomputable def s_l20Desk_f (x : Ts s_l20Desk_sig.pc) : Option (Ts s_l20Desk_sig.rc) := runFn Try.prog (s_l20Desk_E x.1) Try.f41 s_l20Desk_sig x
noncomputable def s_l20Desk_l0 (b : List Int) (y0 : Int) (y1 : Int) (y2 : List (Int)) (y3 : Int) (y4 : Int) (y5 : List (Int)) (y6 : Int) (y7 : List (Int)) (y8 : List (List Int × Int × List Int)) : Option ((List (Int)) × (Int) × (List (Int)) × (List (List Int × Int × List Int)) × (Int)) := from_ Try.prog (s_l20Desk_E b) Try.f41 s_l20Desk_sig [1, 1, 0, 1, 0] ⟨mkT 52 [(0, .ptr 0 0), (1, .int .i64 y0), (4, .ptr 1 0), (5, .ptr 2 0), (7, .int .i64 y1)], [some (.box 79 [.row false .u8 y2, .int .i64 y3]), some (.box 29 [.nilS, .int .i64 y4, .nilS, .nilS]), some (.box 29 [.row true .i64 y5, .int .i64 y6, .row true .i64 y7, .own 3]), some (.arr 26 true .place y8)]⟩
noncomputable def s_l20Desk_j1 (b : List Int) (y0 : Int) (y1 : List (Int)) (y2 : Int) (y3 : Int) (y4 : List (Int)) (y5 : Int) (y6 : List (Int)) (y7 : List (List Int × Int × List Int)) : Option ((List (Int)) × (Int) × (List (Int)) × (List (List Int × Int × List Int)) × (Int)) := from_ Try.prog (s_l20Desk_E b) Try.f41 s_l20Desk_sig [1, 1, 1] ⟨mkT 52 [(0, .ptr 0 0), (1, .int .i64 y0), (4, .ptr 1 0), (5, .ptr 2 0)], [some (.box 79 [.row false .u8 y1, .int .i64 y2]), some (.box 29 [.nilS, .int .i64 y3, .nilS, .nilS]), some (.box 29 [.row true .i64 y4, .int .i64 y5, .row true .i64 y6, .own 3]), some (.arr 26 true .place y7)]⟩
theorem s_l20Desk_f_eq (x0 : (List (Int))) (x1 : (Int)) (x2 : (Int)) : s_l20Desk_f (x0, x1, x2) = (Option.bind (s_l20Place_f (x0, x1, 0)) fun r1 => (Option.bind (s_DeskNew_f (r1.1, r1.2.1, r1.2.2.1)) fun r2 => (Option.bind (r_pick_f (x0, r1.2.2.2, 5)) fun r3 => (s_l20Desk_l0 x0 x2 r3.1 x0 r3.2 0 r2.1 r2.2.1 r2.2.2.1 r2.2.2.2.1)))) := by
  kernel_rfl
theorem s_l20Desk_l0_eq (b : List Int) (y0 : Int) (y1 : Int) (y2 : List (Int)) (y3 : Int) (y4 : Int) (y5 : List (Int)) (y6 : Int) (y7 : List (Int)) (y8 : List (List Int × Int × List Int)) : s_l20Desk_l0 b y0 y1 y2 y3 y4 y5 y6 y7 y8 = (cond ((decide (0 < y1))) (Option.bind (s_l20Deed_f (y2, y3, y5, y6, y7)) fun r1 => (Option.bind (s_DeskDoO_f (y5, y6, y7, y8, r1.1, r1.2.1, r1.2.2.1)) fun r2 => (cond (r2.2.2.2.2) (s_l20Desk_l0 b y0 (IntKind.i64.wrap (y1 - 1)) y2 r1.2.2.2 y4 r2.1 r2.2.1 r2.2.2.1 r2.2.2.2.1) (s_l20Desk_l0 b y0 (IntKind.i64.wrap (y1 - 1)) y2 r1.2.2.2 y4 y5 y6 y7 y8)))) (s_l20Desk_j1 b y0 y2 y3 y4 y5 y6 y7 y8)) := by
  refine (loopK_eq Try.prog (s_l20Desk_E b) (sub (Try.f41.body.getD .skip) [1, 1, 0, 1, 0, 0]) _ _).trans ?_
  refine Eq.trans (b := (cond ((decide (0 < y1))) (same [(Option.bind (s_l20Deed_f (y2, y3, y5, y6, y7)) fun r1 => (same [(Option.bind (s_DeskDoO_f (y5, y6, y7, y8, r1.1, r1.2.1, r1.2.2.1)) fun r2 => (cond (r2.2.2.2.2) (s_l20Desk_l0 b y0 (IntKind.i64.wrap (y1 - 1)) y2 r1.2.2.2 y4 r2.1 r2.2.1 r2.2.2.1 r2.2.2.2.1) (s_l20Desk_l0 b y0 (IntKind.i64.wrap (y1 - 1)) y2 r1.2.2.2 y4 y5 y6 y7 y8))), (Option.bind (s_DeskDoO_f (y5, y6, y7, y8, r1.1, r1.2.1, r1.2.2.1)) fun r2 => (cond (r2.2.2.2.2) (s_l20Desk_l0 b y0 (IntKind.i64.wrap (y1 - 1)) y2 r1.2.2.2 y4 r2.1 r2.2.1 r2.2.2.1 r2.2.2.2.1) (s_l20Desk_l0 b y0 (IntKind.i64.wrap (y1 - 1)) y2 r1.2.2.2 y4 y5 y6 y7 y8)))])), (Option.bind (s_l20Deed_f (y2, y3, y5, y6, y7)) fun r1 => (Option.bind (s_DeskDoO_f (y5, y6, y7, y8, r1.1, r1.2.1, r1.2.2.1)) fun r2 => (cond (r2.2.2.2.2) (s_l20Desk_l0 b y0 (IntKind.i64.wrap (y1 - 1)) y2 r1.2.2.2 y4 r2.1 r2.2.1 r2.2.2.1 r2.2.2.2.1) (s_l20Desk_l0 b y0 (IntKind.i64.wrap (y1 - 1)) y2 r1.2.2.2 y4 y5 y6 y7 y8))))]) (s_l20Desk_j1 b y0 y2 y3 y4 y5 y6 y7 y8))) (by kernel_rfl) ?_
  simp only [same2, same3, same4, same5, same6, obind_ite]
theorem s_l20Desk_j1_eq (b : List Int) (y0 : Int) (y1 : List (Int)) (y2 : Int) (y3 : Int) (y4 : List (Int)) (y5 : Int) (y6 : List (Int)) (y7 : List (List Int × Int × List Int)) : s_l20Desk_j1 b y0 y1 y2 y3 y4 y5 y6 y7 = (Option.bind (r_odd_f (y1, y2, y0)) fun r1 => (cond (r1.1) (Option.bind (r_pick_f (y1, r1.2, 3)) fun r2 => (cond ((r2.1 == 0)) (if 79 = 79 ∧ y1 = b then (some (y4, 2, y6, y7, r2.2)) else none) (cond ((r2.1 == 1)) (if (List.length y7 + List.length ([([], 0, [])] : List (List Int × Int × List Int))) * 56 ≤ 140737488355328 then (if 79 = 79 ∧ y1 = b then (some (y4, y5, y6, (y7 ++ ([([], 0, [])] : List (List Int × Int × List Int))), r2.2)) else none) else none) (if 79 = 79 ∧ y1 = b then (some ([], 0, [], [], r2.2)) else none)))) (if 79 = 79 ∧ y1 = b then (some (y4, y5, y6, y7, r1.2)) else none))) := by
  kernel_rfl
theorem s_l20Desk_ent : Entb Try.prog 41 := ⟨Try.f41, by kernel_rfl, by kernel_rfl, by kernel_rfl⟩
theorem s_l20Desk_ok : CtrOk Try.prog 41 ⟨s_l20Desk_sig, s_l20Desk_f⟩ :=
  ctr_of (fn := Try.f41) (by kernel_rfl) (by kernel_rfl) (fun x : Ts s_l20Desk_sig.pc => s_l20Desk_E x.1) (fun x => ⟨(fn_cons ⟨s_DeskNew_ok, s_DeskNew_ent⟩ (fn_cons ⟨s_l20Place_ok, s_l20Place_ent⟩ (fn_cons ⟨r_pick_ok, r_pick_ent⟩ (fn_cons ⟨s_DeskDoO_ok, s_DeskDoO_ent⟩ (fn_cons ⟨s_l20Deed_ok, s_l20Deed_ent⟩ (fn_cons ⟨r_odd_ok, r_odd_ent⟩ fn_none)))))), clo_none, wr_none⟩) (fun _ x => ⟨rfl, fun b ps h => rd_head h⟩) follows_ (fun _ _ => trivial)
end FN
set_option linter.unusedVariables false
namespace FN
open Go Go.Proofs
/-! loop.example/firingnets/spec.DrawDeskOk -/
@[reducible] def s_DrawDeskOk_sig : Sig := { ps := [none], pc := [.view .u8], rs := [some 4], rc := [.fview .i64, .int .i64, .fview .i64, .row 26 .place] }
noncomputable def s_DrawDeskOk_E : Env' := { fn := fun f => if f = 41 then some ⟨s_l20Desk_sig, s_l20Desk_f⟩ else if f = 42 then some ⟨s_l20Open_sig, s_l20Open_f⟩ else none, ck := ckT, cuts := [], mine := fun i => i == 4 || i == 5 }
noncomputable def s_DrawDeskOk_f (x : Ts s_DrawDeskOk_sig.pc) : Option (Ts s_DrawDeskOk_sig.rc) := runFn Try.prog (s_DrawDeskOk_E) Try.f16 s_DrawDeskOk_sig x
theorem s_DrawDeskOk_f_eq (x0 : (List (Int))) : s_DrawDeskOk_f x0 = (Option.bind (s_l20Open_f x0) fun r1 => (Option.bind (s_l20Desk_f (r1.1, r1.2, 2)) fun r2 => (some (r2.1, r2.2.1, r2.2.2.1, r2.2.2.2.1)))) := by
  kernel_rfl
theorem s_DrawDeskOk_ent : Entb Try.prog 16 := ⟨Try.f16, by kernel_rfl, by kernel_rfl, by kernel_rfl⟩
theorem s_DrawDeskOk_ok : CtrOk Try.prog 16 ⟨s_DrawDeskOk_sig, s_DrawDeskOk_f⟩ :=
  ctr_of (fn := Try.f16) (by kernel_rfl) (by kernel_rfl) (fun x : Ts s_DrawDeskOk_sig.pc => s_DrawDeskOk_E) (fun x => ⟨(fn_cons ⟨s_l20Desk_ok, s_l20Desk_ent⟩ (fn_cons ⟨s_l20Open_ok, s_l20Open_ent⟩ fn_none)), clo_none, wr_none⟩) (fun h => by cases h) follows_ (fun _ _ => trivial)
end FN
set_option linter.unusedVariables false
namespace FN
open Go Go.Proofs
/-! loop.example/firingnets/laws.FnDeskOk -/
@[reducible] def w_FnDeskOk_sig : Sig := { ps := [none], pc := [.view .u8], rs := [none], rc := [.bool] }
noncomputable def w_FnDeskOk_E : Env' := { fn := fun f => if f = 16 then some ⟨s_DrawDeskOk_sig, s_DrawDeskOk_f⟩ else if f = 17 then some ⟨i_DeskOk_sig, i_DeskOk_f⟩ else if f = 18 then some ⟨s_DeskOk_sig, s_DeskOk_f⟩ else if f = 19 then some ⟨w_alive_sig, w_alive_f⟩ else none, ck := ckT, cuts := [], mine := fun i => false }
noncomputable def w_FnDeskOk_f (x : Ts w_FnDeskOk_sig.pc) : Option (Ts w_FnDeskOk_sig.rc) := runFn Try.prog (w_FnDeskOk_E) Try.f4 w_FnDeskOk_sig x
theorem w_FnDeskOk_f_eq (x0 : (List (Int))) : w_FnDeskOk_f x0 = (cond ((decide (1048576 < (List.length x0 : Int)))) (some true) (Option.bind (s_DrawDeskOk_f x0) fun r1 => (Option.bind (i_DeskOk_f (r1.1, r1.2.1, r1.2.2.1, r1.2.2.2)) fun r2 => (Option.bind (s_DeskOk_f (r1.1, r1.2.1, r1.2.2.1, r1.2.2.2)) fun r3 => (cond ((!(r2 == r3))) (some false) (cond ((!r2)) (Option.bind (i_DeskOk_f ([], 0, [], [])) fun r4 => (cond ((!r4)) (Option.bind (w_alive_f ()) fun r5 => (some r5)) (some false))) (Option.bind (i_DeskOk_f (r1.1, r1.2.1, r1.2.2.1, [])) fun r6 => (cond (r6) (Option.bind (i_DeskOk_f ([], 0, [], [])) fun r7 => (cond ((!r7)) (Option.bind (w_alive_f ()) fun r8 => (some r8)) (some false))) (some false))))))))) := by
  kernel_rfl
theorem w_FnDeskOk_ent : Entb Try.prog 4 := ⟨Try.f4, by kernel_rfl, by kernel_rfl, by kernel_rfl⟩
theorem w_FnDeskOk_ok : CtrOk Try.prog 4 ⟨w_FnDeskOk_sig, w_FnDeskOk_f⟩ :=
  ctr_of (fn := Try.f4) (by kernel_rfl) (by kernel_rfl) (fun x : Ts w_FnDeskOk_sig.pc => w_FnDeskOk_E) (fun x => ⟨(fn_cons ⟨s_DrawDeskOk_ok, s_DrawDeskOk_ent⟩ (fn_cons ⟨i_DeskOk_ok, i_DeskOk_ent⟩ (fn_cons ⟨s_DeskOk_ok, s_DeskOk_ent⟩ (fn_cons ⟨w_alive_ok, w_alive_ent⟩ fn_none)))), clo_none, wr_none⟩) (fun h => by cases h) follows_ (fun _ _ => trivial)
end FN
