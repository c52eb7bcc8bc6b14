/- Texts of the proof, joined: The functions, their equations and contracts. -/
import Derived.KernelRfl
import Derived.Test.YtjdmcbehegbfjaaProg
import Derived.Test.YtjdmcbehegbfjaaA1
set_option linter.unusedVariables false
set_option linter.unusedSimpArgs false
set_option linter.unusedSectionVars false
namespace FN
open Go Go.Proofs
def mkT (n : Nat) (l : List (Nat × PV)) : List PV := (List.range n).map fun i => (l.lookup i).getD .junk
def ckT (t : TypeId) : Option CK := if t = 3 then some .i64 else if t = 5 then some .u8 else if t = 24 then some .place else if t = 30 then some .place else none
instance : Gl := ⟨fun _ => True, fun _ => True, fun _ _ _ _ _ => trivial⟩
theorem follows_ : Try.prog.follows .mixedOrders = true := by kernel_rfl
theorem rd_head {x b : List Int} {l ps : List PV} (h : (PV.row false .u8 x :: l) = PV.row false .u8 b :: ps) : x = b := by
  injection h with h _
  injection h
theorem fn_none {P : Program} : ∀ (f : FuncId) (c : Ctr'), (none : Option Ctr') = some c → CtrOk P f c ∧ Entb P f := fun _ _ h => by cases h
theorem fn_cons {P : Program} {f0 : FuncId} {c0 : Ctr'} (h0 : CtrOk P f0 c0 ∧ Entb P f0) {g : FuncId → Option Ctr'} (hg : ∀ f c, g f = some c → CtrOk P f c ∧ Entb P f) : ∀ f c, (if f = f0 then some c0 else g f) = some c → CtrOk P f c ∧ Entb P f := by
  intro f c h
  split at h
  · rename_i e; injection h with h; subst e; subst h; exact h0
  · exact hg f c h
theorem lim_some {α : Type} {g : Nat → Option α} {r : α} (h : lim g = some r) : ∃ n, g n = some r := by
  unfold lim at h
  split at h
  · exact ⟨_, h⟩
  · cases h
theorem lim_of {α : Type} {g : Nat → Option α} {v : α} (h : ∃ n, g n = some v) (u : ∀ n r, g n = some r → r = v) : lim g = some v := by
  obtain ⟨n, hn⟩ := h
  have hx : ∃ n r, g n = some r := ⟨n, v, hn⟩
  obtain ⟨r, hr⟩ := hx.choose_spec
  have : lim g = g hx.choose := dif_pos hx
  rw [this, hr, u _ r hr]
theorem clo_none {P : Program} {E : Env'} (h : E.clo = fun _ _ _ _ _ => none := by rfl) : CloOk P E := by
  intro f ps hp h' pin base w ρ args hc
  rw [h] at hc
  cases hc
def str0 : ByteArray := ⟨#[44]⟩
def str1 : ByteArray := ⟨#[46]⟩
def str2 : ByteArray := ⟨#[32]⟩
end FN
set_option linter.unusedVariables false
namespace FN
open Go Go.Proofs
/-! loop.example/firingnets/spec.l1In -/
@[reducible] def s_l1In_sig : Sig := { ps := [none, none, none], pc := [.int .i64, .int .i64, .int .i64], rs := [none], rc := [.bool] }
noncomputable def s_l1In_E : Env' := { fn := fun f => none, ck := ckT, cuts := [], mine := fun i => false }
noncomputable def s_l1In_f (x : Ts s_l1In_sig.pc) : Option (Ts s_l1In_sig.rc) := runFn Try.prog (s_l1In_E) Try.f63 s_l1In_sig x
theorem s_l1In_f_eq (x0 : (Int)) (x1 : (Int)) (x2 : (Int)) : s_l1In_f (x0, x1, x2) = (cond ((decide (x1 ≤ x0))) (some (decide (x0 ≤ x2))) (some false)) := by
  kernel_rfl
theorem s_l1In_ent : Entb Try.prog 63 := ⟨Try.f63, by kernel_rfl, by kernel_rfl, by kernel_rfl⟩
theorem s_l1In_ok : CtrOk Try.prog 63 ⟨s_l1In_sig, s_l1In_f⟩ :=
  ctr_of (fn := Try.f63) (by kernel_rfl) (by kernel_rfl) (fun x : Ts s_l1In_sig.pc => s_l1In_E) (fun x => ⟨fn_none, clo_none⟩) (fun h => by cases h) follows_ (fun _ _ => trivial)
end FN
set_option linter.unusedVariables false
namespace FN
open Go Go.Proofs
/-! loop.example/firingnets/impl.NetOk -/
@[reducible] def i_NetOk_sig : Sig := { ps := [none], pc := [.view .i64], rs := [none], rc := [.bool] }
noncomputable def i_NetOk_E : Env' := { fn := fun f => none, ck := ckT, cuts := [(4, [0, 14, 15, 16]), (9, [0, 3, 4, 14, 15, 16, 38, 39])], mine := fun i => false }
noncomputable def i_NetOk_f (x : Ts i_NetOk_sig.pc) : Option (Ts i_NetOk_sig.rc) := runFn Try.prog (i_NetOk_E) Try.f43 i_NetOk_sig x
noncomputable def i_NetOk_l0 (y0 : List (Int)) (y1 : List (Int)) (y2 : Int) (y3 : Int) : Option ((Bool)) := from_ Try.prog (i_NetOk_E) Try.f43 i_NetOk_sig [1, 1, 0, 1, 0] ⟨mkT 56 [(0, .row false .i64 y0), (14, .row false .i64 y1), (15, .int .i64 y2), (16, .int .i64 y3)], []⟩
noncomputable def i_NetOk_l1 (y0 : List (Int)) (y1 : Int) (y2 : Int) (y3 : List (Int)) (y4 : Int) (y5 : Int) (y6 : Int) (y7 : Int) : Option ((Bool)) := from_ Try.prog (i_NetOk_E) Try.f43 i_NetOk_sig [1, 1, 0, 1, 0, 0, 1, 1, 0, 0, 1, 1, 1, 0] ⟨mkT 56 [(0, .row false .i64 y0), (3, .int .i64 y1), (4, .int .i64 y2), (14, .row false .i64 y3), (15, .int .i64 y4), (16, .int .i64 y5), (38, .int .i64 y6), (39, .int .i64 y7)], []⟩
theorem i_NetOk_f_eq (x0 : (List (Int))) : i_NetOk_f x0 = (cond ((decide ((List.length x0 : Int) < 1))) (some false) (cond ((decide (6 < (List.length x0 : Int)))) (some false) (i_NetOk_l0 x0 x0 (List.length x0 : Int) 0))) := by
  kernel_rfl
theorem i_NetOk_l0_eq (y0 : List (Int)) (y1 : List (Int)) (y2 : Int) (y3 : Int) : i_NetOk_l0 y0 y1 y2 y3 = (cond ((decide (y3 < y2))) (if (0 : Int) ≤ y3 ∧ y3 < (List.length y1 : Int) then (cond ((decide ((List.getD y1 (y3 : Int).toNat 0) < 0))) (some false) (if (List.length y0 : Int) < 0 then none else (cond ((decide ((IntKind.i64.wrap (1 * 2 ^ min ((List.length y0 : Int) : Int).toNat IntKind.i64.bits)) ≤ (List.getD y1 (y3 : Int).toNat 0)))) (some false) (if y3 < 0 then none else (cond (((Go.bits .and IntKind.i64 (Int.fdiv (List.getD y1 (y3 : Int).toNat 0) (2 ^ min (y3 : Int).toNat IntKind.i64.bits)) 1) == 1)) (some false) (i_NetOk_l1 y0 y3 (List.getD y1 (y3 : Int).toNat 0) y1 y2 y3 (List.length y0 : Int) 0)))))) else none) (some true)) := by
  refine (loopK_eq Try.prog (i_NetOk_E) (sub (Try.f43.body.getD .skip) [1, 1, 0, 1, 0, 0]) _ _).trans ?_
  kernel_rfl
theorem i_NetOk_l1_eq (y0 : List (Int)) (y1 : Int) (y2 : Int) (y3 : List (Int)) (y4 : Int) (y5 : Int) (y6 : Int) (y7 : Int) : i_NetOk_l1 y0 y1 y2 y3 y4 y5 y6 y7 = (cond ((decide (y7 < y6))) (if y7 < 0 then none else (if (0 : Int) ≤ y7 ∧ y7 < (List.length y0 : Int) then (if y1 < 0 then none else (cond (((Go.bits .and IntKind.i64 (Int.fdiv y2 (2 ^ min (y7 : Int).toNat IntKind.i64.bits)) 1) != (Go.bits .and IntKind.i64 (Int.fdiv (List.getD y0 (y7 : Int).toNat 0) (2 ^ min (y1 : Int).toNat IntKind.i64.bits)) 1))) (some false) (i_NetOk_l1 y0 y1 y2 y3 y4 y5 y6 (IntKind.i64.wrap (y7 + 1))))) else none)) (i_NetOk_l0 y0 y3 y4 (IntKind.i64.wrap (y5 + 1)))) := by
  refine (loopK_eq Try.prog (i_NetOk_E) (sub (Try.f43.body.getD .skip) [1, 1, 0, 1, 0, 0, 1, 1, 0, 0, 1, 1, 1, 0, 0]) _ _).trans ?_
  kernel_rfl
theorem i_NetOk_ent : Entb Try.prog 43 := ⟨Try.f43, by kernel_rfl, by kernel_rfl, by kernel_rfl⟩
theorem i_NetOk_ok : CtrOk Try.prog 43 ⟨i_NetOk_sig, i_NetOk_f⟩ :=
  ctr_of (fn := Try.f43) (by kernel_rfl) (by kernel_rfl) (fun x : Ts i_NetOk_sig.pc => i_NetOk_E) (fun x => ⟨fn_none, clo_none⟩) (fun h => by cases h) follows_ (fun _ _ => trivial)
end FN
set_option linter.unusedVariables false
namespace FN
open Go Go.Proofs
/-! loop.example/firingnets/impl.StateOk -/
@[reducible] def i_StateOk_sig : Sig := { ps := [none, none], pc := [.int .i64, .view .i64], rs := [none], rc := [.bool] }
noncomputable def i_StateOk_E : Env' := { fn := fun f => none, ck := ckT, cuts := [(2, [0, 1, 7, 8, 9]), (7, [0, 1])], mine := fun i => false }
noncomputable def i_StateOk_f (x : Ts i_StateOk_sig.pc) : Option (Ts i_StateOk_sig.rc) := runFn Try.prog (i_StateOk_E) Try.f53 i_StateOk_sig x
noncomputable def i_StateOk_l0 (y0 : Int) (y1 : List (Int)) (y2 : List (Int)) (y3 : Int) (y4 : Int) : Option ((Bool)) := from_ Try.prog (i_StateOk_E) Try.f53 i_StateOk_sig [1, 0, 1, 0] ⟨mkT 37 [(0, .int .i64 y0), (1, .row false .i64 y1), (7, .row false .i64 y2), (8, .int .i64 y3), (9, .int .i64 y4)], []⟩
noncomputable def i_StateOk_j1 (y0 : Int) (y1 : List (Int)) : Option ((Bool)) := from_ Try.prog (i_StateOk_E) Try.f53 i_StateOk_sig [1, 1] ⟨mkT 37 [(0, .int .i64 y0), (1, .row false .i64 y1)], []⟩
theorem i_StateOk_f_eq (x0 : (Int)) (x1 : (List (Int))) : i_StateOk_f (x0, x1) = (i_StateOk_l0 x0 x1 x1 (List.length x1 : Int) 0) := by
  kernel_rfl
theorem i_StateOk_l0_eq (y0 : Int) (y1 : List (Int)) (y2 : List (Int)) (y3 : Int) (y4 : Int) : i_StateOk_l0 y0 y1 y2 y3 y4 = (cond ((decide (y4 < y3))) (if (0 : Int) ≤ y4 ∧ y4 < (List.length y2 : Int) then (cond ((decide ((List.getD y2 (y4 : Int).toNat 0) < 0))) (some false) (cond ((decide (y0 ≤ (List.getD y2 (y4 : Int).toNat 0)))) (some false) (i_StateOk_l0 y0 y1 y2 y3 (IntKind.i64.wrap (y4 + 1))))) else none) (i_StateOk_j1 y0 y1)) := by
  refine (loopK_eq Try.prog (i_StateOk_E) (sub (Try.f53.body.getD .skip) [1, 0, 1, 0, 0]) _ _).trans ?_
  kernel_rfl
theorem i_StateOk_j1_eq (y0 : Int) (y1 : List (Int)) : i_StateOk_j1 y0 y1 = (cond ((decide (3 ≤ y0))) (cond ((decide (y0 ≤ 5))) (cond ((decide (1 ≤ (List.length y1 : Int)))) (some (decide ((List.length y1 : Int) ≤ 6))) (some false)) (some false)) (some false)) := by
  kernel_rfl
theorem i_StateOk_ent : Entb Try.prog 53 := ⟨Try.f53, by kernel_rfl, by kernel_rfl, by kernel_rfl⟩
theorem i_StateOk_ok : CtrOk Try.prog 53 ⟨i_StateOk_sig, i_StateOk_f⟩ :=
  ctr_of (fn := Try.f53) (by kernel_rfl) (by kernel_rfl) (fun x : Ts i_StateOk_sig.pc => i_StateOk_E) (fun x => ⟨fn_none, clo_none⟩) (fun h => by cases h) follows_ (fun _ _ => trivial)
end FN
set_option linter.unusedVariables false
namespace FN
open Go Go.Proofs
/-! loop.example/firingnets/impl.asked -/
@[reducible] def i_asked_sig : Sig := { ps := [none, none, none], pc := [.view .i64, .int .i64, .view .i64], rs := [none], rc := [.bool] }
noncomputable def i_asked_E : Env' := { fn := fun f => if f = 43 then some ⟨i_NetOk_sig, i_NetOk_f⟩ else if f = 53 then some ⟨i_StateOk_sig, i_StateOk_f⟩ else none, ck := ckT, cuts := [], mine := fun i => false }
noncomputable def i_asked_f (x : Ts i_asked_sig.pc) : Option (Ts i_asked_sig.rc) := runFn Try.prog (i_asked_E) Try.f42 i_asked_sig x
theorem i_asked_f_eq (x0 : (List (Int))) (x1 : (Int)) (x2 : (List (Int))) : i_asked_f (x0, x1, x2) = (Option.bind (i_NetOk_f x0) fun r1 => (cond (r1) (Option.bind (i_StateOk_f (x1, x2)) fun r2 => (cond (r2) (some ((List.length x0 : Int) == (List.length x2 : Int))) (some false))) (some false))) := by
  kernel_rfl
theorem i_asked_ent : Entb Try.prog 42 := ⟨Try.f42, by kernel_rfl, by kernel_rfl, by kernel_rfl⟩
theorem i_asked_ok : CtrOk Try.prog 42 ⟨i_asked_sig, i_asked_f⟩ :=
  ctr_of (fn := Try.f42) (by kernel_rfl) (by kernel_rfl) (fun x : Ts i_asked_sig.pc => i_asked_E) (fun x => ⟨(fn_cons ⟨i_NetOk_ok, i_NetOk_ent⟩ (fn_cons ⟨i_StateOk_ok, i_StateOk_ent⟩ fn_none)), clo_none⟩) (fun h => by cases h) follows_ (fun _ _ => trivial)
end FN
set_option linter.unusedVariables false
namespace FN
open Go Go.Proofs
/-! loop.example/firingnets/impl.PlaceOk -/
@[reducible] def i_PlaceOk_sig : Sig := { ps := [some 3], pc := [.view .i64, .int .i64, .view .i64], rs := [none], rc := [.bool] }
noncomputable def i_PlaceOk_E : Env' := { fn := fun f => if f = 42 then some ⟨i_asked_sig, i_asked_f⟩ else none, ck := ckT, cuts := [], mine := fun i => false }
noncomputable def i_PlaceOk_f (x : Ts i_PlaceOk_sig.pc) : Option (Ts i_PlaceOk_sig.rc) := runFn Try.prog (i_PlaceOk_E) Try.f23 i_PlaceOk_sig x
theorem i_PlaceOk_f_eq (x0 : (List (Int))) (x1 : (Int)) (x2 : (List (Int))) : i_PlaceOk_f (x0, x1, x2) = (Option.bind (i_asked_f (x0, x1, x2)) fun r1 => (some r1)) := by
  kernel_rfl
theorem i_PlaceOk_ent : Entb Try.prog 23 := ⟨Try.f23, by kernel_rfl, by kernel_rfl, by kernel_rfl⟩
theorem i_PlaceOk_ok : CtrOk Try.prog 23 ⟨i_PlaceOk_sig, i_PlaceOk_f⟩ :=
  ctr_of (fn := Try.f23) (by kernel_rfl) (by kernel_rfl) (fun x : Ts i_PlaceOk_sig.pc => i_PlaceOk_E) (fun x => ⟨(fn_cons ⟨i_asked_ok, i_asked_ent⟩ fn_none), clo_none⟩) (fun h => by cases h) follows_ (fun _ _ => trivial)
end FN
set_option linter.unusedVariables false
namespace FN
open Go Go.Proofs
/-! loop.example/firingnets/spec.NetOk -/
@[reducible] def s_NetOk_sig : Sig := { ps := [none], pc := [.view .i64], rs := [none], rc := [.bool] }
noncomputable def s_NetOk_E : Env' := { fn := fun f => if f = 63 then some ⟨s_l1In_sig, s_l1In_f⟩ else none, ck := ckT, cuts := [(4, [0, 3]), (8, [0]), (9, [0, 4]), (12, [0, 4, 5])], mine := fun i => false }
noncomputable def s_NetOk_f (x : Ts s_NetOk_sig.pc) : Option (Ts s_NetOk_sig.rc) := runFn Try.prog (s_NetOk_E) Try.f56 s_NetOk_sig x
noncomputable def s_NetOk_l0 (y0 : List (Int)) (y1 : Int) : Option ((Bool)) := from_ Try.prog (s_NetOk_E) Try.f56 s_NetOk_sig [1, 1, 0, 1, 0] ⟨mkT 68 [(0, .row false .i64 y0), (3, .int .i64 y1)], []⟩
noncomputable def s_NetOk_j1 (y0 : List (Int)) : Option ((Bool)) := from_ Try.prog (s_NetOk_E) Try.f56 s_NetOk_sig [1, 1, 1] ⟨mkT 68 [(0, .row false .i64 y0)], []⟩
noncomputable def s_NetOk_l2 (y0 : List (Int)) (y1 : Int) : Option ((Bool)) := from_ Try.prog (s_NetOk_E) Try.f56 s_NetOk_sig [1, 1, 1, 0, 1, 0] ⟨mkT 68 [(0, .row false .i64 y0), (4, .int .i64 y1)], []⟩
noncomputable def s_NetOk_l3 (y0 : List (Int)) (y1 : Int) (y2 : Int) : Option ((Bool)) := from_ Try.prog (s_NetOk_E) Try.f56 s_NetOk_sig [1, 1, 1, 0, 1, 0, 0, 1, 0, 0, 1, 0] ⟨mkT 68 [(0, .row false .i64 y0), (4, .int .i64 y1), (5, .int .i64 y2)], []⟩
theorem s_NetOk_f_eq (x0 : (List (Int))) : s_NetOk_f x0 = (Option.bind (s_l1In_f ((List.length x0 : Int), 1, 6)) fun r1 => (cond ((!r1)) (some false) (s_NetOk_l0 x0 0))) := by
  kernel_rfl
theorem s_NetOk_l0_eq (y0 : List (Int)) (y1 : Int) : s_NetOk_l0 y0 y1 = (cond ((decide (y1 < (List.length y0 : Int)))) (if (0 : Int) ≤ y1 ∧ y1 < (List.length y0 : Int) then (if (List.length y0 : Int) < 0 then none else (Option.bind (s_l1In_f ((List.getD y0 (y1 : Int).toNat 0), 0, (IntKind.i64.wrap ((IntKind.i64.wrap (1 * 2 ^ min ((List.length y0 : Int) : Int).toNat IntKind.i64.bits)) - 1)))) fun r1 => (cond ((!r1)) (some false) (s_NetOk_l0 y0 (IntKind.i64.wrap (y1 + 1)))))) else none) (s_NetOk_j1 y0)) := by
  refine (loopK_eq Try.prog (s_NetOk_E) (sub (Try.f56.body.getD .skip) [1, 1, 0, 1, 0, 0]) _ _).trans ?_
  kernel_rfl
theorem s_NetOk_j1_eq (y0 : List (Int)) : s_NetOk_j1 y0 = (s_NetOk_l2 y0 0) := by
  kernel_rfl
theorem s_NetOk_l2_eq (y0 : List (Int)) (y1 : Int) : s_NetOk_l2 y0 y1 = (cond ((decide (y1 < (List.length y0 : Int)))) (s_NetOk_l3 y0 y1 0) (some true)) := by
  refine (loopK_eq Try.prog (s_NetOk_E) (sub (Try.f56.body.getD .skip) [1, 1, 1, 0, 1, 0, 0]) _ _).trans ?_
  kernel_rfl
theorem s_NetOk_l3_eq (y0 : List (Int)) (y1 : Int) (y2 : Int) : s_NetOk_l3 y0 y1 y2 = (cond ((decide (y2 < (List.length y0 : Int)))) (if (0 : Int) ≤ y1 ∧ y1 < (List.length y0 : Int) then (if y2 < 0 then none else (if (0 : Int) ≤ y2 ∧ y2 < (List.length y0 : Int) then (if y1 < 0 then none else (cond (((Int.tmod (Int.fdiv (List.getD y0 (y1 : Int).toNat 0) (2 ^ min (y2 : Int).toNat IntKind.i64.bits)) 2) != (Int.tmod (Int.fdiv (List.getD y0 (y2 : Int).toNat 0) (2 ^ min (y1 : Int).toNat IntKind.i64.bits)) 2))) (some false) (cond ((y2 == y1)) (if (0 : Int) ≤ y1 ∧ y1 < (List.length y0 : Int) then (if y2 < 0 then none else (cond (((Int.tmod (Int.fdiv (List.getD y0 (y1 : Int).toNat 0) (2 ^ min (y2 : Int).toNat IntKind.i64.bits)) 2) == 1)) (some false) (s_NetOk_l3 y0 y1 (IntKind.i64.wrap (y2 + 1))))) else none) (s_NetOk_l3 y0 y1 (IntKind.i64.wrap (y2 + 1)))))) else none)) else none) (s_NetOk_l2 y0 (IntKind.i64.wrap (y1 + 1)))) := by
  refine (loopK_eq Try.prog (s_NetOk_E) (sub (Try.f56.body.getD .skip) [1, 1, 1, 0, 1, 0, 0, 1, 0, 0, 1, 0, 0]) _ _).trans ?_
  kernel_rfl
theorem s_NetOk_ent : Entb Try.prog 56 := ⟨Try.f56, by kernel_rfl, by kernel_rfl, by kernel_rfl⟩
theorem s_NetOk_ok : CtrOk Try.prog 56 ⟨s_NetOk_sig, s_NetOk_f⟩ :=
  ctr_of (fn := Try.f56) (by kernel_rfl) (by kernel_rfl) (fun x : Ts s_NetOk_sig.pc => s_NetOk_E) (fun x => ⟨(fn_cons ⟨s_l1In_ok, s_l1In_ent⟩ fn_none), clo_none⟩) (fun h => by cases h) follows_ (fun _ _ => trivial)
end FN
set_option linter.unusedVariables false
namespace FN
open Go Go.Proofs
/-! loop.example/firingnets/spec.StateOk -/
@[reducible] def s_StateOk_sig : Sig := { ps := [none, none], pc := [.int .i64, .view .i64], rs := [none], rc := [.bool] }
noncomputable def s_StateOk_E : Env' := { fn := fun f => if f = 63 then some ⟨s_l1In_sig, s_l1In_f⟩ else none, ck := ckT, cuts := [(2, [0, 1, 5]), (6, [0, 1])], mine := fun i => false }
noncomputable def s_StateOk_f (x : Ts s_StateOk_sig.pc) : Option (Ts s_StateOk_sig.rc) := runFn Try.prog (s_StateOk_E) Try.f57 s_StateOk_sig x
noncomputable def s_StateOk_l0 (y0 : Int) (y1 : List (Int)) (y2 : Int) : Option ((Bool)) := from_ Try.prog (s_StateOk_E) Try.f57 s_StateOk_sig [1, 0, 1, 0] ⟨mkT 32 [(0, .int .i64 y0), (1, .row false .i64 y1), (5, .int .i64 y2)], []⟩
noncomputable def s_StateOk_j1 (y0 : Int) (y1 : List (Int)) : Option ((Bool)) := from_ Try.prog (s_StateOk_E) Try.f57 s_StateOk_sig [1, 1] ⟨mkT 32 [(0, .int .i64 y0), (1, .row false .i64 y1)], []⟩
theorem s_StateOk_f_eq (x0 : (Int)) (x1 : (List (Int))) : s_StateOk_f (x0, x1) = (s_StateOk_l0 x0 x1 0) := by
  kernel_rfl
theorem s_StateOk_l0_eq (y0 : Int) (y1 : List (Int)) (y2 : Int) : s_StateOk_l0 y0 y1 y2 = (cond ((decide (y2 < (List.length y1 : Int)))) (if (0 : Int) ≤ y2 ∧ y2 < (List.length y1 : Int) then (cond ((decide ((List.getD y1 (y2 : Int).toNat 0) < 0))) (some false) (if (0 : Int) ≤ y2 ∧ y2 < (List.length y1 : Int) then (cond ((decide (y0 ≤ (List.getD y1 (y2 : Int).toNat 0)))) (some false) (s_StateOk_l0 y0 y1 (IntKind.i64.wrap (y2 + 1)))) else none)) else none) (s_StateOk_j1 y0 y1)) := by
  refine (loopK_eq Try.prog (s_StateOk_E) (sub (Try.f57.body.getD .skip) [1, 0, 1, 0, 0]) _ _).trans ?_
  kernel_rfl
theorem s_StateOk_j1_eq (y0 : Int) (y1 : List (Int)) : s_StateOk_j1 y0 y1 = (Option.bind (s_l1In_f (y0, 3, 5)) fun r1 => (cond (r1) (Option.bind (s_l1In_f ((List.length y1 : Int), 1, 6)) fun r2 => (some r2)) (some false))) := by
  kernel_rfl
theorem s_StateOk_ent : Entb Try.prog 57 := ⟨Try.f57, by kernel_rfl, by kernel_rfl, by kernel_rfl⟩
theorem s_StateOk_ok : CtrOk Try.prog 57 ⟨s_StateOk_sig, s_StateOk_f⟩ :=
  ctr_of (fn := Try.f57) (by kernel_rfl) (by kernel_rfl) (fun x : Ts s_StateOk_sig.pc => s_StateOk_E) (fun x => ⟨(fn_cons ⟨s_l1In_ok, s_l1In_ent⟩ fn_none), clo_none⟩) (fun h => by cases h) follows_ (fun _ _ => trivial)
end FN
set_option linter.unusedVariables false
namespace FN
open Go Go.Proofs
/-! loop.example/firingnets/spec.l3Ok -/
@[reducible] def s_l3Ok_sig : Sig := { ps := [none, none, none], pc := [.view .i64, .int .i64, .view .i64], rs := [none], rc := [.bool] }
noncomputable def s_l3Ok_E : Env' := { fn := fun f => if f = 56 then some ⟨s_NetOk_sig, s_NetOk_f⟩ else if f = 57 then some ⟨s_StateOk_sig, s_StateOk_f⟩ else none, ck := ckT, cuts := [], mine := fun i => false }
noncomputable def s_l3Ok_f (x : Ts s_l3Ok_sig.pc) : Option (Ts s_l3Ok_sig.rc) := runFn Try.prog (s_l3Ok_E) Try.f46 s_l3Ok_sig x
theorem s_l3Ok_f_eq (x0 : (List (Int))) (x1 : (Int)) (x2 : (List (Int))) : s_l3Ok_f (x0, x1, x2) = (Option.bind (s_NetOk_f x0) fun r1 => (cond (r1) (Option.bind (s_StateOk_f (x1, x2)) fun r2 => (cond (r2) (some ((List.length x2 : Int) == (List.length x0 : Int))) (some false))) (some false))) := by
  kernel_rfl
theorem s_l3Ok_ent : Entb Try.prog 46 := ⟨Try.f46, by kernel_rfl, by kernel_rfl, by kernel_rfl⟩
theorem s_l3Ok_ok : CtrOk Try.prog 46 ⟨s_l3Ok_sig, s_l3Ok_f⟩ :=
  ctr_of (fn := Try.f46) (by kernel_rfl) (by kernel_rfl) (fun x : Ts s_l3Ok_sig.pc => s_l3Ok_E) (fun x => ⟨(fn_cons ⟨s_NetOk_ok, s_NetOk_ent⟩ (fn_cons ⟨s_StateOk_ok, s_StateOk_ent⟩ fn_none)), clo_none⟩) (fun h => by cases h) follows_ (fun _ _ => trivial)
end FN
set_option linter.unusedVariables false
namespace FN
open Go Go.Proofs
/-! loop.example/firingnets/spec.PlaceOk -/
@[reducible] def s_PlaceOk_sig : Sig := { ps := [some 3], pc := [.view .i64, .int .i64, .view .i64], rs := [none], rc := [.bool] }
noncomputable def s_PlaceOk_E : Env' := { fn := fun f => if f = 46 then some ⟨s_l3Ok_sig, s_l3Ok_f⟩ else none, ck := ckT, cuts := [], mine := fun i => false }
noncomputable def s_PlaceOk_f (x : Ts s_PlaceOk_sig.pc) : Option (Ts s_PlaceOk_sig.rc) := runFn Try.prog (s_PlaceOk_E) Try.f28 s_PlaceOk_sig x
theorem s_PlaceOk_f_eq (x0 : (List (Int))) (x1 : (Int)) (x2 : (List (Int))) : s_PlaceOk_f (x0, x1, x2) = (Option.bind (s_l3Ok_f (x0, x1, x2)) fun r1 => (some r1)) := by
  kernel_rfl
theorem s_PlaceOk_ent : Entb Try.prog 28 := ⟨Try.f28, by kernel_rfl, by kernel_rfl, by kernel_rfl⟩
theorem s_PlaceOk_ok : CtrOk Try.prog 28 ⟨s_PlaceOk_sig, s_PlaceOk_f⟩ :=
  ctr_of (fn := Try.f28) (by kernel_rfl) (by kernel_rfl) (fun x : Ts s_PlaceOk_sig.pc => s_PlaceOk_E) (fun x => ⟨(fn_cons ⟨s_l3Ok_ok, s_l3Ok_ent⟩ fn_none), clo_none⟩) (fun h => by cases h) follows_ (fun _ _ => trivial)
end FN
set_option linter.unusedVariables false
namespace FN
open Go Go.Proofs
/-! loop.example/firingnets/laws.szIntS -/
@[reducible] def w_szIntS_sig : Sig := { ps := [none, none], pc := [.view .i64, .int .i64], rs := [none], rc := [.int .i64] }
noncomputable def w_szIntS_E : Env' := { fn := fun f => none, ck := ckT, cuts := [], mine := fun i => false }
noncomputable def w_szIntS_f (x : Ts w_szIntS_sig.pc) : Option (Ts w_szIntS_sig.rc) := runFn Try.prog (w_szIntS_E) Try.f31 w_szIntS_sig x
theorem w_szIntS_f_eq (x0 : (List (Int))) (x1 : (Int)) : w_szIntS_f (x0, x1) = (cond ((decide ((IntKind.i64.wrap (x1 - (List.length x0 : Int))) < 0))) (some (-1)) (some (IntKind.i64.wrap (x1 - (List.length x0 : Int))))) := by
  kernel_rfl
theorem w_szIntS_ent : Entb Try.prog 31 := ⟨Try.f31, by kernel_rfl, by kernel_rfl, by kernel_rfl⟩
theorem w_szIntS_ok : CtrOk Try.prog 31 ⟨w_szIntS_sig, w_szIntS_f⟩ :=
  ctr_of (fn := Try.f31) (by kernel_rfl) (by kernel_rfl) (fun x : Ts w_szIntS_sig.pc => w_szIntS_E) (fun x => ⟨fn_none, clo_none⟩) (fun h => by cases h) follows_ (fun _ _ => trivial)
end FN
set_option linter.unusedVariables false
namespace FN
open Go Go.Proofs
/-! loop.example/firingnets/laws.szPlace -/
@[reducible] def w_szPlace_sig : Sig := { ps := [some 3, none], pc := [.view .i64, .int .i64, .view .i64, .int .i64], rs := [none], rc := [.int .i64] }
noncomputable def w_szPlace_E : Env' := { fn := fun f => if f = 31 then some ⟨w_szIntS_sig, w_szIntS_f⟩ else none, ck := ckT, cuts := [], mine := fun i => false }
noncomputable def w_szPlace_f (x : Ts w_szPlace_sig.pc) : Option (Ts w_szPlace_sig.rc) := runFn Try.prog (w_szPlace_E) Try.f12 w_szPlace_sig x
theorem w_szPlace_f_eq (x0 : (List (Int))) (x1 : (Int)) (x2 : (List (Int))) (x3 : (Int)) : w_szPlace_f (x0, x1, x2, x3) = (Option.bind (w_szIntS_f (x0, x3)) fun r1 => (cond ((decide (r1 < 0))) (some (-1)) (Option.bind (w_szIntS_f (x2, r1)) fun r2 => (cond ((decide (r2 < 0))) (some (-1)) (some r2))))) := by
  kernel_rfl
theorem w_szPlace_ent : Entb Try.prog 12 := ⟨Try.f12, by kernel_rfl, by kernel_rfl, by kernel_rfl⟩
theorem w_szPlace_ok : CtrOk Try.prog 12 ⟨w_szPlace_sig, w_szPlace_f⟩ :=
  ctr_of (fn := Try.f12) (by kernel_rfl) (by kernel_rfl) (fun x : Ts w_szPlace_sig.pc => w_szPlace_E) (fun x => ⟨(fn_cons ⟨w_szIntS_ok, w_szIntS_ent⟩ fn_none), clo_none⟩) (fun h => by cases h) follows_ (fun _ _ => trivial)
end FN
set_option linter.unusedVariables false
namespace FN
open Go Go.Proofs
/-! loop.example/firingnets/laws.toIntS -/
@[reducible] def w_toIntS_sig : Sig := { ps := [none], pc := [.view .i64], rs := [none], rc := [.row 3 .i64] }
noncomputable def w_toIntS_E : Env' := { fn := fun f => none, ck := ckT, cuts := [(3, [0, 3, 4])], mine := fun i => false }
noncomputable def w_toIntS_f (x : Ts w_toIntS_sig.pc) : Option (Ts w_toIntS_sig.rc) := runFn Try.prog (w_toIntS_E) Try.f33 w_toIntS_sig x
noncomputable def w_toIntS_l0 (y0 : List (Int)) (y1 : Int) (y2 : List (Int)) : Option ((List (Int))) := from_ Try.prog (w_toIntS_E) Try.f33 w_toIntS_sig [1, 1, 0, 1, 0] ⟨mkT 22 [(0, .row false .i64 y0), (3, .own 0), (4, .int .i64 y1)], [some (.arr 3 true .i64 y2)]⟩
theorem w_toIntS_f_eq (x0 : (List (Int))) : w_toIntS_f x0 = (if (0 : Int) ≤ (List.length x0 : Int) ∧ (List.length x0 : Int) * 8 ≤ 140737488355328 ∧ (List.length x0 : Int) ≤ 140737488355328 then (w_toIntS_l0 x0 0 (List.replicate ((List.length x0 : Int) : Int).toNat 0 : List (Int))) else none) := by
  kernel_rfl
theorem w_toIntS_l0_eq (y0 : List (Int)) (y1 : Int) (y2 : List (Int)) : w_toIntS_l0 y0 y1 y2 = (cond ((decide (y1 < (List.length y0 : Int)))) (if (0 : Int) ≤ y1 ∧ y1 < (List.length y0 : Int) then (if (0 : Int) ≤ y1 ∧ y1 < (List.length y2 : Int) then (w_toIntS_l0 y0 (IntKind.i64.wrap (y1 + 1)) (List.set y2 (y1 : Int).toNat (List.getD y0 (y1 : Int).toNat 0))) else none) else none) (some y2)) := by
  refine (loopK_eq Try.prog (w_toIntS_E) (sub (Try.f33.body.getD .skip) [1, 1, 0, 1, 0, 0]) _ _).trans ?_
  kernel_rfl
theorem w_toIntS_ent : Entb Try.prog 33 := ⟨Try.f33, by kernel_rfl, by kernel_rfl, by kernel_rfl⟩
theorem w_toIntS_ok : CtrOk Try.prog 33 ⟨w_toIntS_sig, w_toIntS_f⟩ :=
  ctr_of (fn := Try.f33) (by kernel_rfl) (by kernel_rfl) (fun x : Ts w_toIntS_sig.pc => w_toIntS_E) (fun x => ⟨fn_none, clo_none⟩) (fun h => by cases h) follows_ (fun _ _ => trivial)
end FN
set_option linter.unusedVariables false
namespace FN
open Go Go.Proofs
/-! loop.example/firingnets/laws.toPlace -/
@[reducible] def w_toPlace_sig : Sig := { ps := [some 3], pc := [.view .i64, .int .i64, .view .i64], rs := [some 3], rc := [.row 3 .i64, .int .i64, .row 3 .i64] }
noncomputable def w_toPlace_E : Env' := { fn := fun f => if f = 33 then some ⟨w_toIntS_sig, w_toIntS_f⟩ else none, ck := ckT, cuts := [], mine := fun i => i == 6 || i == 13 }
noncomputable def w_toPlace_f (x : Ts w_toPlace_sig.pc) : Option (Ts w_toPlace_sig.rc) := runFn Try.prog (w_toPlace_E) Try.f14 w_toPlace_sig x
theorem w_toPlace_f_eq (x0 : (List (Int))) (x1 : (Int)) (x2 : (List (Int))) : w_toPlace_f (x0, x1, x2) = (Option.bind (w_toIntS_f x0) fun r1 => (Option.bind (w_toIntS_f x2) fun r2 => (some (r1, x1, r2)))) := by
  kernel_rfl
theorem w_toPlace_ent : Entb Try.prog 14 := ⟨Try.f14, by kernel_rfl, by kernel_rfl, by kernel_rfl⟩
theorem w_toPlace_ok : CtrOk Try.prog 14 ⟨w_toPlace_sig, w_toPlace_f⟩ :=
  ctr_of (fn := Try.f14) (by kernel_rfl) (by kernel_rfl) (fun x : Ts w_toPlace_sig.pc => w_toPlace_E) (fun x => ⟨(fn_cons ⟨w_toIntS_ok, w_toIntS_ent⟩ fn_none), clo_none⟩) (fun h => by cases h) follows_ (fun _ _ => trivial)
end FN
set_option linter.unusedVariables false
namespace FN
open Go Go.Proofs
/-! loop.example/firingnets/laws.eqIntS -/
@[reducible] def w_eqIntS_sig : Sig := { ps := [none, none], pc := [.view .i64, .view .i64], rs := [none], rc := [.bool] }
noncomputable def w_eqIntS_E : Env' := { fn := fun f => none, ck := ckT, cuts := [(4, [0, 1, 5])], mine := fun i => false }
noncomputable def w_eqIntS_f (x : Ts w_eqIntS_sig.pc) : Option (Ts w_eqIntS_sig.rc) := runFn Try.prog (w_eqIntS_E) Try.f35 w_eqIntS_sig x
noncomputable def w_eqIntS_l0 (y0 : List (Int)) (y1 : List (Int)) (y2 : Int) : Option ((Bool)) := from_ Try.prog (w_eqIntS_E) Try.f35 w_eqIntS_sig [1, 1, 0, 1, 0] ⟨mkT 26 [(0, .row false .i64 y0), (1, .row false .i64 y1), (5, .int .i64 y2)], []⟩
theorem w_eqIntS_f_eq (x0 : (List (Int))) (x1 : (List (Int))) : w_eqIntS_f (x0, x1) = (cond (((List.length x0 : Int) != (List.length x1 : Int))) (some false) (w_eqIntS_l0 x0 x1 0)) := by
  kernel_rfl
theorem w_eqIntS_l0_eq (y0 : List (Int)) (y1 : List (Int)) (y2 : Int) : w_eqIntS_l0 y0 y1 y2 = (cond ((decide (y2 < (List.length y0 : Int)))) (if (0 : Int) ≤ y2 ∧ y2 < (List.length y0 : Int) then (if (0 : Int) ≤ y2 ∧ y2 < (List.length y1 : Int) then (cond (((List.getD y0 (y2 : Int).toNat 0) != (List.getD y1 (y2 : Int).toNat 0))) (some false) (w_eqIntS_l0 y0 y1 (IntKind.i64.wrap (y2 + 1)))) else none) else none) (some true)) := by
  refine (loopK_eq Try.prog (w_eqIntS_E) (sub (Try.f35.body.getD .skip) [1, 1, 0, 1, 0, 0]) _ _).trans ?_
  kernel_rfl
theorem w_eqIntS_ent : Entb Try.prog 35 := ⟨Try.f35, by kernel_rfl, by kernel_rfl, by kernel_rfl⟩
theorem w_eqIntS_ok : CtrOk Try.prog 35 ⟨w_eqIntS_sig, w_eqIntS_f⟩ :=
  ctr_of (fn := Try.f35) (by kernel_rfl) (by kernel_rfl) (fun x : Ts w_eqIntS_sig.pc => w_eqIntS_E) (fun x => ⟨fn_none, clo_none⟩) (fun h => by cases h) follows_ (fun _ _ => trivial)
end FN
set_option linter.unusedVariables false
namespace FN
open Go Go.Proofs
/-! loop.example/firingnets/laws.eqPlace -/
@[reducible] def w_eqPlace_sig : Sig := { ps := [some 3, some 3], pc := [.view .i64, .int .i64, .view .i64, .view .i64, .int .i64, .view .i64], rs := [none], rc := [.bool] }
noncomputable def w_eqPlace_E : Env' := { fn := fun f => if f = 35 then some ⟨w_eqIntS_sig, w_eqIntS_f⟩ else none, ck := ckT, cuts := [], mine := fun i => false }
noncomputable def w_eqPlace_f (x : Ts w_eqPlace_sig.pc) : Option (Ts w_eqPlace_sig.rc) := runFn Try.prog (w_eqPlace_E) Try.f16 w_eqPlace_sig x
theorem w_eqPlace_f_eq (x0 : (List (Int))) (x1 : (Int)) (x2 : (List (Int))) (x3 : (List (Int))) (x4 : (Int)) (x5 : (List (Int))) : w_eqPlace_f (x0, x1, x2, x3, x4, x5) = (Option.bind (w_eqIntS_f (x0, x3)) fun r1 => (cond ((!r1)) (some false) (cond ((x1 != x4)) (some false) (Option.bind (w_eqIntS_f (x2, x5)) fun r2 => (cond ((!r2)) (some false) (some true)))))) := by
  kernel_rfl
theorem w_eqPlace_ent : Entb Try.prog 16 := ⟨Try.f16, by kernel_rfl, by kernel_rfl, by kernel_rfl⟩
theorem w_eqPlace_ok : CtrOk Try.prog 16 ⟨w_eqPlace_sig, w_eqPlace_f⟩ :=
  ctr_of (fn := Try.f16) (by kernel_rfl) (by kernel_rfl) (fun x : Ts w_eqPlace_sig.pc => w_eqPlace_E) (fun x => ⟨(fn_cons ⟨w_eqIntS_ok, w_eqIntS_ent⟩ fn_none), clo_none⟩) (fun h => by cases h) follows_ (fun _ _ => trivial)
end FN
set_option linter.unusedVariables false
namespace FN
open Go Go.Proofs
/-! loop.example/firingnets/laws.szPlaceS -/
@[reducible] def w_szPlaceS_sig : Sig := { ps := [none, none], pc := [.view .place, .int .i64], rs := [none], rc := [.int .i64] }
noncomputable def w_szPlaceS_E : Env' := { fn := fun f => if f = 12 then some ⟨w_szPlace_sig, w_szPlace_f⟩ else none, ck := ckT, cuts := [(5, [0, 1, 5])], mine := fun i => false }
noncomputable def w_szPlaceS_f (x : Ts w_szPlaceS_sig.pc) : Option (Ts w_szPlaceS_sig.rc) := runFn Try.prog (w_szPlaceS_E) Try.f27 w_szPlaceS_sig x
noncomputable def w_szPlaceS_l0 (y0 : List (List Int × Int × List Int)) (y1 : Int) (y2 : Int) : Option ((Int)) := from_ Try.prog (w_szPlaceS_E) Try.f27 w_szPlaceS_sig [1, 1, 1, 0, 1, 0] ⟨mkT 27 [(0, .row false .place y0), (1, .int .i64 y1), (5, .int .i64 y2)], []⟩
theorem w_szPlaceS_f_eq (x0 : (List (List Int × Int × List Int))) (x1 : (Int)) : w_szPlaceS_f (x0, x1) = (cond ((decide ((IntKind.i64.wrap (x1 - (List.length x0 : Int))) < 0))) (some (-1)) (w_szPlaceS_l0 x0 (IntKind.i64.wrap (x1 - (List.length x0 : Int))) 0)) := by
  kernel_rfl
theorem w_szPlaceS_l0_eq (y0 : List (List Int × Int × List Int)) (y1 : Int) (y2 : Int) : w_szPlaceS_l0 y0 y1 y2 = (cond ((decide (y2 < (List.length y0 : Int)))) (if (0 : Int) ≤ y2 ∧ y2 < (List.length y0 : Int) then (Option.bind (w_szPlace_f ((List.getD y0 (y2 : Int).toNat ([], 0, [])).1, (List.getD y0 (y2 : Int).toNat ([], 0, [])).2.1, (List.getD y0 (y2 : Int).toNat ([], 0, [])).2.2, y1)) fun r1 => (cond ((decide (r1 < 0))) (some (-1)) (w_szPlaceS_l0 y0 r1 (IntKind.i64.wrap (y2 + 1))))) else none) (some y1)) := by
  refine (loopK_eq Try.prog (w_szPlaceS_E) (sub (Try.f27.body.getD .skip) [1, 1, 1, 0, 1, 0, 0]) _ _).trans ?_
  kernel_rfl
theorem w_szPlaceS_ent : Entb Try.prog 27 := ⟨Try.f27, by kernel_rfl, by kernel_rfl, by kernel_rfl⟩
theorem w_szPlaceS_ok : CtrOk Try.prog 27 ⟨w_szPlaceS_sig, w_szPlaceS_f⟩ :=
  ctr_of (fn := Try.f27) (by kernel_rfl) (by kernel_rfl) (fun x : Ts w_szPlaceS_sig.pc => w_szPlaceS_E) (fun x => ⟨(fn_cons ⟨w_szPlace_ok, w_szPlace_ent⟩ fn_none), clo_none⟩) (fun h => by cases h) follows_ (fun _ _ => trivial)
end FN
set_option linter.unusedVariables false
namespace FN
open Go Go.Proofs
/-! loop.example/firingnets/laws.szDesk -/
@[reducible] def w_szDesk_sig : Sig := { ps := [some 4, none], pc := [.view .i64, .int .i64, .view .i64, .view .place, .int .i64], rs := [none], rc := [.int .i64] }
noncomputable def w_szDesk_E : Env' := { fn := fun f => if f = 12 then some ⟨w_szPlace_sig, w_szPlace_f⟩ else if f = 27 then some ⟨w_szPlaceS_sig, w_szPlaceS_f⟩ else none, ck := ckT, cuts := [], mine := fun i => false }
noncomputable def w_szDesk_f (x : Ts w_szDesk_sig.pc) : Option (Ts w_szDesk_sig.rc) := runFn Try.prog (w_szDesk_E) Try.f7 w_szDesk_sig x
theorem w_szDesk_f_eq (x0 : (List (Int))) (x1 : (Int)) (x2 : (List (Int))) (x3 : (List (List Int × Int × List Int))) (x4 : (Int)) : w_szDesk_f (x0, x1, x2, x3, x4) = (Option.bind (w_szPlace_f (x0, x1, x2, x4)) fun r1 => (cond ((decide (r1 < 0))) (some (-1)) (Option.bind (w_szPlaceS_f (x3, r1)) fun r2 => (cond ((decide (r2 < 0))) (some (-1)) (some r2))))) := by
  kernel_rfl
theorem w_szDesk_ent : Entb Try.prog 7 := ⟨Try.f7, by kernel_rfl, by kernel_rfl, by kernel_rfl⟩
theorem w_szDesk_ok : CtrOk Try.prog 7 ⟨w_szDesk_sig, w_szDesk_f⟩ :=
  ctr_of (fn := Try.f7) (by kernel_rfl) (by kernel_rfl) (fun x : Ts w_szDesk_sig.pc => w_szDesk_E) (fun x => ⟨(fn_cons ⟨w_szPlace_ok, w_szPlace_ent⟩ (fn_cons ⟨w_szPlaceS_ok, w_szPlaceS_ent⟩ fn_none)), clo_none⟩) (fun h => by cases h) follows_ (fun _ _ => trivial)
end FN
set_option linter.unusedVariables false
namespace FN
open Go Go.Proofs
/-! loop.example/firingnets/laws.toPlaceS -/
@[reducible] def w_toPlaceS_sig : Sig := { ps := [none], pc := [.view .place], rs := [none], rc := [.row 30 .place] }
noncomputable def w_toPlaceS_E : Env' := { fn := fun f => if f = 14 then some ⟨w_toPlace_sig, w_toPlace_f⟩ else none, ck := ckT, cuts := [(3, [0, 3, 4])], mine := fun i => false }
noncomputable def w_toPlaceS_f (x : Ts w_toPlaceS_sig.pc) : Option (Ts w_toPlaceS_sig.rc) := runFn Try.prog (w_toPlaceS_E) Try.f29 w_toPlaceS_sig x
noncomputable def w_toPlaceS_l0 (y0 : List (List Int × Int × List Int)) (y1 : Int) (y2 : List (List Int × Int × List Int)) : Option ((List (List Int × Int × List Int))) := from_ Try.prog (w_toPlaceS_E) Try.f29 w_toPlaceS_sig [1, 1, 0, 1, 0] ⟨mkT 23 [(0, .row false .place y0), (3, .own 0), (4, .int .i64 y1)], [some (.arr 30 true .place y2)]⟩
theorem w_toPlaceS_f_eq (x0 : (List (List Int × Int × List Int))) : w_toPlaceS_f x0 = (if (0 : Int) ≤ (List.length x0 : Int) ∧ (List.length x0 : Int) * 56 ≤ 140737488355328 ∧ (List.length x0 : Int) ≤ 140737488355328 then (w_toPlaceS_l0 x0 0 (List.replicate ((List.length x0 : Int) : Int).toNat ([], 0, []) : List (List Int × Int × List Int))) else none) := by
  kernel_rfl
theorem w_toPlaceS_l0_eq (y0 : List (List Int × Int × List Int)) (y1 : Int) (y2 : List (List Int × Int × List Int)) : w_toPlaceS_l0 y0 y1 y2 = (cond ((decide (y1 < (List.length y0 : Int)))) (if (0 : Int) ≤ y1 ∧ y1 < (List.length y0 : Int) then (Option.bind (w_toPlace_f ((List.getD y0 (y1 : Int).toNat ([], 0, [])).1, (List.getD y0 (y1 : Int).toNat ([], 0, [])).2.1, (List.getD y0 (y1 : Int).toNat ([], 0, [])).2.2)) fun r1 => (if (0 : Int) ≤ y1 ∧ y1 < (List.length y2 : Int) then (w_toPlaceS_l0 y0 (IntKind.i64.wrap (y1 + 1)) (List.set y2 (y1 : Int).toNat (r1.1, r1.2.1, r1.2.2))) else none)) else none) (some y2)) := by
  refine (loopK_eq Try.prog (w_toPlaceS_E) (sub (Try.f29.body.getD .skip) [1, 1, 0, 1, 0, 0]) _ _).trans ?_
  kernel_rfl
theorem w_toPlaceS_ent : Entb Try.prog 29 := ⟨Try.f29, by kernel_rfl, by kernel_rfl, by kernel_rfl⟩
theorem w_toPlaceS_ok : CtrOk Try.prog 29 ⟨w_toPlaceS_sig, w_toPlaceS_f⟩ :=
  ctr_of (fn := Try.f29) (by kernel_rfl) (by kernel_rfl) (fun x : Ts w_toPlaceS_sig.pc => w_toPlaceS_E) (fun x => ⟨(fn_cons ⟨w_toPlace_ok, w_toPlace_ent⟩ fn_none), clo_none⟩) (fun h => by cases h) follows_ (fun _ _ => trivial)
end FN
set_option linter.unusedVariables false
namespace FN
open Go Go.Proofs
/-! loop.example/firingnets/laws.toDesk -/
@[reducible] def w_toDesk_sig : Sig := { ps := [some 4], pc := [.view .i64, .int .i64, .view .i64, .view .place], rs := [some 4], rc := [.row 3 .i64, .int .i64, .row 3 .i64, .row 30 .place] }
noncomputable def w_toDesk_E : Env' := { fn := fun f => if f = 14 then some ⟨w_toPlace_sig, w_toPlace_f⟩ else if f = 29 then some ⟨w_toPlaceS_sig, w_toPlaceS_f⟩ else none, ck := ckT, cuts := [], mine := fun i => i == 6 || i == 10 }
noncomputable def w_toDesk_f (x : Ts w_toDesk_sig.pc) : Option (Ts w_toDesk_sig.rc) := runFn Try.prog (w_toDesk_E) Try.f9 w_toDesk_sig x
theorem w_toDesk_f_eq (x0 : (List (Int))) (x1 : (Int)) (x2 : (List (Int))) (x3 : (List (List Int × Int × List Int))) : w_toDesk_f (x0, x1, x2, x3) = (Option.bind (w_toPlace_f (x0, x1, x2)) fun r1 => (Option.bind (w_toPlaceS_f x3) fun r2 => (some (r1.1, r1.2.1, r1.2.2, r2)))) := by
  kernel_rfl
theorem w_toDesk_ent : Entb Try.prog 9 := ⟨Try.f9, by kernel_rfl, by kernel_rfl, by kernel_rfl⟩
theorem w_toDesk_ok : CtrOk Try.prog 9 ⟨w_toDesk_sig, w_toDesk_f⟩ :=
  ctr_of (fn := Try.f9) (by kernel_rfl) (by kernel_rfl) (fun x : Ts w_toDesk_sig.pc => w_toDesk_E) (fun x => ⟨(fn_cons ⟨w_toPlace_ok, w_toPlace_ent⟩ (fn_cons ⟨w_toPlaceS_ok, w_toPlaceS_ent⟩ fn_none)), clo_none⟩) (fun h => by cases h) follows_ (fun _ _ => trivial)
end FN
set_option linter.unusedVariables false
namespace FN
open Go Go.Proofs
/-! loop.example/firingnets/laws.eqPlaceS -/
@[reducible] def w_eqPlaceS_sig : Sig := { ps := [none, none], pc := [.view .place, .view .place], rs := [none], rc := [.bool] }
noncomputable def w_eqPlaceS_E : Env' := { fn := fun f => if f = 16 then some ⟨w_eqPlace_sig, w_eqPlace_f⟩ else none, ck := ckT, cuts := [(4, [0, 1, 5])], mine := fun i => false }
noncomputable def w_eqPlaceS_f (x : Ts w_eqPlaceS_sig.pc) : Option (Ts w_eqPlaceS_sig.rc) := runFn Try.prog (w_eqPlaceS_E) Try.f30 w_eqPlaceS_sig x
noncomputable def w_eqPlaceS_l0 (y0 : List (List Int × Int × List Int)) (y1 : List (List Int × Int × List Int)) (y2 : Int) : Option ((Bool)) := from_ Try.prog (w_eqPlaceS_E) Try.f30 w_eqPlaceS_sig [1, 1, 0, 1, 0] ⟨mkT 27 [(0, .row false .place y0), (1, .row false .place y1), (5, .int .i64 y2)], []⟩
theorem w_eqPlaceS_f_eq (x0 : (List (List Int × Int × List Int))) (x1 : (List (List Int × Int × List Int))) : w_eqPlaceS_f (x0, x1) = (cond (((List.length x0 : Int) != (List.length x1 : Int))) (some false) (w_eqPlaceS_l0 x0 x1 0)) := by
  kernel_rfl
theorem w_eqPlaceS_l0_eq (y0 : List (List Int × Int × List Int)) (y1 : List (List Int × Int × List Int)) (y2 : Int) : w_eqPlaceS_l0 y0 y1 y2 = (cond ((decide (y2 < (List.length y0 : Int)))) (if (0 : Int) ≤ y2 ∧ y2 < (List.length y0 : Int) then (if (0 : Int) ≤ y2 ∧ y2 < (List.length y1 : Int) then (Option.bind (w_eqPlace_f ((List.getD y0 (y2 : Int).toNat ([], 0, [])).1, (List.getD y0 (y2 : Int).toNat ([], 0, [])).2.1, (List.getD y0 (y2 : Int).toNat ([], 0, [])).2.2, (List.getD y1 (y2 : Int).toNat ([], 0, [])).1, (List.getD y1 (y2 : Int).toNat ([], 0, [])).2.1, (List.getD y1 (y2 : Int).toNat ([], 0, [])).2.2)) fun r1 => (cond ((!r1)) (some false) (w_eqPlaceS_l0 y0 y1 (IntKind.i64.wrap (y2 + 1))))) else none) else none) (some true)) := by
  refine (loopK_eq Try.prog (w_eqPlaceS_E) (sub (Try.f30.body.getD .skip) [1, 1, 0, 1, 0, 0]) _ _).trans ?_
  kernel_rfl
theorem w_eqPlaceS_ent : Entb Try.prog 30 := ⟨Try.f30, by kernel_rfl, by kernel_rfl, by kernel_rfl⟩
theorem w_eqPlaceS_ok : CtrOk Try.prog 30 ⟨w_eqPlaceS_sig, w_eqPlaceS_f⟩ :=
  ctr_of (fn := Try.f30) (by kernel_rfl) (by kernel_rfl) (fun x : Ts w_eqPlaceS_sig.pc => w_eqPlaceS_E) (fun x => ⟨(fn_cons ⟨w_eqPlace_ok, w_eqPlace_ent⟩ fn_none), clo_none⟩) (fun h => by cases h) follows_ (fun _ _ => trivial)
end FN
set_option linter.unusedVariables false
namespace FN
open Go Go.Proofs
/-! loop.example/firingnets/laws.eqDesk -/
@[reducible] def w_eqDesk_sig : Sig := { ps := [some 4, some 4], pc := [.view .i64, .int .i64, .view .i64, .view .place, .view .i64, .int .i64, .view .i64, .view .place], rs := [none], rc := [.bool] }
noncomputable def w_eqDesk_E : Env' := { fn := fun f => if f = 16 then some ⟨w_eqPlace_sig, w_eqPlace_f⟩ else if f = 30 then some ⟨w_eqPlaceS_sig, w_eqPlaceS_f⟩ else none, ck := ckT, cuts := [], mine := fun i => false }
noncomputable def w_eqDesk_f (x : Ts w_eqDesk_sig.pc) : Option (Ts w_eqDesk_sig.rc) := runFn Try.prog (w_eqDesk_E) Try.f11 w_eqDesk_sig x
theorem w_eqDesk_f_eq (x0 : (List (Int))) (x1 : (Int)) (x2 : (List (Int))) (x3 : (List (List Int × Int × List Int))) (x4 : (List (Int))) (x5 : (Int)) (x6 : (List (Int))) (x7 : (List (List Int × Int × List Int))) : w_eqDesk_f (x0, x1, x2, x3, x4, x5, x6, x7) = (Option.bind (w_eqPlace_f (x0, x1, x2, x4, x5, x6)) fun r1 => (cond ((!r1)) (some false) (Option.bind (w_eqPlaceS_f (x3, x7)) fun r2 => (cond ((!r2)) (some false) (some true))))) := by
  kernel_rfl
theorem w_eqDesk_ent : Entb Try.prog 11 := ⟨Try.f11, by kernel_rfl, by kernel_rfl, by kernel_rfl⟩
theorem w_eqDesk_ok : CtrOk Try.prog 11 ⟨w_eqDesk_sig, w_eqDesk_f⟩ :=
  ctr_of (fn := Try.f11) (by kernel_rfl) (by kernel_rfl) (fun x : Ts w_eqDesk_sig.pc => w_eqDesk_E) (fun x => ⟨(fn_cons ⟨w_eqPlace_ok, w_eqPlace_ent⟩ (fn_cons ⟨w_eqPlaceS_ok, w_eqPlaceS_ent⟩ fn_none)), clo_none⟩) (fun h => by cases h) follows_ (fun _ _ => trivial)
end FN
set_option linter.unusedVariables false
namespace FN
open Go Go.Proofs
/-! loop.example/firingnets/impl.DeskOk -/
@[reducible] def i_DeskOk_sig : Sig := { ps := [some 4], pc := [.view .i64, .int .i64, .view .i64, .view .place], rs := [none], rc := [.bool] }
noncomputable def i_DeskOk_E : Env' := { fn := fun f => if f = 23 then some ⟨i_PlaceOk_sig, i_PlaceOk_f⟩ else none, ck := ckT, cuts := [(2, [1, 6, 7, 8]), (7, [1])], mine := fun i => false }
noncomputable def i_DeskOk_f (x : Ts i_DeskOk_sig.pc) : Option (Ts i_DeskOk_sig.rc) := runFn Try.prog (i_DeskOk_E) Try.f10 i_DeskOk_sig x
noncomputable def i_DeskOk_l0 (y0 : List (List Int × Int × List Int)) (y1 : Int) (y2 : Int) (y3 : List (Int)) (y4 : Int) (y5 : List (Int)) (y6 : List (List Int × Int × List Int)) : Option ((Bool)) := from_ Try.prog (i_DeskOk_E) Try.f10 i_DeskOk_sig [1, 0, 1, 0] ⟨mkT 25 [(1, .ptr 0 0), (6, .row false .place y0), (7, .int .i64 y1), (8, .int .i64 y2)], [some (.box 33 [.row false .i64 y3, .int .i64 y4, .row false .i64 y5, .row false .place y6])]⟩
noncomputable def i_DeskOk_j1 (y0 : List (Int)) (y1 : Int) (y2 : List (Int)) (y3 : List (List Int × Int × List Int)) : Option ((Bool)) := from_ Try.prog (i_DeskOk_E) Try.f10 i_DeskOk_sig [1, 1] ⟨mkT 25 [(1, .ptr 0 0)], [some (.box 33 [.row false .i64 y0, .int .i64 y1, .row false .i64 y2, .row false .place y3])]⟩
theorem i_DeskOk_f_eq (x0 : (List (Int))) (x1 : (Int)) (x2 : (List (Int))) (x3 : (List (List Int × Int × List Int))) : i_DeskOk_f (x0, x1, x2, x3) = (i_DeskOk_l0 x3 (List.length x3 : Int) 0 x0 x1 x2 x3) := by
  kernel_rfl
theorem i_DeskOk_l0_eq (y0 : List (List Int × Int × List Int)) (y1 : Int) (y2 : Int) (y3 : List (Int)) (y4 : Int) (y5 : List (Int)) (y6 : List (List Int × Int × List Int)) : i_DeskOk_l0 y0 y1 y2 y3 y4 y5 y6 = (cond ((decide (y2 < y1))) (if (0 : Int) ≤ y2 ∧ y2 < (List.length y0 : Int) then (Option.bind (i_PlaceOk_f ((List.getD y0 (y2 : Int).toNat ([], 0, [])).1, (List.getD y0 (y2 : Int).toNat ([], 0, [])).2.1, (List.getD y0 (y2 : Int).toNat ([], 0, [])).2.2)) fun r1 => (cond ((!r1)) (some false) (i_DeskOk_l0 y0 y1 (IntKind.i64.wrap (y2 + 1)) y3 y4 y5 y6))) else none) (i_DeskOk_j1 y3 y4 y5 y6)) := by
  refine (loopK_eq Try.prog (i_DeskOk_E) (sub (Try.f10.body.getD .skip) [1, 0, 1, 0, 0]) _ _).trans ?_
  kernel_rfl
theorem i_DeskOk_j1_eq (y0 : List (Int)) (y1 : Int) (y2 : List (Int)) (y3 : List (List Int × Int × List Int)) : i_DeskOk_j1 y0 y1 y2 y3 = (Option.bind (i_PlaceOk_f (y0, y1, y2)) fun r1 => (cond (r1) (some (decide ((List.length y3 : Int) ≤ 8))) (some false))) := by
  kernel_rfl
theorem i_DeskOk_ent : Entb Try.prog 10 := ⟨Try.f10, by kernel_rfl, by kernel_rfl, by kernel_rfl⟩
theorem i_DeskOk_ok : CtrOk Try.prog 10 ⟨i_DeskOk_sig, i_DeskOk_f⟩ :=
  ctr_of (fn := Try.f10) (by kernel_rfl) (by kernel_rfl) (fun x : Ts i_DeskOk_sig.pc => i_DeskOk_E) (fun x => ⟨(fn_cons ⟨i_PlaceOk_ok, i_PlaceOk_ent⟩ fn_none), clo_none⟩) (fun h => by cases h) follows_ (fun _ _ => trivial)
end FN
set_option linter.unusedVariables false
namespace FN
open Go Go.Proofs
/-! loop.example/firingnets/spec.DeskOk -/
@[reducible] def s_DeskOk_sig : Sig := { ps := [some 4], pc := [.view .i64, .int .i64, .view .i64, .view .place], rs := [none], rc := [.bool] }
noncomputable def s_DeskOk_E : Env' := { fn := fun f => if f = 28 then some ⟨s_PlaceOk_sig, s_PlaceOk_f⟩ else none, ck := ckT, cuts := [(2, [1, 3]), (6, [1])], mine := fun i => false }
noncomputable def s_DeskOk_f (x : Ts s_DeskOk_sig.pc) : Option (Ts s_DeskOk_sig.rc) := runFn Try.prog (s_DeskOk_E) Try.f8 s_DeskOk_sig x
noncomputable def s_DeskOk_l0 (y0 : Int) (y1 : List (Int)) (y2 : Int) (y3 : List (Int)) (y4 : List (List Int × Int × List Int)) : Option ((Bool)) := from_ Try.prog (s_DeskOk_E) Try.f8 s_DeskOk_sig [1, 0, 1, 0] ⟨mkT 27 [(1, .ptr 0 0), (3, .int .i64 y0)], [some (.box 33 [.row false .i64 y1, .int .i64 y2, .row false .i64 y3, .row false .place y4])]⟩
noncomputable def s_DeskOk_j1 (y0 : List (Int)) (y1 : Int) (y2 : List (Int)) (y3 : List (List Int × Int × List Int)) : Option ((Bool)) := from_ Try.prog (s_DeskOk_E) Try.f8 s_DeskOk_sig [1, 1] ⟨mkT 27 [(1, .ptr 0 0)], [some (.box 33 [.row false .i64 y0, .int .i64 y1, .row false .i64 y2, .row false .place y3])]⟩
theorem s_DeskOk_f_eq (x0 : (List (Int))) (x1 : (Int)) (x2 : (List (Int))) (x3 : (List (List Int × Int × List Int))) : s_DeskOk_f (x0, x1, x2, x3) = (s_DeskOk_l0 0 x0 x1 x2 x3) := by
  kernel_rfl
theorem s_DeskOk_l0_eq (y0 : Int) (y1 : List (Int)) (y2 : Int) (y3 : List (Int)) (y4 : List (List Int × Int × List Int)) : s_DeskOk_l0 y0 y1 y2 y3 y4 = (cond ((decide (y0 < (List.length y4 : Int)))) (if (0 : Int) ≤ y0 ∧ y0 < (List.length y4 : Int) then (Option.bind (s_PlaceOk_f ((List.getD y4 (y0 : Int).toNat ([], 0, [])).1, (List.getD y4 (y0 : Int).toNat ([], 0, [])).2.1, (List.getD y4 (y0 : Int).toNat ([], 0, [])).2.2)) fun r1 => (cond ((!r1)) (some false) (s_DeskOk_l0 (IntKind.i64.wrap (y0 + 1)) y1 y2 y3 y4))) else none) (s_DeskOk_j1 y1 y2 y3 y4)) := by
  refine (loopK_eq Try.prog (s_DeskOk_E) (sub (Try.f8.body.getD .skip) [1, 0, 1, 0, 0]) _ _).trans ?_
  kernel_rfl
theorem s_DeskOk_j1_eq (y0 : List (Int)) (y1 : Int) (y2 : List (Int)) (y3 : List (List Int × Int × List Int)) : s_DeskOk_j1 y0 y1 y2 y3 = (Option.bind (s_PlaceOk_f (y0, y1, y2)) fun r1 => (cond (r1) (some (decide ((List.length y3 : Int) ≤ 8))) (some false))) := by
  kernel_rfl
theorem s_DeskOk_ent : Entb Try.prog 8 := ⟨Try.f8, by kernel_rfl, by kernel_rfl, by kernel_rfl⟩
theorem s_DeskOk_ok : CtrOk Try.prog 8 ⟨s_DeskOk_sig, s_DeskOk_f⟩ :=
  ctr_of (fn := Try.f8) (by kernel_rfl) (by kernel_rfl) (fun x : Ts s_DeskOk_sig.pc => s_DeskOk_E) (fun x => ⟨(fn_cons ⟨s_PlaceOk_ok, s_PlaceOk_ent⟩ fn_none), clo_none⟩) (fun h => by cases h) follows_ (fun _ _ => trivial)
end FN
set_option linter.unusedVariables false
namespace FN
open Go Go.Proofs
/-! loop.example/firingnets/laws.sameInts -/
@[reducible] def w_sameInts_sig : Sig := { ps := [none, none], pc := [.view .i64, .view .i64], rs := [none], rc := [.bool] }
noncomputable def w_sameInts_E : Env' := { fn := fun f => none, ck := ckT, cuts := [(4, [0, 1, 5])], mine := fun i => false }
noncomputable def w_sameInts_f (x : Ts w_sameInts_sig.pc) : Option (Ts w_sameInts_sig.rc) := runFn Try.prog (w_sameInts_E) Try.f44 w_sameInts_sig x
noncomputable def w_sameInts_l0 (y0 : List (Int)) (y1 : List (Int)) (y2 : Int) : Option ((Bool)) := from_ Try.prog (w_sameInts_E) Try.f44 w_sameInts_sig [1, 1, 0, 1, 0] ⟨mkT 26 [(0, .row false .i64 y0), (1, .row false .i64 y1), (5, .int .i64 y2)], []⟩
theorem w_sameInts_f_eq (x0 : (List (Int))) (x1 : (List (Int))) : w_sameInts_f (x0, x1) = (cond (((List.length x0 : Int) != (List.length x1 : Int))) (some false) (w_sameInts_l0 x0 x1 0)) := by
  kernel_rfl
theorem w_sameInts_l0_eq (y0 : List (Int)) (y1 : List (Int)) (y2 : Int) : w_sameInts_l0 y0 y1 y2 = (cond ((decide (y2 < (List.length y0 : Int)))) (if (0 : Int) ≤ y2 ∧ y2 < (List.length y0 : Int) then (if (0 : Int) ≤ y2 ∧ y2 < (List.length y1 : Int) then (cond (((List.getD y0 (y2 : Int).toNat 0) != (List.getD y1 (y2 : Int).toNat 0))) (some false) (w_sameInts_l0 y0 y1 (IntKind.i64.wrap (y2 + 1)))) else none) else none) (some true)) := by
  refine (loopK_eq Try.prog (w_sameInts_E) (sub (Try.f44.body.getD .skip) [1, 1, 0, 1, 0, 0]) _ _).trans ?_
  kernel_rfl
theorem w_sameInts_ent : Entb Try.prog 44 := ⟨Try.f44, by kernel_rfl, by kernel_rfl, by kernel_rfl⟩
theorem w_sameInts_ok : CtrOk Try.prog 44 ⟨w_sameInts_sig, w_sameInts_f⟩ :=
  ctr_of (fn := Try.f44) (by kernel_rfl) (by kernel_rfl) (fun x : Ts w_sameInts_sig.pc => w_sameInts_E) (fun x => ⟨fn_none, clo_none⟩) (fun h => by cases h) follows_ (fun _ _ => trivial)
end FN
set_option linter.unusedVariables false
namespace FN
open Go Go.Proofs
/-! loop.example/firingnets/laws.samePlace -/
@[reducible] def w_samePlace_sig : Sig := { ps := [some 3, some 3], pc := [.view .i64, .int .i64, .view .i64, .view .i64, .int .i64, .view .i64], rs := [none], rc := [.bool] }
noncomputable def w_samePlace_E : Env' := { fn := fun f => if f = 44 then some ⟨w_sameInts_sig, w_sameInts_f⟩ else none, ck := ckT, cuts := [], mine := fun i => false }
noncomputable def w_samePlace_f (x : Ts w_samePlace_sig.pc) : Option (Ts w_samePlace_sig.rc) := runFn Try.prog (w_samePlace_E) Try.f25 w_samePlace_sig x
theorem w_samePlace_f_eq (x0 : (List (Int))) (x1 : (Int)) (x2 : (List (Int))) (x3 : (List (Int))) (x4 : (Int)) (x5 : (List (Int))) : w_samePlace_f (x0, x1, x2, x3, x4, x5) = (Option.bind (w_sameInts_f (x0, x3)) fun r1 => (cond (r1) (cond ((x1 == x4)) (Option.bind (w_sameInts_f (x2, x5)) fun r2 => (some r2)) (some false)) (some false))) := by
  kernel_rfl
theorem w_samePlace_ent : Entb Try.prog 25 := ⟨Try.f25, by kernel_rfl, by kernel_rfl, by kernel_rfl⟩
theorem w_samePlace_ok : CtrOk Try.prog 25 ⟨w_samePlace_sig, w_samePlace_f⟩ :=
  ctr_of (fn := Try.f25) (by kernel_rfl) (by kernel_rfl) (fun x : Ts w_samePlace_sig.pc => w_samePlace_E) (fun x => ⟨(fn_cons ⟨w_sameInts_ok, w_sameInts_ent⟩ fn_none), clo_none⟩) (fun h => by cases h) follows_ (fun _ _ => trivial)
end FN
set_option linter.unusedVariables false
namespace FN
open Go Go.Proofs
/-! loop.example/firingnets/laws.sameDesk -/
@[reducible] def w_sameDesk_sig : Sig := { ps := [some 4, some 4], pc := [.view .i64, .int .i64, .view .i64, .view .place, .view .i64, .int .i64, .view .i64, .view .place], rs := [none], rc := [.bool] }
noncomputable def w_sameDesk_E : Env' := { fn := fun f => if f = 25 then some ⟨w_samePlace_sig, w_samePlace_f⟩ else none, ck := ckT, cuts := [(4, [2, 3, 5])], mine := fun i => false }
noncomputable def w_sameDesk_f (x : Ts w_sameDesk_sig.pc) : Option (Ts w_sameDesk_sig.rc) := runFn Try.prog (w_sameDesk_E) Try.f21 w_sameDesk_sig x
noncomputable def w_sameDesk_l0 (y0 : Int) (y1 : List (Int)) (y2 : Int) (y3 : List (Int)) (y4 : List (List Int × Int × List Int)) (y5 : List (Int)) (y6 : Int) (y7 : List (Int)) (y8 : List (List Int × Int × List Int)) : Option ((Bool)) := from_ Try.prog (w_sameDesk_E) Try.f21 w_sameDesk_sig [1, 1, 0, 1, 0] ⟨mkT 40 [(2, .ptr 0 0), (3, .ptr 1 0), (5, .int .i64 y0)], [some (.box 33 [.row false .i64 y1, .int .i64 y2, .row false .i64 y3, .row false .place y4]), some (.box 33 [.row false .i64 y5, .int .i64 y6, .row false .i64 y7, .row false .place y8])]⟩
theorem w_sameDesk_f_eq (x0 : (List (Int))) (x1 : (Int)) (x2 : (List (Int))) (x3 : (List (List Int × Int × List Int))) (x4 : (List (Int))) (x5 : (Int)) (x6 : (List (Int))) (x7 : (List (List Int × Int × List Int))) : w_sameDesk_f (x0, x1, x2, x3, x4, x5, x6, x7) = (Option.bind (w_samePlace_f (x0, x1, x2, x4, x5, x6)) fun r1 => (cond ((!r1)) (some false) (cond (((List.length x3 : Int) != (List.length x7 : Int))) (some false) (w_sameDesk_l0 0 x0 x1 x2 x3 x4 x5 x6 x7)))) := by
  kernel_rfl
theorem w_sameDesk_l0_eq (y0 : Int) (y1 : List (Int)) (y2 : Int) (y3 : List (Int)) (y4 : List (List Int × Int × List Int)) (y5 : List (Int)) (y6 : Int) (y7 : List (Int)) (y8 : List (List Int × Int × List Int)) : w_sameDesk_l0 y0 y1 y2 y3 y4 y5 y6 y7 y8 = (cond ((decide (y0 < (List.length y4 : Int)))) (if (0 : Int) ≤ y0 ∧ y0 < (List.length y4 : Int) then (if (0 : Int) ≤ y0 ∧ y0 < (List.length y8 : Int) then (Option.bind (w_samePlace_f ((List.getD y4 (y0 : Int).toNat ([], 0, [])).1, (List.getD y4 (y0 : Int).toNat ([], 0, [])).2.1, (List.getD y4 (y0 : Int).toNat ([], 0, [])).2.2, (List.getD y8 (y0 : Int).toNat ([], 0, [])).1, (List.getD y8 (y0 : Int).toNat ([], 0, [])).2.1, (List.getD y8 (y0 : Int).toNat ([], 0, [])).2.2)) fun r1 => (cond ((!r1)) (some false) (w_sameDesk_l0 (IntKind.i64.wrap (y0 + 1)) y1 y2 y3 y4 y5 y6 y7 y8))) else none) else none) (some true)) := by
  refine (loopK_eq Try.prog (w_sameDesk_E) (sub (Try.f21.body.getD .skip) [1, 1, 0, 1, 0, 0]) _ _).trans ?_
  kernel_rfl
theorem w_sameDesk_ent : Entb Try.prog 21 := ⟨Try.f21, by kernel_rfl, by kernel_rfl, by kernel_rfl⟩
theorem w_sameDesk_ok : CtrOk Try.prog 21 ⟨w_sameDesk_sig, w_sameDesk_f⟩ :=
  ctr_of (fn := Try.f21) (by kernel_rfl) (by kernel_rfl) (fun x : Ts w_sameDesk_sig.pc => w_sameDesk_E) (fun x => ⟨(fn_cons ⟨w_samePlace_ok, w_samePlace_ent⟩ fn_none), clo_none⟩) (fun h => by cases h) follows_ (fun _ _ => trivial)
end FN
set_option linter.unusedVariables false
namespace FN
open Go Go.Proofs
/-! loop.example/firingnets/laws.noDesk -/
@[reducible] def w_noDesk_sig : Sig := { ps := [some 4], pc := [.view .i64, .int .i64, .view .i64, .view .place], rs := [none], rc := [.bool] }
noncomputable def w_noDesk_E : Env' := { fn := fun f => if f = 21 then some ⟨w_sameDesk_sig, w_sameDesk_f⟩ else none, ck := ckT, cuts := [], mine := fun i => false }
noncomputable def w_noDesk_f (x : Ts w_noDesk_sig.pc) : Option (Ts w_noDesk_sig.rc) := runFn Try.prog (w_noDesk_E) Try.f22 w_noDesk_sig x
theorem w_noDesk_f_eq (x0 : (List (Int))) (x1 : (Int)) (x2 : (List (Int))) (x3 : (List (List Int × Int × List Int))) : w_noDesk_f (x0, x1, x2, x3) = (Option.bind (w_sameDesk_f (x0, x1, x2, x3, [], 0, [], [])) fun r1 => (some r1)) := by
  kernel_rfl
theorem w_noDesk_ent : Entb Try.prog 22 := ⟨Try.f22, by kernel_rfl, by kernel_rfl, by kernel_rfl⟩
theorem w_noDesk_ok : CtrOk Try.prog 22 ⟨w_noDesk_sig, w_noDesk_f⟩ :=
  ctr_of (fn := Try.f22) (by kernel_rfl) (by kernel_rfl) (fun x : Ts w_noDesk_sig.pc => w_noDesk_E) (fun x => ⟨(fn_cons ⟨w_sameDesk_ok, w_sameDesk_ent⟩ fn_none), clo_none⟩) (fun h => by cases h) follows_ (fun _ _ => trivial)
end FN
set_option linter.unusedVariables false
namespace FN
open Go Go.Proofs
/-! loop.example/firingnets/laws.alive -/
@[reducible] def w_alive_sig : Sig := { ps := [], pc := [], rs := [none], rc := [.bool] }
noncomputable def w_alive_E : Env' := { fn := fun f => if f = 43 then some ⟨i_NetOk_sig, i_NetOk_f⟩ else none, ck := ckT, cuts := [], mine := fun i => false }
noncomputable def w_alive_f (x : Ts w_alive_sig.pc) : Option (Ts w_alive_sig.rc) := runFn Try.prog (w_alive_E) Try.f24 w_alive_sig x
theorem w_alive_f_eq  : w_alive_f () = (Option.bind (i_NetOk_f ([2, 1] : List (Int))) fun r1 => (cond (r1) (Option.bind (i_NetOk_f ([1] : List (Int))) fun r2 => (some (!r2))) (some false))) := by
  kernel_rfl
theorem w_alive_ent : Entb Try.prog 24 := ⟨Try.f24, by kernel_rfl, by kernel_rfl, by kernel_rfl⟩
theorem w_alive_ok : CtrOk Try.prog 24 ⟨w_alive_sig, w_alive_f⟩ :=
  ctr_of (fn := Try.f24) (by kernel_rfl) (by kernel_rfl) (fun x : Ts w_alive_sig.pc => w_alive_E) (fun x => ⟨(fn_cons ⟨i_NetOk_ok, i_NetOk_ent⟩ fn_none), clo_none⟩) (fun h => by cases h) follows_ (fun _ _ => trivial)
end FN
set_option linter.unusedVariables false
namespace FN
open Go Go.Proofs
/-! (*loop.example/firingnets/spec.l20Rd).pick -/
@[reducible] def r_pick_sig : Sig := { rd := some 70, ps := [none], pc := [.view .u8, .int .i64, .int .i64], rs := [none], rc := [.int .i64, .int .i64] }
noncomputable def r_pick_E (b : List Int) : Env' := { keep := [0], rdb := b, fn := fun f => none, ck := ckT, cuts := [], mine := fun i => false }
noncomputable def r_pick_f (x : Ts r_pick_sig.pc) : Option (Ts r_pick_sig.rc) := runFn Try.prog (r_pick_E x.1) Try.f50 r_pick_sig x
theorem r_pick_f_eq (x0 : (List (Int))) (x1 : (Int)) (x2 : (Int)) : r_pick_f (x0, x1, x2) = (cond ((decide (x2 < 1))) (if 70 = 70 ∧ x0 = x0 then (some (0, (IntKind.i64.wrap (x1 + 1)))) else none) (cond (((List.length x0 : Int) == 0)) (if 70 = 70 ∧ x0 = x0 then (some (0, (IntKind.i64.wrap (x1 + 1)))) else none) (cond ((decide ((IntKind.i64.wrap ((IntKind.i64.wrap (x1 + 1)) - 1)) < (List.length x0 : Int)))) (if (0 : Int) ≤ (IntKind.i64.wrap ((IntKind.i64.wrap (x1 + 1)) - 1)) ∧ (IntKind.i64.wrap ((IntKind.i64.wrap (x1 + 1)) - 1)) < (List.length x0 : Int) then (if x2 = 0 then none else (if 70 = 70 ∧ x0 = x0 then (some ((Int.tmod (IntKind.i64.wrap (List.getD x0 ((IntKind.i64.wrap ((IntKind.i64.wrap (x1 + 1)) - 1)) : Int).toNat 0)) x2), (IntKind.i64.wrap (x1 + 1)))) else none)) else none) (if (List.length x0 : Int) = 0 then none else (if (0 : Int) ≤ (Int.tmod (IntKind.i64.wrap ((IntKind.i64.wrap (x1 + 1)) - 1)) (List.length x0 : Int)) ∧ (Int.tmod (IntKind.i64.wrap ((IntKind.i64.wrap (x1 + 1)) - 1)) (List.length x0 : Int)) < (List.length x0 : Int) then (if (List.length x0 : Int) = 0 then none else (if (0 : Int) ≤ (Int.tmod (IntKind.i64.wrap ((IntKind.i64.wrap ((IntKind.i64.wrap ((IntKind.i64.wrap (x1 + 1)) - 1)) * 7)) + 3)) (List.length x0 : Int)) ∧ (Int.tmod (IntKind.i64.wrap ((IntKind.i64.wrap ((IntKind.i64.wrap ((IntKind.i64.wrap (x1 + 1)) - 1)) * 7)) + 3)) (List.length x0 : Int)) < (List.length x0 : Int) then (if (List.length x0 : Int) = 0 then none else (if x2 = 0 then none else (if 70 = 70 ∧ x0 = x0 then (some ((Int.tmod (Go.bits .xor IntKind.i64 (IntKind.i64.wrap ((IntKind.i64.wrap ((IntKind.i64.wrap ((IntKind.i64.wrap ((IntKind.i64.wrap (List.getD x0 ((Int.tmod (IntKind.i64.wrap ((IntKind.i64.wrap (x1 + 1)) - 1)) (List.length x0 : Int)) : Int).toNat 0)) * 131)) + (IntKind.i64.wrap ((IntKind.i64.wrap (List.getD x0 ((Int.tmod (IntKind.i64.wrap ((IntKind.i64.wrap ((IntKind.i64.wrap ((IntKind.i64.wrap (x1 + 1)) - 1)) * 7)) + 3)) (List.length x0 : Int)) : Int).toNat 0)) * 1117)))) + (IntKind.i64.wrap ((IntKind.i64.wrap ((IntKind.i64.wrap (x1 + 1)) - 1)) * 29)))) + (IntKind.i64.wrap ((IntKind.i64.wrap (Int.tdiv (IntKind.i64.wrap ((IntKind.i64.wrap (x1 + 1)) - 1)) (List.length x0 : Int))) * 53)))) (IntKind.i64.wrap (Int.tdiv (IntKind.i64.wrap ((IntKind.i64.wrap ((IntKind.i64.wrap ((IntKind.i64.wrap ((IntKind.i64.wrap (List.getD x0 ((Int.tmod (IntKind.i64.wrap ((IntKind.i64.wrap (x1 + 1)) - 1)) (List.length x0 : Int)) : Int).toNat 0)) * 131)) + (IntKind.i64.wrap ((IntKind.i64.wrap (List.getD x0 ((Int.tmod (IntKind.i64.wrap ((IntKind.i64.wrap ((IntKind.i64.wrap ((IntKind.i64.wrap (x1 + 1)) - 1)) * 7)) + 3)) (List.length x0 : Int)) : Int).toNat 0)) * 1117)))) + (IntKind.i64.wrap ((IntKind.i64.wrap ((IntKind.i64.wrap (x1 + 1)) - 1)) * 29)))) + (IntKind.i64.wrap ((IntKind.i64.wrap (Int.tdiv (IntKind.i64.wrap ((IntKind.i64.wrap (x1 + 1)) - 1)) (List.length x0 : Int))) * 53)))) 64))) x2), (IntKind.i64.wrap (x1 + 1)))) else none))) else none)) else none))))) := by
  kernel_rfl
theorem r_pick_ent : Entb Try.prog 50 := ⟨Try.f50, by kernel_rfl, by kernel_rfl, by kernel_rfl⟩
theorem r_pick_ok : CtrOk Try.prog 50 ⟨r_pick_sig, r_pick_f⟩ :=
  ctr_of (fn := Try.f50) (by kernel_rfl) (by kernel_rfl) (fun x : Ts r_pick_sig.pc => r_pick_E x.1) (fun x => ⟨fn_none, clo_none⟩) (fun _ x => ⟨rfl, fun b ps h => rd_head h⟩) follows_ (fun _ _ => trivial)
end FN
set_option linter.unusedVariables false
namespace FN
open Go Go.Proofs
/-! loop.example/firingnets/spec.l20Open -/
@[reducible] def s_l20Open_sig : Sig := { ps := [none], pc := [.view .u8], nw := some 70, rs := [none], rc := [.view .u8, .int .i64] }
noncomputable def s_l20Open_E : Env' := { fn := fun f => none, ck := ckT, cuts := [], mine := fun i => false }
noncomputable def s_l20Open_f (x : Ts s_l20Open_sig.pc) : Option (Ts s_l20Open_sig.rc) := runFn Try.prog (s_l20Open_E) Try.f41 s_l20Open_sig x
theorem s_l20Open_f_eq (x0 : (List (Int))) : s_l20Open_f x0 = (cond ((decide (2000 < (List.length x0 : Int)))) (if (0 : Int) ≤ 2000 ∧ 2000 ≤ (List.length x0 : Int) then (some ((List.drop 0 (List.take ((2000 : Int).toNat) x0)), 0)) else none) (some (x0, 0))) := by
  kernel_rfl
theorem s_l20Open_ent : Entb Try.prog 41 := ⟨Try.f41, by kernel_rfl, by kernel_rfl, by kernel_rfl⟩
theorem s_l20Open_ok : CtrOk Try.prog 41 ⟨s_l20Open_sig, s_l20Open_f⟩ :=
  ctr_of (fn := Try.f41) (by kernel_rfl) (by kernel_rfl) (fun x : Ts s_l20Open_sig.pc => s_l20Open_E) (fun x => ⟨fn_none, clo_none⟩) (fun h => by cases h) follows_ (fun _ _ => trivial)
end FN
set_option linter.unusedVariables false
namespace FN
open Go Go.Proofs
/-! (*loop.example/firingnets/spec.l20Rd).odd -/
@[reducible] def r_odd_sig : Sig := { rd := some 70, ps := [none], pc := [.view .u8, .int .i64, .int .i64], rs := [none], rc := [.bool, .int .i64] }
noncomputable def r_odd_E (b : List Int) : Env' := { keep := [0], rdb := b, fn := fun f => if f = 50 then some ⟨r_pick_sig, r_pick_f⟩ else none, ck := ckT, cuts := [], mine := fun i => false }
noncomputable def r_odd_f (x : Ts r_odd_sig.pc) : Option (Ts r_odd_sig.rc) := runFn Try.prog (r_odd_E x.1) Try.f52 r_odd_sig x
theorem r_odd_f_eq (x0 : (List (Int))) (x1 : (Int)) (x2 : (Int)) : r_odd_f (x0, x1, x2) = (cond ((decide (0 < x2))) (Option.bind (r_pick_f (x0, x1, x2)) fun r1 => (if 70 = 70 ∧ x0 = x0 then (some ((r1.1 == (IntKind.i64.wrap (x2 - 1))), r1.2)) else none)) (if 70 = 70 ∧ x0 = x0 then (some (false, x1)) else none)) := by
  kernel_rfl
theorem r_odd_ent : Entb Try.prog 52 := ⟨Try.f52, by kernel_rfl, by kernel_rfl, by kernel_rfl⟩
theorem r_odd_ok : CtrOk Try.prog 52 ⟨r_odd_sig, r_odd_f⟩ :=
  ctr_of (fn := Try.f52) (by kernel_rfl) (by kernel_rfl) (fun x : Ts r_odd_sig.pc => r_odd_E x.1) (fun x => ⟨(fn_cons ⟨r_pick_ok, r_pick_ent⟩ fn_none), clo_none⟩) (fun _ x => ⟨rfl, fun b ps h => rd_head h⟩) follows_ (fun _ _ => trivial)
end FN
set_option linter.unusedVariables false
namespace FN
open Go Go.Proofs
/-! loop.example/firingnets/spec.PathNet -/
@[reducible] def s_PathNet_sig : Sig := { ps := [none], pc := [.int .i64], rs := [none], rc := [.row 3 .i64] }
noncomputable def s_PathNet_E : Env' := { fn := fun f => if f = 63 then some ⟨s_l1In_sig, s_l1In_f⟩ else none, ck := ckT, cuts := [(3, [0, 3, 4]), (8, [0, 3, 4, 5])], mine := fun i => false }
noncomputable def s_PathNet_f (x : Ts s_PathNet_sig.pc) : Option (Ts s_PathNet_sig.rc) := runFn Try.prog (s_PathNet_E) Try.f58 s_PathNet_sig x
noncomputable def s_PathNet_l0 (y0 : Int) (y1 : Int) (y2 : List (Int)) : Option ((List (Int))) := from_ Try.prog (s_PathNet_E) Try.f58 s_PathNet_sig [1, 1, 0, 1, 0] ⟨mkT 37 [(0, .int .i64 y0), (3, .own 0), (4, .int .i64 y1)], [some (.arr 3 true .i64 y2)]⟩
noncomputable def s_PathNet_j1 (y0 : Int) (y1 : Int) (y2 : Int) (y3 : List (Int)) : Option ((List (Int))) := from_ Try.prog (s_PathNet_E) Try.f58 s_PathNet_sig [1, 1, 0, 1, 0, 0, 1, 0, 0, 1, 1] ⟨mkT 37 [(0, .int .i64 y0), (3, .own 0), (4, .int .i64 y1), (5, .int .i64 y2)], [some (.arr 3 true .i64 y3)]⟩
theorem s_PathNet_f_eq (x0 : (Int)) : s_PathNet_f x0 = (s_PathNet_l0 x0 0 ([] : List (Int))) := by
  kernel_rfl
theorem s_PathNet_l0_eq (y0 : Int) (y1 : Int) (y2 : List (Int)) : s_PathNet_l0 y0 y1 y2 = (cond ((decide (y1 < y0))) (Option.bind (s_l1In_f (y0, 1, 6)) fun r1 => (cond (r1) (cond ((decide (0 < y1))) (if (IntKind.i64.wrap (y1 - 1)) < 0 then none else (s_PathNet_j1 y0 y1 (Go.bits .or IntKind.i64 0 (IntKind.i64.wrap (1 * 2 ^ min ((IntKind.i64.wrap (y1 - 1)) : Int).toNat IntKind.i64.bits))) y2)) (s_PathNet_j1 y0 y1 0 y2)) (some y2))) (some y2)) := by
  refine (loopK_eq Try.prog (s_PathNet_E) (sub (Try.f58.body.getD .skip) [1, 1, 0, 1, 0, 0]) _ _).trans ?_
  kernel_rfl
theorem s_PathNet_j1_eq (y0 : Int) (y1 : Int) (y2 : Int) (y3 : List (Int)) : s_PathNet_j1 y0 y1 y2 y3 = (cond ((decide ((IntKind.i64.wrap (y1 + 1)) < y0))) (if (IntKind.i64.wrap (y1 + 1)) < 0 then none else (if (List.length y3 + List.length ([(Go.bits .or IntKind.i64 y2 (IntKind.i64.wrap (1 * 2 ^ min ((IntKind.i64.wrap (y1 + 1)) : Int).toNat IntKind.i64.bits)))] : List (Int))) * 8 ≤ 140737488355328 then (s_PathNet_l0 y0 (IntKind.i64.wrap (y1 + 1)) (y3 ++ ([(Go.bits .or IntKind.i64 y2 (IntKind.i64.wrap (1 * 2 ^ min ((IntKind.i64.wrap (y1 + 1)) : Int).toNat IntKind.i64.bits)))] : List (Int)))) else none)) (if (List.length y3 + List.length ([y2] : List (Int))) * 8 ≤ 140737488355328 then (s_PathNet_l0 y0 (IntKind.i64.wrap (y1 + 1)) (y3 ++ ([y2] : List (Int)))) else none)) := by
  kernel_rfl
theorem s_PathNet_ent : Entb Try.prog 58 := ⟨Try.f58, by kernel_rfl, by kernel_rfl, by kernel_rfl⟩
theorem s_PathNet_ok : CtrOk Try.prog 58 ⟨s_PathNet_sig, s_PathNet_f⟩ :=
  ctr_of (fn := Try.f58) (by kernel_rfl) (by kernel_rfl) (fun x : Ts s_PathNet_sig.pc => s_PathNet_E) (fun x => ⟨(fn_cons ⟨s_l1In_ok, s_l1In_ent⟩ fn_none), clo_none⟩) (fun h => by cases h) follows_ (fun _ _ => trivial)
end FN
set_option linter.unusedVariables false
namespace FN
open Go Go.Proofs
/-! loop.example/firingnets/spec.RingNet -/
@[reducible] def s_RingNet_sig : Sig := { ps := [none], pc := [.int .i64], rs := [none], rc := [.row 3 .i64] }
noncomputable def s_RingNet_E : Env' := { fn := fun f => if f = 63 then some ⟨s_l1In_sig, s_l1In_f⟩ else none, ck := ckT, cuts := [(3, [0, 3, 4])], mine := fun i => false }
noncomputable def s_RingNet_f (x : Ts s_RingNet_sig.pc) : Option (Ts s_RingNet_sig.rc) := runFn Try.prog (s_RingNet_E) Try.f59 s_RingNet_sig x
noncomputable def s_RingNet_l0 (y0 : Int) (y1 : Int) (y2 : List (Int)) : Option ((List (Int))) := from_ Try.prog (s_RingNet_E) Try.f59 s_RingNet_sig [1, 1, 0, 1, 0] ⟨mkT 32 [(0, .int .i64 y0), (3, .own 0), (4, .int .i64 y1)], [some (.arr 3 true .i64 y2)]⟩
theorem s_RingNet_f_eq (x0 : (Int)) : s_RingNet_f x0 = (s_RingNet_l0 x0 0 ([] : List (Int))) := by
  kernel_rfl
theorem s_RingNet_l0_eq (y0 : Int) (y1 : Int) (y2 : List (Int)) : s_RingNet_l0 y0 y1 y2 = (cond ((decide (y1 < y0))) (Option.bind (s_l1In_f (y0, 3, 6)) fun r1 => (cond (r1) (if y0 = 0 then none else (if (Int.tmod (IntKind.i64.wrap (y1 + 1)) y0) < 0 then none else (if y0 = 0 then none else (if (Int.tmod (IntKind.i64.wrap ((IntKind.i64.wrap (y1 + y0)) - 1)) y0) < 0 then none else (if (List.length y2 + List.length ([(Go.bits .or IntKind.i64 (IntKind.i64.wrap (1 * 2 ^ min ((Int.tmod (IntKind.i64.wrap (y1 + 1)) y0) : Int).toNat IntKind.i64.bits)) (IntKind.i64.wrap (1 * 2 ^ min ((Int.tmod (IntKind.i64.wrap ((IntKind.i64.wrap (y1 + y0)) - 1)) y0) : Int).toNat IntKind.i64.bits)))] : List (Int))) * 8 ≤ 140737488355328 then (s_RingNet_l0 y0 (IntKind.i64.wrap (y1 + 1)) (y2 ++ ([(Go.bits .or IntKind.i64 (IntKind.i64.wrap (1 * 2 ^ min ((Int.tmod (IntKind.i64.wrap (y1 + 1)) y0) : Int).toNat IntKind.i64.bits)) (IntKind.i64.wrap (1 * 2 ^ min ((Int.tmod (IntKind.i64.wrap ((IntKind.i64.wrap (y1 + y0)) - 1)) y0) : Int).toNat IntKind.i64.bits)))] : List (Int)))) else none))))) (some y2))) (some y2)) := by
  refine (loopK_eq Try.prog (s_RingNet_E) (sub (Try.f59.body.getD .skip) [1, 1, 0, 1, 0, 0]) _ _).trans ?_
  kernel_rfl
theorem s_RingNet_ent : Entb Try.prog 59 := ⟨Try.f59, by kernel_rfl, by kernel_rfl, by kernel_rfl⟩
theorem s_RingNet_ok : CtrOk Try.prog 59 ⟨s_RingNet_sig, s_RingNet_f⟩ :=
  ctr_of (fn := Try.f59) (by kernel_rfl) (by kernel_rfl) (fun x : Ts s_RingNet_sig.pc => s_RingNet_E) (fun x => ⟨(fn_cons ⟨s_l1In_ok, s_l1In_ent⟩ fn_none), clo_none⟩) (fun h => by cases h) follows_ (fun _ _ => trivial)
end FN
set_option linter.unusedVariables false
namespace FN
open Go Go.Proofs
/-! loop.example/firingnets/spec.l20Net -/
@[reducible] def s_l20Net_sig : Sig := { rd := some 70, ps := [none], pc := [.view .u8, .int .i64, .int .i64], rs := [none], rc := [.row 3 .i64, .int .i64] }
noncomputable def s_l20Net_E (b : List Int) : Env' := { keep := [0], rdb := b, fn := fun f => if f = 50 then some ⟨r_pick_sig, r_pick_f⟩ else if f = 52 then some ⟨r_odd_sig, r_odd_f⟩ else if f = 58 then some ⟨s_PathNet_sig, s_PathNet_f⟩ else if f = 59 then some ⟨s_RingNet_sig, s_RingNet_f⟩ else none, ck := ckT, cuts := [(9, [0, 1, 5, 6]), (10, [0, 1, 5, 6, 7]), (17, [0, 1, 5, 6])], mine := fun i => i == 11 || i == 14 || i == 16 || i == 22 || i == 28 || i == 35 || i == 38 || i == 64 || i == 66 }
noncomputable def s_l20Net_f (x : Ts s_l20Net_sig.pc) : Option (Ts s_l20Net_sig.rc) := runFn Try.prog (s_l20Net_E x.1) Try.f49 s_l20Net_sig x
noncomputable def s_l20Net_j0 (b : List Int) (y0 : Int) (y1 : Int) (y2 : List (Int)) (y3 : Int) (y4 : List (Int)) : Option ((List (Int)) × (Int)) := from_ Try.prog (s_l20Net_E b) Try.f49 s_l20Net_sig [1, 1, 1, 1] ⟨mkT 92 [(0, .ptr 0 0), (1, .int .i64 y0), (5, .int .i64 y1), (6, .own 1)], [some (.box 70 [.row false .u8 y2, .int .i64 y3]), some (.arr 3 true .i64 y4)]⟩
noncomputable def s_l20Net_l1 (b : List Int) (y0 : Int) (y1 : Int) (y2 : Int) (y3 : List (Int)) (y4 : Int) (y5 : List (Int)) : Option ((List (Int)) × (Int)) := from_ Try.prog (s_l20Net_E b) Try.f49 s_l20Net_sig [1, 1, 1, 1, 0, 1, 0] ⟨mkT 92 [(0, .ptr 0 0), (1, .int .i64 y0), (5, .int .i64 y1), (6, .own 1), (7, .int .i64 y2)], [some (.box 70 [.row false .u8 y3, .int .i64 y4]), some (.arr 3 true .i64 y5)]⟩
noncomputable def s_l20Net_j2 (b : List Int) (y0 : Int) (y1 : Int) (y2 : List (Int)) (y3 : Int) (y4 : List (Int)) : Option ((List (Int)) × (Int)) := from_ Try.prog (s_l20Net_E b) Try.f49 s_l20Net_sig [1, 1, 1, 1, 1] ⟨mkT 92 [(0, .ptr 0 0), (1, .int .i64 y0), (5, .int .i64 y1), (6, .own 1)], [some (.box 70 [.row false .u8 y2, .int .i64 y3]), some (.arr 3 true .i64 y4)]⟩
theorem s_l20Net_f_eq (x0 : (List (Int))) (x1 : (Int)) (x2 : (Int)) : s_l20Net_f (x0, x1, x2) = (Option.bind (r_pick_f (x0, x1, 6)) fun r1 => (Option.bind (s_PathNet_f (IntKind.i64.wrap (1 + r1.1))) fun r2 => (Option.bind (r_pick_f (x0, r1.2, 4)) fun r3 => (cond ((r3.1 == 0)) (cond ((decide (3 ≤ (IntKind.i64.wrap (1 + r1.1))))) (Option.bind (s_RingNet_f (IntKind.i64.wrap (1 + r1.1))) fun r4 => (s_l20Net_j0 x0 x2 (IntKind.i64.wrap (1 + r1.1)) x0 r3.2 r4)) (s_l20Net_j0 x0 x2 (IntKind.i64.wrap (1 + r1.1)) x0 r3.2 r2)) (cond ((r3.1 == 1)) (if (0 : Int) ≤ (IntKind.i64.wrap (1 + r1.1)) ∧ (IntKind.i64.wrap (1 + r1.1)) * 8 ≤ 140737488355328 ∧ (IntKind.i64.wrap (1 + r1.1)) ≤ 140737488355328 then (s_l20Net_j0 x0 x2 (IntKind.i64.wrap (1 + r1.1)) x0 r3.2 (List.replicate ((IntKind.i64.wrap (1 + r1.1)) : Int).toNat 0 : List (Int))) else none) (s_l20Net_j0 x0 x2 (IntKind.i64.wrap (1 + r1.1)) x0 r3.2 r2)))))) := by
  kernel_rfl
theorem s_l20Net_j0_eq (b : List Int) (y0 : Int) (y1 : Int) (y2 : List (Int)) (y3 : Int) (y4 : List (Int)) : s_l20Net_j0 b y0 y1 y2 y3 y4 = (Option.bind (r_pick_f (y2, y3, 6)) fun r1 => (s_l20Net_l1 b y0 y1 r1.1 y2 r1.2 y4)) := by
  kernel_rfl
theorem s_l20Net_l1_eq (b : List Int) (y0 : Int) (y1 : Int) (y2 : Int) (y3 : List (Int)) (y4 : Int) (y5 : List (Int)) : s_l20Net_l1 b y0 y1 y2 y3 y4 y5 = (cond ((decide (0 < y2))) (Option.bind (r_pick_f (y3, y4, y1)) fun r1 => (Option.bind (r_pick_f (y3, r1.2, y1)) fun r2 => (cond ((r1.1 != r2.1)) (if (0 : Int) ≤ r1.1 ∧ r1.1 < (List.length y5 : Int) then (if r2.1 < 0 then none else (if (0 : Int) ≤ r1.1 ∧ r1.1 < (List.length y5 : Int) then (if (0 : Int) ≤ r2.1 ∧ r2.1 < (List.length (List.set y5 (r1.1 : Int).toNat (Go.bits .or IntKind.i64 (List.getD y5 (r1.1 : Int).toNat 0) (IntKind.i64.wrap (1 * 2 ^ min (r2.1 : Int).toNat IntKind.i64.bits)))) : Int) then (if r1.1 < 0 then none else (if (0 : Int) ≤ r2.1 ∧ r2.1 < (List.length (List.set y5 (r1.1 : Int).toNat (Go.bits .or IntKind.i64 (List.getD y5 (r1.1 : Int).toNat 0) (IntKind.i64.wrap (1 * 2 ^ min (r2.1 : Int).toNat IntKind.i64.bits)))) : Int) then (s_l20Net_l1 b y0 y1 (IntKind.i64.wrap (y2 - 1)) y3 r2.2 (List.set (List.set y5 (r1.1 : Int).toNat (Go.bits .or IntKind.i64 (List.getD y5 (r1.1 : Int).toNat 0) (IntKind.i64.wrap (1 * 2 ^ min (r2.1 : Int).toNat IntKind.i64.bits)))) (r2.1 : Int).toNat (Go.bits .or IntKind.i64 (List.getD (List.set y5 (r1.1 : Int).toNat (Go.bits .or IntKind.i64 (List.getD y5 (r1.1 : Int).toNat 0) (IntKind.i64.wrap (1 * 2 ^ min (r2.1 : Int).toNat IntKind.i64.bits)))) (r2.1 : Int).toNat 0) (IntKind.i64.wrap (1 * 2 ^ min (r1.1 : Int).toNat IntKind.i64.bits))))) else none)) else none) else none)) else none) (s_l20Net_l1 b y0 y1 (IntKind.i64.wrap (y2 - 1)) y3 r2.2 y5)))) (s_l20Net_j2 b y0 y1 y3 y4 y5)) := by
  refine (loopK_eq Try.prog (s_l20Net_E b) (sub (Try.f49.body.getD .skip) [1, 1, 1, 1, 0, 1, 0, 0]) _ _).trans ?_
  kernel_rfl
theorem s_l20Net_j2_eq (b : List Int) (y0 : Int) (y1 : Int) (y2 : List (Int)) (y3 : Int) (y4 : List (Int)) : s_l20Net_j2 b y0 y1 y2 y3 y4 = (Option.bind (r_odd_f (y2, y3, y0)) fun r1 => (cond (r1.1) (Option.bind (r_pick_f (y2, r1.2, 3)) fun r2 => (cond ((r2.1 == 0)) (if 70 = 70 ∧ y2 = b then (some (([] : List (Int)), r2.2)) else none) (cond ((r2.1 == 1)) (if (0 : Int) ≤ 0 ∧ 0 < (List.length y4 : Int) then (if (0 : Int) ≤ 0 ∧ 0 < (List.length y4 : Int) then (if 70 = 70 ∧ y2 = b then (some ((List.set y4 (0 : Int).toNat (Go.bits .or IntKind.i64 (List.getD y4 (0 : Int).toNat 0) 1)), r2.2)) else none) else none) else none) (if (0 : Int) ≤ 0 ∧ 0 < (List.length y4 : Int) then (if (IntKind.i64.wrap (y1 - 1)) < 0 then none else (if (0 : Int) ≤ 0 ∧ 0 < (List.length y4 : Int) then (cond ((y1 == 1)) (if (0 : Int) ≤ 0 ∧ 0 < (List.length (List.set y4 (0 : Int).toNat (Go.bits .xor IntKind.i64 (List.getD y4 (0 : Int).toNat 0) (IntKind.i64.wrap (1 * 2 ^ min ((IntKind.i64.wrap (y1 - 1)) : Int).toNat IntKind.i64.bits)))) : Int) then (if 70 = 70 ∧ y2 = b then (some ((List.set (List.set y4 (0 : Int).toNat (Go.bits .xor IntKind.i64 (List.getD y4 (0 : Int).toNat 0) (IntKind.i64.wrap (1 * 2 ^ min ((IntKind.i64.wrap (y1 - 1)) : Int).toNat IntKind.i64.bits)))) (0 : Int).toNat (-1)), r2.2)) else none) else none) (if 70 = 70 ∧ y2 = b then (some ((List.set y4 (0 : Int).toNat (Go.bits .xor IntKind.i64 (List.getD y4 (0 : Int).toNat 0) (IntKind.i64.wrap (1 * 2 ^ min ((IntKind.i64.wrap (y1 - 1)) : Int).toNat IntKind.i64.bits)))), r2.2)) else none)) else none)) else none)))) (if 70 = 70 ∧ y2 = b then (some (y4, r1.2)) else none))) := by
  kernel_rfl
theorem s_l20Net_ent : Entb Try.prog 49 := ⟨Try.f49, by kernel_rfl, by kernel_rfl, by kernel_rfl⟩
theorem s_l20Net_ok : CtrOk Try.prog 49 ⟨s_l20Net_sig, s_l20Net_f⟩ :=
  ctr_of (fn := Try.f49) (by kernel_rfl) (by kernel_rfl) (fun x : Ts s_l20Net_sig.pc => s_l20Net_E x.1) (fun x => ⟨(fn_cons ⟨r_pick_ok, r_pick_ent⟩ (fn_cons ⟨r_odd_ok, r_odd_ent⟩ (fn_cons ⟨s_PathNet_ok, s_PathNet_ent⟩ (fn_cons ⟨s_RingNet_ok, s_RingNet_ent⟩ fn_none)))), clo_none⟩) (fun _ x => ⟨rfl, fun b ps h => rd_head h⟩) follows_ (fun _ _ => trivial)
end FN
set_option linter.unusedVariables false
namespace FN
open Go Go.Proofs
/-! loop.example/firingnets/spec.l20State -/
@[reducible] def s_l20State_sig : Sig := { rd := some 70, ps := [none, none, none], pc := [.view .u8, .int .i64, .int .i64, .int .i64, .int .i64], rs := [none], rc := [.row 3 .i64, .int .i64] }
noncomputable def s_l20State_E (b : List Int) : Env' := { keep := [0], rdb := b, fn := fun f => if f = 50 then some ⟨r_pick_sig, r_pick_f⟩ else if f = 52 then some ⟨r_odd_sig, r_odd_f⟩ else none, ck := ckT, cuts := [(4, [0, 1, 2, 3, 9, 10, 11]), (9, [0, 2, 3, 9])], mine := fun i => false }
noncomputable def s_l20State_f (x : Ts s_l20State_sig.pc) : Option (Ts s_l20State_sig.rc) := runFn Try.prog (s_l20State_E x.1) Try.f51 s_l20State_sig x
noncomputable def s_l20State_l0 (b : List Int) (y0 : Int) (y1 : Int) (y2 : Int) (y3 : Int) (y4 : Int) (y5 : List (Int)) (y6 : Int) (y7 : List (Int)) : Option ((List (Int)) × (Int)) := from_ Try.prog (s_l20State_E b) Try.f51 s_l20State_sig [1, 1, 1, 0, 1, 0] ⟨mkT 52 [(0, .ptr 0 0), (1, .int .i64 y0), (2, .int .i64 y1), (3, .int .i64 y2), (9, .own 1), (10, .int .i64 y3), (11, .int .i64 y4)], [some (.box 70 [.row false .u8 y5, .int .i64 y6]), some (.arr 3 true .i64 y7)]⟩
noncomputable def s_l20State_j1 (b : List Int) (y0 : Int) (y1 : Int) (y2 : List (Int)) (y3 : Int) (y4 : List (Int)) : Option ((List (Int)) × (Int)) := from_ Try.prog (s_l20State_E b) Try.f51 s_l20State_sig [1, 1, 1, 1] ⟨mkT 52 [(0, .ptr 0 0), (2, .int .i64 y0), (3, .int .i64 y1), (9, .own 1)], [some (.box 70 [.row false .u8 y2, .int .i64 y3]), some (.arr 3 true .i64 y4)]⟩
theorem s_l20State_f_eq (x0 : (List (Int))) (x1 : (Int)) (x2 : (Int)) (x3 : (Int)) (x4 : (Int)) : s_l20State_f (x0, x1, x2, x3, x4) = (Option.bind (r_pick_f (x0, x1, 3)) fun r1 => (s_l20State_l0 x0 x2 x3 x4 r1.1 0 x0 r1.2 ([] : List (Int)))) := by
  kernel_rfl
theorem s_l20State_l0_eq (b : List Int) (y0 : Int) (y1 : Int) (y2 : Int) (y3 : Int) (y4 : Int) (y5 : List (Int)) (y6 : Int) (y7 : List (Int)) : s_l20State_l0 b y0 y1 y2 y3 y4 y5 y6 y7 = (cond ((decide (y4 < y0))) (cond ((decide (0 < y3))) (Option.bind (r_pick_f (y5, y6, 3)) fun r1 => (cond ((decide (r1.1 < y3))) (if (List.length y7 + List.length ([0] : List (Int))) * 8 ≤ 140737488355328 then (s_l20State_l0 b y0 y1 y2 y3 (IntKind.i64.wrap (y4 + 1)) y5 r1.2 (y7 ++ ([0] : List (Int)))) else none) (Option.bind (r_pick_f (y5, r1.2, y1)) fun r2 => (if (List.length y7 + List.length ([r2.1] : List (Int))) * 8 ≤ 140737488355328 then (s_l20State_l0 b y0 y1 y2 y3 (IntKind.i64.wrap (y4 + 1)) y5 r2.2 (y7 ++ ([r2.1] : List (Int)))) else none)))) (Option.bind (r_pick_f (y5, y6, y1)) fun r3 => (if (List.length y7 + List.length ([r3.1] : List (Int))) * 8 ≤ 140737488355328 then (s_l20State_l0 b y0 y1 y2 y3 (IntKind.i64.wrap (y4 + 1)) y5 r3.2 (y7 ++ ([r3.1] : List (Int)))) else none))) (s_l20State_j1 b y1 y2 y5 y6 y7)) := by
  refine (loopK_eq Try.prog (s_l20State_E b) (sub (Try.f51.body.getD .skip) [1, 1, 1, 0, 1, 0, 0]) _ _).trans ?_
  kernel_rfl
theorem s_l20State_j1_eq (b : List Int) (y0 : Int) (y1 : Int) (y2 : List (Int)) (y3 : Int) (y4 : List (Int)) : s_l20State_j1 b y0 y1 y2 y3 y4 = (Option.bind (r_odd_f (y2, y3, y1)) fun r1 => (cond (r1.1) (Option.bind (r_pick_f (y2, r1.2, 2)) fun r2 => (cond ((r2.1 == 0)) (if 70 = 70 ∧ y2 = b then (some (([] : List (Int)), r2.2)) else none) (if (0 : Int) ≤ (IntKind.i64.wrap ((List.length y4 : Int) - 1)) ∧ (IntKind.i64.wrap ((List.length y4 : Int) - 1)) < (List.length y4 : Int) then (if 70 = 70 ∧ y2 = b then (some ((List.set y4 ((IntKind.i64.wrap ((List.length y4 : Int) - 1)) : Int).toNat y0), r2.2)) else none) else none))) (if 70 = 70 ∧ y2 = b then (some (y4, r1.2)) else none))) := by
  kernel_rfl
theorem s_l20State_ent : Entb Try.prog 51 := ⟨Try.f51, by kernel_rfl, by kernel_rfl, by kernel_rfl⟩
theorem s_l20State_ok : CtrOk Try.prog 51 ⟨s_l20State_sig, s_l20State_f⟩ :=
  ctr_of (fn := Try.f51) (by kernel_rfl) (by kernel_rfl) (fun x : Ts s_l20State_sig.pc => s_l20State_E x.1) (fun x => ⟨(fn_cons ⟨r_pick_ok, r_pick_ent⟩ (fn_cons ⟨r_odd_ok, r_odd_ent⟩ fn_none)), clo_none⟩) (fun _ x => ⟨rfl, fun b ps h => rd_head h⟩) follows_ (fun _ _ => trivial)
end FN
set_option linter.unusedVariables false
namespace FN
open Go Go.Proofs
/-! loop.example/firingnets/spec.l20Place -/
@[reducible] def s_l20Place_sig : Sig := { rd := some 70, ps := [none], pc := [.view .u8, .int .i64, .int .i64], rs := [some 3], rc := [.row 3 .i64, .int .i64, .row 3 .i64, .int .i64] }
noncomputable def s_l20Place_E (b : List Int) : Env' := { keep := [0], rdb := b, fn := fun f => if f = 49 then some ⟨s_l20Net_sig, s_l20Net_f⟩ else if f = 50 then some ⟨r_pick_sig, r_pick_f⟩ else if f = 51 then some ⟨s_l20State_sig, s_l20State_f⟩ else if f = 52 then some ⟨r_odd_sig, r_odd_f⟩ else none, ck := ckT, cuts := [], mine := fun i => i == 7 || i == 9 || i == 11 || i == 21 || i == 25 || i == 27 || i == 40 }
noncomputable def s_l20Place_f (x : Ts s_l20Place_sig.pc) : Option (Ts s_l20Place_sig.rc) := runFn Try.prog (s_l20Place_E x.1) Try.f40 s_l20Place_sig x
theorem s_l20Place_f_eq (x0 : (List (Int))) (x1 : (Int)) (x2 : (Int)) : s_l20Place_f (x0, x1, x2) = (Option.bind (s_l20Net_f (x0, x1, 0)) fun r1 => (Option.bind (r_pick_f (x0, r1.2, 3)) fun r2 => (Option.bind (r_pick_f (x0, r2.2, 2)) fun r3 => (Option.bind (s_l20State_f (x0, r3.2, (List.length r1.1 : Int), (IntKind.i64.wrap (3 + (IntKind.i64.wrap (r2.1 * r3.1)))), 0)) fun r4 => (Option.bind (r_odd_f (x0, r4.2, x2)) fun r5 => (cond (r5.1) (Option.bind (r_pick_f (x0, r5.2, 3)) fun r6 => (cond ((r6.1 == 0)) (if (List.length r4.1 + List.length ([0] : List (Int))) * 8 ≤ 140737488355328 then (if 70 = 70 ∧ x0 = x0 then (some (r1.1, (IntKind.i64.wrap (3 + (IntKind.i64.wrap (r2.1 * r3.1)))), (r4.1 ++ ([0] : List (Int))), r6.2)) else none) else none) (cond ((r6.1 == 1)) (Option.bind (r_pick_f (x0, r6.2, 2)) fun r7 => (if (0 : Int) ≤ r7.1 ∧ r7.1 < (List.length ([2, 6] : List (Int)) : Int) then (if 70 = 70 ∧ x0 = x0 then (some (r1.1, (List.getD ([2, 6] : List (Int)) (r7.1 : Int).toNat 0), r4.1, r7.2)) else none) else none)) (if 70 = 70 ∧ x0 = x0 then (some ([], 0, [], r6.2)) else none)))) (if 70 = 70 ∧ x0 = x0 then (some (r1.1, (IntKind.i64.wrap (3 + (IntKind.i64.wrap (r2.1 * r3.1)))), r4.1, r5.2)) else none))))))) := by
  kernel_rfl
theorem s_l20Place_ent : Entb Try.prog 40 := ⟨Try.f40, by kernel_rfl, by kernel_rfl, by kernel_rfl⟩
theorem s_l20Place_ok : CtrOk Try.prog 40 ⟨s_l20Place_sig, s_l20Place_f⟩ :=
  ctr_of (fn := Try.f40) (by kernel_rfl) (by kernel_rfl) (fun x : Ts s_l20Place_sig.pc => s_l20Place_E x.1) (fun x => ⟨(fn_cons ⟨s_l20Net_ok, s_l20Net_ent⟩ (fn_cons ⟨r_pick_ok, r_pick_ent⟩ (fn_cons ⟨s_l20State_ok, s_l20State_ent⟩ (fn_cons ⟨r_odd_ok, r_odd_ent⟩ fn_none)))), clo_none⟩) (fun _ x => ⟨rfl, fun b ps h => rd_head h⟩) follows_ (fun _ _ => trivial)
end FN
set_option linter.unusedVariables false
namespace FN
open Go Go.Proofs
/-! slices.Clone[[]int,int] -/
@[reducible] def x_slices_Clone_int_int_sig : Sig := { ps := [none], pc := [.view .i64], rs := [none], rc := [.row 3 .i64] }
noncomputable def x_slices_Clone_int_int_E : Env' := { fn := fun f => none, ck := ckT, cuts := [], mine := fun i => false }
noncomputable def x_slices_Clone_int_int_f (x : Ts x_slices_Clone_int_int_sig.pc) : Option (Ts x_slices_Clone_int_int_sig.rc) := runFn Try.prog (x_slices_Clone_int_int_E) Try.f47 x_slices_Clone_int_int_sig x
theorem x_slices_Clone_int_int_f_eq (x0 : (List (Int))) : x_slices_Clone_int_int_f x0 = (if true = true ∧ List.length x0 ≠ 0 then (if (List.length ([] : List (Int)) + List.length x0) * 8 ≤ 140737488355328 then (some (([] : List (Int)) ++ x0)) else none) else none) := by
  kernel_rfl
theorem x_slices_Clone_int_int_ent : Entb Try.prog 47 := ⟨Try.f47, by kernel_rfl, by kernel_rfl, by kernel_rfl⟩
theorem x_slices_Clone_int_int_ok : CtrOk Try.prog 47 ⟨x_slices_Clone_int_int_sig, x_slices_Clone_int_int_f⟩ :=
  ctr_of (fn := Try.f47) (by kernel_rfl) (by kernel_rfl) (fun x : Ts x_slices_Clone_int_int_sig.pc => x_slices_Clone_int_int_E) (fun x => ⟨fn_none, clo_none⟩) (fun h => by cases h) follows_ (fun _ _ => trivial)
end FN
set_option linter.unusedVariables false
namespace FN
open Go Go.Proofs
/-! loop.example/firingnets/impl.copyPlace -/
@[reducible] def i_copyPlace_sig : Sig := { ps := [some 3], pc := [.view .i64, .int .i64, .view .i64], rs := [some 3], rc := [.row 3 .i64, .int .i64, .row 3 .i64] }
noncomputable def i_copyPlace_E : Env' := { fn := fun f => if f = 47 then some ⟨x_slices_Clone_int_int_sig, x_slices_Clone_int_int_f⟩ else none, ck := ckT, cuts := [], mine := fun i => i == 5 || i == 10 }
noncomputable def i_copyPlace_f (x : Ts i_copyPlace_sig.pc) : Option (Ts i_copyPlace_sig.rc) := runFn Try.prog (i_copyPlace_E) Try.f34 i_copyPlace_sig x
theorem i_copyPlace_f_eq (x0 : (List (Int))) (x1 : (Int)) (x2 : (List (Int))) : i_copyPlace_f (x0, x1, x2) = (Option.bind (x_slices_Clone_int_int_f x0) fun r1 => (Option.bind (x_slices_Clone_int_int_f x2) fun r2 => (some (r1, x1, r2)))) := by
  kernel_rfl
theorem i_copyPlace_ent : Entb Try.prog 34 := ⟨Try.f34, by kernel_rfl, by kernel_rfl, by kernel_rfl⟩
theorem i_copyPlace_ok : CtrOk Try.prog 34 ⟨i_copyPlace_sig, i_copyPlace_f⟩ :=
  ctr_of (fn := Try.f34) (by kernel_rfl) (by kernel_rfl) (fun x : Ts i_copyPlace_sig.pc => i_copyPlace_E) (fun x => ⟨(fn_cons ⟨x_slices_Clone_int_int_ok, x_slices_Clone_int_int_ent⟩ fn_none), clo_none⟩) (fun h => by cases h) follows_ (fun _ _ => trivial)
end FN
set_option linter.unusedVariables false
namespace FN
open Go Go.Proofs
/-! loop.example/firingnets/impl.DeskNew -/
@[reducible] def i_DeskNew_sig : Sig := { ps := [some 3], pc := [.view .i64, .int .i64, .view .i64], rs := [some 4, none], rc := [.row 3 .i64, .int .i64, .row 3 .i64, .row 30 .place, .bool] }
noncomputable def i_DeskNew_E : Env' := { fn := fun f => if f = 23 then some ⟨i_PlaceOk_sig, i_PlaceOk_f⟩ else if f = 34 then some ⟨i_copyPlace_sig, i_copyPlace_f⟩ else none, ck := ckT, cuts := [], mine := fun i => i == 5 || i == 9 }
noncomputable def i_DeskNew_f (x : Ts i_DeskNew_sig.pc) : Option (Ts i_DeskNew_sig.rc) := runFn Try.prog (i_DeskNew_E) Try.f15 i_DeskNew_sig x
theorem i_DeskNew_f_eq (x0 : (List (Int))) (x1 : (Int)) (x2 : (List (Int))) : i_DeskNew_f (x0, x1, x2) = (Option.bind (i_PlaceOk_f (x0, x1, x2)) fun r1 => (cond ((!r1)) (some ([], 0, [], [], false)) (Option.bind (i_copyPlace_f (x0, x1, x2)) fun r2 => (some (r2.1, r2.2.1, r2.2.2, [], true))))) := by
  kernel_rfl
theorem i_DeskNew_ent : Entb Try.prog 15 := ⟨Try.f15, by kernel_rfl, by kernel_rfl, by kernel_rfl⟩
theorem i_DeskNew_ok : CtrOk Try.prog 15 ⟨i_DeskNew_sig, i_DeskNew_f⟩ :=
  ctr_of (fn := Try.f15) (by kernel_rfl) (by kernel_rfl) (fun x : Ts i_DeskNew_sig.pc => i_DeskNew_E) (fun x => ⟨(fn_cons ⟨i_PlaceOk_ok, i_PlaceOk_ent⟩ (fn_cons ⟨i_copyPlace_ok, i_copyPlace_ent⟩ fn_none)), clo_none⟩) (fun h => by cases h) follows_ (fun _ _ => trivial)
end FN
set_option linter.unusedVariables false
namespace FN
open Go Go.Proofs
/-! loop.example/firingnets/spec.l15Place -/
@[reducible] def s_l15Place_sig : Sig := { ps := [some 3], pc := [.view .i64, .int .i64, .view .i64], rs := [some 3], rc := [.row 3 .i64, .int .i64, .row 3 .i64] }
noncomputable def s_l15Place_E : Env' := { fn := fun f => none, ck := ckT, cuts := [], mine := fun i => false }
noncomputable def s_l15Place_f (x : Ts s_l15Place_sig.pc) : Option (Ts s_l15Place_sig.rc) := runFn Try.prog (s_l15Place_E) Try.f32 s_l15Place_sig x
theorem s_l15Place_f_eq (x0 : (List (Int))) (x1 : (Int)) (x2 : (List (Int))) : s_l15Place_f (x0, x1, x2) = (if (List.length ([] : List (Int)) + List.length x0) * 8 ≤ 140737488355328 then (if (List.length ([] : List (Int)) + List.length x2) * 8 ≤ 140737488355328 then (some ((([] : List (Int)) ++ x0), x1, (([] : List (Int)) ++ x2))) else none) else none) := by
  refine Eq.trans (b := (same [(same [(if (List.length ([] : List (Int)) + List.length x0) * 8 ≤ 140737488355328 then (if (List.length ([] : List (Int)) + List.length x2) * 8 ≤ 140737488355328 then (some ((([] : List (Int)) ++ x0), x1, (([] : List (Int)) ++ x2))) else none) else none), (if (List.length ([] : List (Int)) + List.length x0) * 8 ≤ 140737488355328 then (if (List.length ([] : List (Int)) + List.length x2) * 8 ≤ 140737488355328 then (some ((([] : List (Int)) ++ x0), x1, (([] : List (Int)) ++ x2))) else none) else none)]), (if (List.length ([] : List (Int)) + List.length x0) * 8 ≤ 140737488355328 then (if (List.length ([] : List (Int)) + List.length x2) * 8 ≤ 140737488355328 then (some ((([] : List (Int)) ++ x0), x1, (([] : List (Int)) ++ x2))) else none) else none)])) (by kernel_rfl) ?_
  simp only [same2, same3, same4, same5, same6, obind_ite]
theorem s_l15Place_ent : Entb Try.prog 32 := ⟨Try.f32, by kernel_rfl, by kernel_rfl, by kernel_rfl⟩
theorem s_l15Place_ok : CtrOk Try.prog 32 ⟨s_l15Place_sig, s_l15Place_f⟩ :=
  ctr_of (fn := Try.f32) (by kernel_rfl) (by kernel_rfl) (fun x : Ts s_l15Place_sig.pc => s_l15Place_E) (fun x => ⟨fn_none, clo_none⟩) (fun h => by cases h) follows_ (fun _ _ => trivial)
end FN
set_option linter.unusedVariables false
namespace FN
open Go Go.Proofs
/-! loop.example/firingnets/spec.DeskNew -/
@[reducible] def s_DeskNew_sig : Sig := { ps := [some 3], pc := [.view .i64, .int .i64, .view .i64], rs := [some 4, none], rc := [.row 3 .i64, .int .i64, .row 3 .i64, .row 30 .place, .bool] }
noncomputable def s_DeskNew_E : Env' := { fn := fun f => if f = 28 then some ⟨s_PlaceOk_sig, s_PlaceOk_f⟩ else if f = 32 then some ⟨s_l15Place_sig, s_l15Place_f⟩ else none, ck := ckT, cuts := [], mine := fun i => i == 5 || i == 9 }
noncomputable def s_DeskNew_f (x : Ts s_DeskNew_sig.pc) : Option (Ts s_DeskNew_sig.rc) := runFn Try.prog (s_DeskNew_E) Try.f13 s_DeskNew_sig x
theorem s_DeskNew_f_eq (x0 : (List (Int))) (x1 : (Int)) (x2 : (List (Int))) : s_DeskNew_f (x0, x1, x2) = (Option.bind (s_PlaceOk_f (x0, x1, x2)) fun r1 => (cond ((!r1)) (some ([], 0, [], [], false)) (Option.bind (s_l15Place_f (x0, x1, x2)) fun r2 => (some (r2.1, r2.2.1, r2.2.2, [], true))))) := by
  kernel_rfl
theorem s_DeskNew_ent : Entb Try.prog 13 := ⟨Try.f13, by kernel_rfl, by kernel_rfl, by kernel_rfl⟩
theorem s_DeskNew_ok : CtrOk Try.prog 13 ⟨s_DeskNew_sig, s_DeskNew_f⟩ :=
  ctr_of (fn := Try.f13) (by kernel_rfl) (by kernel_rfl) (fun x : Ts s_DeskNew_sig.pc => s_DeskNew_E) (fun x => ⟨(fn_cons ⟨s_PlaceOk_ok, s_PlaceOk_ent⟩ (fn_cons ⟨s_l15Place_ok, s_l15Place_ent⟩ fn_none)), clo_none⟩) (fun h => by cases h) follows_ (fun _ _ => trivial)
end FN
set_option linter.unusedVariables false
namespace FN
open Go Go.Proofs
/-! loop.example/firingnets/spec.DrawDeskNew -/
@[reducible] def s_DrawDeskNew_sig : Sig := { ps := [none], pc := [.view .u8], rs := [some 3], rc := [.row 3 .i64, .int .i64, .row 3 .i64] }
noncomputable def s_DrawDeskNew_E : Env' := { fn := fun f => if f = 40 then some ⟨s_l20Place_sig, s_l20Place_f⟩ else if f = 41 then some ⟨s_l20Open_sig, s_l20Open_f⟩ else none, ck := ckT, cuts := [], mine := fun i => i == 4 || i == 5 }
noncomputable def s_DrawDeskNew_f (x : Ts s_DrawDeskNew_sig.pc) : Option (Ts s_DrawDeskNew_sig.rc) := runFn Try.prog (s_DrawDeskNew_E) Try.f20 s_DrawDeskNew_sig x
theorem s_DrawDeskNew_f_eq (x0 : (List (Int))) : s_DrawDeskNew_f x0 = (Option.bind (s_l20Open_f x0) fun r1 => (Option.bind (s_l20Place_f (r1.1, r1.2, 3)) fun r2 => (some (r2.1, r2.2.1, r2.2.2.1)))) := by
  kernel_rfl
theorem s_DrawDeskNew_ent : Entb Try.prog 20 := ⟨Try.f20, by kernel_rfl, by kernel_rfl, by kernel_rfl⟩
theorem s_DrawDeskNew_ok : CtrOk Try.prog 20 ⟨s_DrawDeskNew_sig, s_DrawDeskNew_f⟩ :=
  ctr_of (fn := Try.f20) (by kernel_rfl) (by kernel_rfl) (fun x : Ts s_DrawDeskNew_sig.pc => s_DrawDeskNew_E) (fun x => ⟨(fn_cons ⟨s_l20Place_ok, s_l20Place_ent⟩ (fn_cons ⟨s_l20Open_ok, s_l20Open_ent⟩ fn_none)), clo_none⟩) (fun h => by cases h) follows_ (fun _ _ => trivial)
end FN
set_option linter.unusedVariables false
namespace FN
open Go Go.Proofs
/-! loop.example/firingnets/laws.FnDeskNew -/
@[reducible] def w_FnDeskNew_sig : Sig := { ps := [none], pc := [.view .u8], rs := [none], rc := [.bool] }
noncomputable def w_FnDeskNew_E : Env' := { fn := fun f => if f = 10 then some ⟨i_DeskOk_sig, i_DeskOk_f⟩ else if f = 13 then some ⟨s_DeskNew_sig, s_DeskNew_f⟩ else if f = 15 then some ⟨i_DeskNew_sig, i_DeskNew_f⟩ else if f = 20 then some ⟨s_DrawDeskNew_sig, s_DrawDeskNew_f⟩ else if f = 21 then some ⟨w_sameDesk_sig, w_sameDesk_f⟩ else if f = 22 then some ⟨w_noDesk_sig, w_noDesk_f⟩ else if f = 23 then some ⟨i_PlaceOk_sig, i_PlaceOk_f⟩ else if f = 24 then some ⟨w_alive_sig, w_alive_f⟩ else if f = 25 then some ⟨w_samePlace_sig, w_samePlace_f⟩ else none, ck := ckT, cuts := [], mine := fun i => false }
noncomputable def w_FnDeskNew_f (x : Ts w_FnDeskNew_sig.pc) : Option (Ts w_FnDeskNew_sig.rc) := runFn Try.prog (w_FnDeskNew_E) Try.f5 w_FnDeskNew_sig x
theorem w_FnDeskNew_f_eq (x0 : (List (Int))) : w_FnDeskNew_f x0 = (cond ((decide (1048576 < (List.length x0 : Int)))) (some true) (Option.bind (s_DrawDeskNew_f x0) fun r1 => (Option.bind (i_DeskNew_f (r1.1, r1.2.1, r1.2.2)) fun r2 => (Option.bind (s_DeskNew_f (r1.1, r1.2.1, r1.2.2)) fun r3 => (Option.bind (w_sameDesk_f (r2.1, r2.2.1, r2.2.2.1, r2.2.2.2.1, r3.1, r3.2.1, r3.2.2.1, r3.2.2.2.1)) fun r4 => (cond ((!r4)) (some false) (cond ((!(r2.2.2.2.2 == r3.2.2.2.2))) (some false) (cond ((!r2.2.2.2.2)) (Option.bind (w_noDesk_f (r2.1, r2.2.1, r2.2.2.1, r2.2.2.2.1)) fun r5 => (cond (r5) (Option.bind (i_PlaceOk_f (r1.1, r1.2.1, r1.2.2)) fun r6 => (cond ((!r6)) (Option.bind (w_alive_f ()) fun r7 => (some r7)) (some false))) (some false))) (Option.bind (i_DeskOk_f (r2.1, r2.2.1, r2.2.2.1, r2.2.2.2.1)) fun r8 => (cond (r8) (Option.bind (w_samePlace_f (r2.1, r2.2.1, r2.2.2.1, r1.1, r1.2.1, r1.2.2)) fun r9 => (cond (r9) (some ((List.length r2.2.2.2.1 : Int) == 0)) (some false))) (some false))))))))))) := by
  kernel_rfl
theorem w_FnDeskNew_ent : Entb Try.prog 5 := ⟨Try.f5, by kernel_rfl, by kernel_rfl, by kernel_rfl⟩
theorem w_FnDeskNew_ok : CtrOk Try.prog 5 ⟨w_FnDeskNew_sig, w_FnDeskNew_f⟩ :=
  ctr_of (fn := Try.f5) (by kernel_rfl) (by kernel_rfl) (fun x : Ts w_FnDeskNew_sig.pc => w_FnDeskNew_E) (fun x => ⟨(fn_cons ⟨i_DeskOk_ok, i_DeskOk_ent⟩ (fn_cons ⟨s_DeskNew_ok, s_DeskNew_ent⟩ (fn_cons ⟨i_DeskNew_ok, i_DeskNew_ent⟩ (fn_cons ⟨s_DrawDeskNew_ok, s_DrawDeskNew_ent⟩ (fn_cons ⟨w_sameDesk_ok, w_sameDesk_ent⟩ (fn_cons ⟨w_noDesk_ok, w_noDesk_ent⟩ (fn_cons ⟨i_PlaceOk_ok, i_PlaceOk_ent⟩ (fn_cons ⟨w_alive_ok, w_alive_ent⟩ (fn_cons ⟨w_samePlace_ok, w_samePlace_ent⟩ fn_none))))))))), clo_none⟩) (fun h => by cases h) follows_ (fun _ _ => trivial)
end FN
