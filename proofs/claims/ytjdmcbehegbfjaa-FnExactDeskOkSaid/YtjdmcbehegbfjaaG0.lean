/- Texts of the proof, joined: The functions, their equations and contracts. -/
import Derived.KernelRfl
import Derived.Test.YtjdmcbehegbfjaaProg
import Derived.Test.YtjdmcbehegbfjaaA1
set_option linter.unusedVariables false
set_option linter.unusedSimpArgs false
set_option linter.unusedSectionVars false
namespace FN
open Go Go.Proofs
def mkT (n : Nat) (l : List (Nat × PV)) : List PV := (List.range n).map fun i => (l.lookup i).getD .junk
def ckT (t : TypeId) : Option CK := if t = 3 then some .i64 else if t = 5 then some .u8 else if t = 24 then some .place else if t = 30 then some .place else none
instance : Gl := ⟨fun _ => True, fun _ => True, fun _ _ _ _ _ => trivial⟩
theorem follows_ : Try.prog.follows .mixedOrders = true := by kernel_rfl
theorem rd_head {x b : List Int} {l ps : List PV} (h : (PV.row false .u8 x :: l) = PV.row false .u8 b :: ps) : x = b := by
  injection h with h _
  injection h
theorem fn_none {P : Program} : ∀ (f : FuncId) (c : Ctr'), (none : Option Ctr') = some c → CtrOk P f c ∧ Entb P f := fun _ _ h => by cases h
theorem fn_cons {P : Program} {f0 : FuncId} {c0 : Ctr'} (h0 : CtrOk P f0 c0 ∧ Entb P f0) {g : FuncId → Option Ctr'} (hg : ∀ f c, g f = some c → CtrOk P f c ∧ Entb P f) : ∀ f c, (if f = f0 then some c0 else g f) = some c → CtrOk P f c ∧ Entb P f := by
  intro f c h
  split at h
  · rename_i e; injection h with h; subst e; subst h; exact h0
  · exact hg f c h
theorem clo_none {P : Program} {E : Env'} (h : E.clo = fun _ _ _ _ _ => none := by rfl) : CloOk P E := by
  intro f ps hp h' pin base w ρ args hc
  rw [h] at hc
  cases hc
end FN
set_option linter.unusedVariables false
namespace FN
open Go Go.Proofs
/-! loop.example/firingnets/spec.l1In -/
@[reducible] def s_l1In_sig : Sig := { ps := [none, none, none], pc := [.int .i64, .int .i64, .int .i64], rs := [none], rc := [.bool] }
noncomputable def s_l1In_E : Env' := { fn := fun f => none, ck := ckT, cuts := [], mine := fun i => false }
noncomputable def s_l1In_f (x : Ts s_l1In_sig.pc) : Option (Ts s_l1In_sig.rc) := runFn Try.prog (s_l1In_E) Try.f63 s_l1In_sig x
theorem s_l1In_f_eq (x0 : (Int)) (x1 : (Int)) (x2 : (Int)) : s_l1In_f (x0, x1, x2) = (cond ((decide (x1 ≤ x0))) (some (decide (x0 ≤ x2))) (some false)) := by
  kernel_rfl
theorem s_l1In_ent : Entb Try.prog 63 := ⟨Try.f63, by kernel_rfl, by kernel_rfl, by kernel_rfl⟩
theorem s_l1In_ok : CtrOk Try.prog 63 ⟨s_l1In_sig, s_l1In_f⟩ :=
  ctr_of (fn := Try.f63) (by kernel_rfl) (by kernel_rfl) (fun x : Ts s_l1In_sig.pc => s_l1In_E) (fun x => ⟨fn_none, clo_none⟩) (fun h => by cases h) follows_ (fun _ _ => trivial)
end FN
set_option linter.unusedVariables false
namespace FN
open Go Go.Proofs
/-! loop.example/firingnets/impl.NetOk -/
@[reducible] def i_NetOk_sig : Sig := { ps := [none], pc := [.view .i64], rs := [none], rc := [.bool] }
noncomputable def i_NetOk_E : Env' := { fn := fun f => none, ck := ckT, cuts := [(4, [0, 14, 15, 16]), (9, [0, 3, 4, 14, 15, 16, 38, 39])], mine := fun i => false }
noncomputable def i_NetOk_f (x : Ts i_NetOk_sig.pc) : Option (Ts i_NetOk_sig.rc) := runFn Try.prog (i_NetOk_E) Try.f43 i_NetOk_sig x
noncomputable def i_NetOk_l0 (y0 : List (Int)) (y1 : List (Int)) (y2 : Int) (y3 : Int) : Option ((Bool)) := from_ Try.prog (i_NetOk_E) Try.f43 i_NetOk_sig [1, 1, 0, 1, 0] ⟨mkT 56 [(0, .row false .i64 y0), (14, .row false .i64 y1), (15, .int .i64 y2), (16, .int .i64 y3)], []⟩
noncomputable def i_NetOk_l1 (y0 : List (Int)) (y1 : Int) (y2 : Int) (y3 : List (Int)) (y4 : Int) (y5 : Int) (y6 : Int) (y7 : Int) : Option ((Bool)) := from_ Try.prog (i_NetOk_E) Try.f43 i_NetOk_sig [1, 1, 0, 1, 0, 0, 1, 1, 0, 0, 1, 1, 1, 0] ⟨mkT 56 [(0, .row false .i64 y0), (3, .int .i64 y1), (4, .int .i64 y2), (14, .row false .i64 y3), (15, .int .i64 y4), (16, .int .i64 y5), (38, .int .i64 y6), (39, .int .i64 y7)], []⟩
theorem i_NetOk_f_eq (x0 : (List (Int))) : i_NetOk_f x0 = (cond ((decide ((List.length x0 : Int) < 1))) (some false) (cond ((decide (6 < (List.length x0 : Int)))) (some false) (i_NetOk_l0 x0 x0 (List.length x0 : Int) 0))) := by
  kernel_rfl
theorem i_NetOk_l0_eq (y0 : List (Int)) (y1 : List (Int)) (y2 : Int) (y3 : Int) : i_NetOk_l0 y0 y1 y2 y3 = (cond ((decide (y3 < y2))) (if (0 : Int) ≤ y3 ∧ y3 < (List.length y1 : Int) then (cond ((decide ((List.getD y1 (y3 : Int).toNat 0) < 0))) (some false) (if (List.length y0 : Int) < 0 then none else (cond ((decide ((IntKind.i64.wrap (1 * 2 ^ min ((List.length y0 : Int) : Int).toNat IntKind.i64.bits)) ≤ (List.getD y1 (y3 : Int).toNat 0)))) (some false) (if y3 < 0 then none else (cond (((Go.bits .and IntKind.i64 (Int.fdiv (List.getD y1 (y3 : Int).toNat 0) (2 ^ min (y3 : Int).toNat IntKind.i64.bits)) 1) == 1)) (some false) (i_NetOk_l1 y0 y3 (List.getD y1 (y3 : Int).toNat 0) y1 y2 y3 (List.length y0 : Int) 0)))))) else none) (some true)) := by
  refine (loopK_eq Try.prog (i_NetOk_E) (sub (Try.f43.body.getD .skip) [1, 1, 0, 1, 0, 0]) _ _).trans ?_
  kernel_rfl
theorem i_NetOk_l1_eq (y0 : List (Int)) (y1 : Int) (y2 : Int) (y3 : List (Int)) (y4 : Int) (y5 : Int) (y6 : Int) (y7 : Int) : i_NetOk_l1 y0 y1 y2 y3 y4 y5 y6 y7 = (cond ((decide (y7 < y6))) (if y7 < 0 then none else (if (0 : Int) ≤ y7 ∧ y7 < (List.length y0 : Int) then (if y1 < 0 then none else (cond (((Go.bits .and IntKind.i64 (Int.fdiv y2 (2 ^ min (y7 : Int).toNat IntKind.i64.bits)) 1) != (Go.bits .and IntKind.i64 (Int.fdiv (List.getD y0 (y7 : Int).toNat 0) (2 ^ min (y1 : Int).toNat IntKind.i64.bits)) 1))) (some false) (i_NetOk_l1 y0 y1 y2 y3 y4 y5 y6 (IntKind.i64.wrap (y7 + 1))))) else none)) (i_NetOk_l0 y0 y3 y4 (IntKind.i64.wrap (y5 + 1)))) := by
  refine (loopK_eq Try.prog (i_NetOk_E) (sub (Try.f43.body.getD .skip) [1, 1, 0, 1, 0, 0, 1, 1, 0, 0, 1, 1, 1, 0, 0]) _ _).trans ?_
  kernel_rfl
theorem i_NetOk_ent : Entb Try.prog 43 := ⟨Try.f43, by kernel_rfl, by kernel_rfl, by kernel_rfl⟩
theorem i_NetOk_ok : CtrOk Try.prog 43 ⟨i_NetOk_sig, i_NetOk_f⟩ :=
  ctr_of (fn := Try.f43) (by kernel_rfl) (by kernel_rfl) (fun x : Ts i_NetOk_sig.pc => i_NetOk_E) (fun x => ⟨fn_none, clo_none⟩) (fun h => by cases h) follows_ (fun _ _ => trivial)
end FN
set_option linter.unusedVariables false
namespace FN
open Go Go.Proofs
/-! loop.example/firingnets/impl.StateOk -/
@[reducible] def i_StateOk_sig : Sig := { ps := [none, none], pc := [.int .i64, .view .i64], rs := [none], rc := [.bool] }
noncomputable def i_StateOk_E : Env' := { fn := fun f => none, ck := ckT, cuts := [(2, [0, 1, 7, 8, 9]), (7, [0, 1])], mine := fun i => false }
noncomputable def i_StateOk_f (x : Ts i_StateOk_sig.pc) : Option (Ts i_StateOk_sig.rc) := runFn Try.prog (i_StateOk_E) Try.f53 i_StateOk_sig x
noncomputable def i_StateOk_l0 (y0 : Int) (y1 : List (Int)) (y2 : List (Int)) (y3 : Int) (y4 : Int) : Option ((Bool)) := from_ Try.prog (i_StateOk_E) Try.f53 i_StateOk_sig [1, 0, 1, 0] ⟨mkT 37 [(0, .int .i64 y0), (1, .row false .i64 y1), (7, .row false .i64 y2), (8, .int .i64 y3), (9, .int .i64 y4)], []⟩
noncomputable def i_StateOk_j1 (y0 : Int) (y1 : List (Int)) : Option ((Bool)) := from_ Try.prog (i_StateOk_E) Try.f53 i_StateOk_sig [1, 1] ⟨mkT 37 [(0, .int .i64 y0), (1, .row false .i64 y1)], []⟩
theorem i_StateOk_f_eq (x0 : (Int)) (x1 : (List (Int))) : i_StateOk_f (x0, x1) = (i_StateOk_l0 x0 x1 x1 (List.length x1 : Int) 0) := by
  kernel_rfl
theorem i_StateOk_l0_eq (y0 : Int) (y1 : List (Int)) (y2 : List (Int)) (y3 : Int) (y4 : Int) : i_StateOk_l0 y0 y1 y2 y3 y4 = (cond ((decide (y4 < y3))) (if (0 : Int) ≤ y4 ∧ y4 < (List.length y2 : Int) then (cond ((decide ((List.getD y2 (y4 : Int).toNat 0) < 0))) (some false) (cond ((decide (y0 ≤ (List.getD y2 (y4 : Int).toNat 0)))) (some false) (i_StateOk_l0 y0 y1 y2 y3 (IntKind.i64.wrap (y4 + 1))))) else none) (i_StateOk_j1 y0 y1)) := by
  refine (loopK_eq Try.prog (i_StateOk_E) (sub (Try.f53.body.getD .skip) [1, 0, 1, 0, 0]) _ _).trans ?_
  kernel_rfl
theorem i_StateOk_j1_eq (y0 : Int) (y1 : List (Int)) : i_StateOk_j1 y0 y1 = (cond ((decide (3 ≤ y0))) (cond ((decide (y0 ≤ 5))) (cond ((decide (1 ≤ (List.length y1 : Int)))) (some (decide ((List.length y1 : Int) ≤ 6))) (some false)) (some false)) (some false)) := by
  kernel_rfl
theorem i_StateOk_ent : Entb Try.prog 53 := ⟨Try.f53, by kernel_rfl, by kernel_rfl, by kernel_rfl⟩
theorem i_StateOk_ok : CtrOk Try.prog 53 ⟨i_StateOk_sig, i_StateOk_f⟩ :=
  ctr_of (fn := Try.f53) (by kernel_rfl) (by kernel_rfl) (fun x : Ts i_StateOk_sig.pc => i_StateOk_E) (fun x => ⟨fn_none, clo_none⟩) (fun h => by cases h) follows_ (fun _ _ => trivial)
end FN
set_option linter.unusedVariables false
namespace FN
open Go Go.Proofs
/-! loop.example/firingnets/impl.asked -/
@[reducible] def i_asked_sig : Sig := { ps := [none, none, none], pc := [.view .i64, .int .i64, .view .i64], rs := [none], rc := [.bool] }
noncomputable def i_asked_E : Env' := { fn := fun f => if f = 43 then some ⟨i_NetOk_sig, i_NetOk_f⟩ else if f = 53 then some ⟨i_StateOk_sig, i_StateOk_f⟩ else none, ck := ckT, cuts := [], mine := fun i => false }
noncomputable def i_asked_f (x : Ts i_asked_sig.pc) : Option (Ts i_asked_sig.rc) := runFn Try.prog (i_asked_E) Try.f42 i_asked_sig x
theorem i_asked_f_eq (x0 : (List (Int))) (x1 : (Int)) (x2 : (List (Int))) : i_asked_f (x0, x1, x2) = (Option.bind (i_NetOk_f x0) fun r1 => (cond (r1) (Option.bind (i_StateOk_f (x1, x2)) fun r2 => (cond (r2) (some ((List.length x0 : Int) == (List.length x2 : Int))) (some false))) (some false))) := by
  kernel_rfl
theorem i_asked_ent : Entb Try.prog 42 := ⟨Try.f42, by kernel_rfl, by kernel_rfl, by kernel_rfl⟩
theorem i_asked_ok : CtrOk Try.prog 42 ⟨i_asked_sig, i_asked_f⟩ :=
  ctr_of (fn := Try.f42) (by kernel_rfl) (by kernel_rfl) (fun x : Ts i_asked_sig.pc => i_asked_E) (fun x => ⟨(fn_cons ⟨i_NetOk_ok, i_NetOk_ent⟩ (fn_cons ⟨i_StateOk_ok, i_StateOk_ent⟩ fn_none)), clo_none⟩) (fun h => by cases h) follows_ (fun _ _ => trivial)
end FN
set_option linter.unusedVariables false
namespace FN
open Go Go.Proofs
/-! loop.example/firingnets/impl.PlaceOk -/
@[reducible] def i_PlaceOk_sig : Sig := { ps := [some 3], pc := [.view .i64, .int .i64, .view .i64], rs := [none], rc := [.bool] }
noncomputable def i_PlaceOk_E : Env' := { fn := fun f => if f = 42 then some ⟨i_asked_sig, i_asked_f⟩ else none, ck := ckT, cuts := [], mine := fun i => false }
noncomputable def i_PlaceOk_f (x : Ts i_PlaceOk_sig.pc) : Option (Ts i_PlaceOk_sig.rc) := runFn Try.prog (i_PlaceOk_E) Try.f23 i_PlaceOk_sig x
theorem i_PlaceOk_f_eq (x0 : (List (Int))) (x1 : (Int)) (x2 : (List (Int))) : i_PlaceOk_f (x0, x1, x2) = (Option.bind (i_asked_f (x0, x1, x2)) fun r1 => (some r1)) := by
  kernel_rfl
theorem i_PlaceOk_ent : Entb Try.prog 23 := ⟨Try.f23, by kernel_rfl, by kernel_rfl, by kernel_rfl⟩
theorem i_PlaceOk_ok : CtrOk Try.prog 23 ⟨i_PlaceOk_sig, i_PlaceOk_f⟩ :=
  ctr_of (fn := Try.f23) (by kernel_rfl) (by kernel_rfl) (fun x : Ts i_PlaceOk_sig.pc => i_PlaceOk_E) (fun x => ⟨(fn_cons ⟨i_asked_ok, i_asked_ent⟩ fn_none), clo_none⟩) (fun h => by cases h) follows_ (fun _ _ => trivial)
end FN
set_option linter.unusedVariables false
namespace FN
open Go Go.Proofs
/-! loop.example/firingnets/spec.NetOk -/
@[reducible] def s_NetOk_sig : Sig := { ps := [none], pc := [.view .i64], rs := [none], rc := [.bool] }
noncomputable def s_NetOk_E : Env' := { fn := fun f => if f = 63 then some ⟨s_l1In_sig, s_l1In_f⟩ else none, ck := ckT, cuts := [(4, [0, 3]), (8, [0]), (9, [0, 4]), (12, [0, 4, 5])], mine := fun i => false }
noncomputable def s_NetOk_f (x : Ts s_NetOk_sig.pc) : Option (Ts s_NetOk_sig.rc) := runFn Try.prog (s_NetOk_E) Try.f56 s_NetOk_sig x
noncomputable def s_NetOk_l0 (y0 : List (Int)) (y1 : Int) : Option ((Bool)) := from_ Try.prog (s_NetOk_E) Try.f56 s_NetOk_sig [1, 1, 0, 1, 0] ⟨mkT 68 [(0, .row false .i64 y0), (3, .int .i64 y1)], []⟩
noncomputable def s_NetOk_j1 (y0 : List (Int)) : Option ((Bool)) := from_ Try.prog (s_NetOk_E) Try.f56 s_NetOk_sig [1, 1, 1] ⟨mkT 68 [(0, .row false .i64 y0)], []⟩
noncomputable def s_NetOk_l2 (y0 : List (Int)) (y1 : Int) : Option ((Bool)) := from_ Try.prog (s_NetOk_E) Try.f56 s_NetOk_sig [1, 1, 1, 0, 1, 0] ⟨mkT 68 [(0, .row false .i64 y0), (4, .int .i64 y1)], []⟩
noncomputable def s_NetOk_l3 (y0 : List (Int)) (y1 : Int) (y2 : Int) : Option ((Bool)) := from_ Try.prog (s_NetOk_E) Try.f56 s_NetOk_sig [1, 1, 1, 0, 1, 0, 0, 1, 0, 0, 1, 0] ⟨mkT 68 [(0, .row false .i64 y0), (4, .int .i64 y1), (5, .int .i64 y2)], []⟩
theorem s_NetOk_f_eq (x0 : (List (Int))) : s_NetOk_f x0 = (Option.bind (s_l1In_f ((List.length x0 : Int), 1, 6)) fun r1 => (cond ((!r1)) (some false) (s_NetOk_l0 x0 0))) := by
  kernel_rfl
theorem s_NetOk_l0_eq (y0 : List (Int)) (y1 : Int) : s_NetOk_l0 y0 y1 = (cond ((decide (y1 < (List.length y0 : Int)))) (if (0 : Int) ≤ y1 ∧ y1 < (List.length y0 : Int) then (if (List.length y0 : Int) < 0 then none else (Option.bind (s_l1In_f ((List.getD y0 (y1 : Int).toNat 0), 0, (IntKind.i64.wrap ((IntKind.i64.wrap (1 * 2 ^ min ((List.length y0 : Int) : Int).toNat IntKind.i64.bits)) - 1)))) fun r1 => (cond ((!r1)) (some false) (s_NetOk_l0 y0 (IntKind.i64.wrap (y1 + 1)))))) else none) (s_NetOk_j1 y0)) := by
  refine (loopK_eq Try.prog (s_NetOk_E) (sub (Try.f56.body.getD .skip) [1, 1, 0, 1, 0, 0]) _ _).trans ?_
  kernel_rfl
theorem s_NetOk_j1_eq (y0 : List (Int)) : s_NetOk_j1 y0 = (s_NetOk_l2 y0 0) := by
  kernel_rfl
theorem s_NetOk_l2_eq (y0 : List (Int)) (y1 : Int) : s_NetOk_l2 y0 y1 = (cond ((decide (y1 < (List.length y0 : Int)))) (s_NetOk_l3 y0 y1 0) (some true)) := by
  refine (loopK_eq Try.prog (s_NetOk_E) (sub (Try.f56.body.getD .skip) [1, 1, 1, 0, 1, 0, 0]) _ _).trans ?_
  kernel_rfl
theorem s_NetOk_l3_eq (y0 : List (Int)) (y1 : Int) (y2 : Int) : s_NetOk_l3 y0 y1 y2 = (cond ((decide (y2 < (List.length y0 : Int)))) (if (0 : Int) ≤ y1 ∧ y1 < (List.length y0 : Int) then (if y2 < 0 then none else (if (0 : Int) ≤ y2 ∧ y2 < (List.length y0 : Int) then (if y1 < 0 then none else (cond (((Int.tmod (Int.fdiv (List.getD y0 (y1 : Int).toNat 0) (2 ^ min (y2 : Int).toNat IntKind.i64.bits)) 2) != (Int.tmod (Int.fdiv (List.getD y0 (y2 : Int).toNat 0) (2 ^ min (y1 : Int).toNat IntKind.i64.bits)) 2))) (some false) (cond ((y2 == y1)) (if (0 : Int) ≤ y1 ∧ y1 < (List.length y0 : Int) then (if y2 < 0 then none else (cond (((Int.tmod (Int.fdiv (List.getD y0 (y1 : Int).toNat 0) (2 ^ min (y2 : Int).toNat IntKind.i64.bits)) 2) == 1)) (some false) (s_NetOk_l3 y0 y1 (IntKind.i64.wrap (y2 + 1))))) else none) (s_NetOk_l3 y0 y1 (IntKind.i64.wrap (y2 + 1)))))) else none)) else none) (s_NetOk_l2 y0 (IntKind.i64.wrap (y1 + 1)))) := by
  refine (loopK_eq Try.prog (s_NetOk_E) (sub (Try.f56.body.getD .skip) [1, 1, 1, 0, 1, 0, 0, 1, 0, 0, 1, 0, 0]) _ _).trans ?_
  kernel_rfl
theorem s_NetOk_ent : Entb Try.prog 56 := ⟨Try.f56, by kernel_rfl, by kernel_rfl, by kernel_rfl⟩
theorem s_NetOk_ok : CtrOk Try.prog 56 ⟨s_NetOk_sig, s_NetOk_f⟩ :=
  ctr_of (fn := Try.f56) (by kernel_rfl) (by kernel_rfl) (fun x : Ts s_NetOk_sig.pc => s_NetOk_E) (fun x => ⟨(fn_cons ⟨s_l1In_ok, s_l1In_ent⟩ fn_none), clo_none⟩) (fun h => by cases h) follows_ (fun _ _ => trivial)
end FN
set_option linter.unusedVariables false
namespace FN
open Go Go.Proofs
/-! loop.example/firingnets/spec.StateOk -/
@[reducible] def s_StateOk_sig : Sig := { ps := [none, none], pc := [.int .i64, .view .i64], rs := [none], rc := [.bool] }
noncomputable def s_StateOk_E : Env' := { fn := fun f => if f = 63 then some ⟨s_l1In_sig, s_l1In_f⟩ else none, ck := ckT, cuts := [(2, [0, 1, 5]), (6, [0, 1])], mine := fun i => false }
noncomputable def s_StateOk_f (x : Ts s_StateOk_sig.pc) : Option (Ts s_StateOk_sig.rc) := runFn Try.prog (s_StateOk_E) Try.f57 s_StateOk_sig x
noncomputable def s_StateOk_l0 (y0 : Int) (y1 : List (Int)) (y2 : Int) : Option ((Bool)) := from_ Try.prog (s_StateOk_E) Try.f57 s_StateOk_sig [1, 0, 1, 0] ⟨mkT 32 [(0, .int .i64 y0), (1, .row false .i64 y1), (5, .int .i64 y2)], []⟩
noncomputable def s_StateOk_j1 (y0 : Int) (y1 : List (Int)) : Option ((Bool)) := from_ Try.prog (s_StateOk_E) Try.f57 s_StateOk_sig [1, 1] ⟨mkT 32 [(0, .int .i64 y0), (1, .row false .i64 y1)], []⟩
theorem s_StateOk_f_eq (x0 : (Int)) (x1 : (List (Int))) : s_StateOk_f (x0, x1) = (s_StateOk_l0 x0 x1 0) := by
  kernel_rfl
theorem s_StateOk_l0_eq (y0 : Int) (y1 : List (Int)) (y2 : Int) : s_StateOk_l0 y0 y1 y2 = (cond ((decide (y2 < (List.length y1 : Int)))) (if (0 : Int) ≤ y2 ∧ y2 < (List.length y1 : Int) then (cond ((decide ((List.getD y1 (y2 : Int).toNat 0) < 0))) (some false) (if (0 : Int) ≤ y2 ∧ y2 < (List.length y1 : Int) then (cond ((decide (y0 ≤ (List.getD y1 (y2 : Int).toNat 0)))) (some false) (s_StateOk_l0 y0 y1 (IntKind.i64.wrap (y2 + 1)))) else none)) else none) (s_StateOk_j1 y0 y1)) := by
  refine (loopK_eq Try.prog (s_StateOk_E) (sub (Try.f57.body.getD .skip) [1, 0, 1, 0, 0]) _ _).trans ?_
  kernel_rfl
theorem s_StateOk_j1_eq (y0 : Int) (y1 : List (Int)) : s_StateOk_j1 y0 y1 = (Option.bind (s_l1In_f (y0, 3, 5)) fun r1 => (cond (r1) (Option.bind (s_l1In_f ((List.length y1 : Int), 1, 6)) fun r2 => (some r2)) (some false))) := by
  kernel_rfl
theorem s_StateOk_ent : Entb Try.prog 57 := ⟨Try.f57, by kernel_rfl, by kernel_rfl, by kernel_rfl⟩
theorem s_StateOk_ok : CtrOk Try.prog 57 ⟨s_StateOk_sig, s_StateOk_f⟩ :=
  ctr_of (fn := Try.f57) (by kernel_rfl) (by kernel_rfl) (fun x : Ts s_StateOk_sig.pc => s_StateOk_E) (fun x => ⟨(fn_cons ⟨s_l1In_ok, s_l1In_ent⟩ fn_none), clo_none⟩) (fun h => by cases h) follows_ (fun _ _ => trivial)
end FN
set_option linter.unusedVariables false
namespace FN
open Go Go.Proofs
/-! loop.example/firingnets/spec.l3Ok -/
@[reducible] def s_l3Ok_sig : Sig := { ps := [none, none, none], pc := [.view .i64, .int .i64, .view .i64], rs := [none], rc := [.bool] }
noncomputable def s_l3Ok_E : Env' := { fn := fun f => if f = 56 then some ⟨s_NetOk_sig, s_NetOk_f⟩ else if f = 57 then some ⟨s_StateOk_sig, s_StateOk_f⟩ else none, ck := ckT, cuts := [], mine := fun i => false }
noncomputable def s_l3Ok_f (x : Ts s_l3Ok_sig.pc) : Option (Ts s_l3Ok_sig.rc) := runFn Try.prog (s_l3Ok_E) Try.f46 s_l3Ok_sig x
theorem s_l3Ok_f_eq (x0 : (List (Int))) (x1 : (Int)) (x2 : (List (Int))) : s_l3Ok_f (x0, x1, x2) = (Option.bind (s_NetOk_f x0) fun r1 => (cond (r1) (Option.bind (s_StateOk_f (x1, x2)) fun r2 => (cond (r2) (some ((List.length x2 : Int) == (List.length x0 : Int))) (some false))) (some false))) := by
  kernel_rfl
theorem s_l3Ok_ent : Entb Try.prog 46 := ⟨Try.f46, by kernel_rfl, by kernel_rfl, by kernel_rfl⟩
theorem s_l3Ok_ok : CtrOk Try.prog 46 ⟨s_l3Ok_sig, s_l3Ok_f⟩ :=
  ctr_of (fn := Try.f46) (by kernel_rfl) (by kernel_rfl) (fun x : Ts s_l3Ok_sig.pc => s_l3Ok_E) (fun x => ⟨(fn_cons ⟨s_NetOk_ok, s_NetOk_ent⟩ (fn_cons ⟨s_StateOk_ok, s_StateOk_ent⟩ fn_none)), clo_none⟩) (fun h => by cases h) follows_ (fun _ _ => trivial)
end FN
set_option linter.unusedVariables false
namespace FN
open Go Go.Proofs
/-! loop.example/firingnets/spec.PlaceOk -/
@[reducible] def s_PlaceOk_sig : Sig := { ps := [some 3], pc := [.view .i64, .int .i64, .view .i64], rs := [none], rc := [.bool] }
noncomputable def s_PlaceOk_E : Env' := { fn := fun f => if f = 46 then some ⟨s_l3Ok_sig, s_l3Ok_f⟩ else none, ck := ckT, cuts := [], mine := fun i => false }
noncomputable def s_PlaceOk_f (x : Ts s_PlaceOk_sig.pc) : Option (Ts s_PlaceOk_sig.rc) := runFn Try.prog (s_PlaceOk_E) Try.f28 s_PlaceOk_sig x
theorem s_PlaceOk_f_eq (x0 : (List (Int))) (x1 : (Int)) (x2 : (List (Int))) : s_PlaceOk_f (x0, x1, x2) = (Option.bind (s_l3Ok_f (x0, x1, x2)) fun r1 => (some r1)) := by
  kernel_rfl
theorem s_PlaceOk_ent : Entb Try.prog 28 := ⟨Try.f28, by kernel_rfl, by kernel_rfl, by kernel_rfl⟩
theorem s_PlaceOk_ok : CtrOk Try.prog 28 ⟨s_PlaceOk_sig, s_PlaceOk_f⟩ :=
  ctr_of (fn := Try.f28) (by kernel_rfl) (by kernel_rfl) (fun x : Ts s_PlaceOk_sig.pc => s_PlaceOk_E) (fun x => ⟨(fn_cons ⟨s_l3Ok_ok, s_l3Ok_ent⟩ fn_none), clo_none⟩) (fun h => by cases h) follows_ (fun _ _ => trivial)
end FN
set_option linter.unusedVariables false
namespace FN
open Go Go.Proofs
/-! loop.example/firingnets/laws.szIntS -/
@[reducible] def w_szIntS_sig : Sig := { ps := [none, none], pc := [.view .i64, .int .i64], rs := [none], rc := [.int .i64] }
noncomputable def w_szIntS_E : Env' := { fn := fun f => none, ck := ckT, cuts := [], mine := fun i => false }
noncomputable def w_szIntS_f (x : Ts w_szIntS_sig.pc) : Option (Ts w_szIntS_sig.rc) := runFn Try.prog (w_szIntS_E) Try.f31 w_szIntS_sig x
theorem w_szIntS_f_eq (x0 : (List (Int))) (x1 : (Int)) : w_szIntS_f (x0, x1) = (cond ((decide ((IntKind.i64.wrap (x1 - (List.length x0 : Int))) < 0))) (some (-1)) (some (IntKind.i64.wrap (x1 - (List.length x0 : Int))))) := by
  kernel_rfl
theorem w_szIntS_ent : Entb Try.prog 31 := ⟨Try.f31, by kernel_rfl, by kernel_rfl, by kernel_rfl⟩
theorem w_szIntS_ok : CtrOk Try.prog 31 ⟨w_szIntS_sig, w_szIntS_f⟩ :=
  ctr_of (fn := Try.f31) (by kernel_rfl) (by kernel_rfl) (fun x : Ts w_szIntS_sig.pc => w_szIntS_E) (fun x => ⟨fn_none, clo_none⟩) (fun h => by cases h) follows_ (fun _ _ => trivial)
end FN
set_option linter.unusedVariables false
namespace FN
open Go Go.Proofs
/-! loop.example/firingnets/laws.szPlace -/
@[reducible] def w_szPlace_sig : Sig := { ps := [some 3, none], pc := [.view .i64, .int .i64, .view .i64, .int .i64], rs := [none], rc := [.int .i64] }
noncomputable def w_szPlace_E : Env' := { fn := fun f => if f = 31 then some ⟨w_szIntS_sig, w_szIntS_f⟩ else none, ck := ckT, cuts := [], mine := fun i => false }
noncomputable def w_szPlace_f (x : Ts w_szPlace_sig.pc) : Option (Ts w_szPlace_sig.rc) := runFn Try.prog (w_szPlace_E) Try.f12 w_szPlace_sig x
theorem w_szPlace_f_eq (x0 : (List (Int))) (x1 : (Int)) (x2 : (List (Int))) (x3 : (Int)) : w_szPlace_f (x0, x1, x2, x3) = (Option.bind (w_szIntS_f (x0, x3)) fun r1 => (cond ((decide (r1 < 0))) (some (-1)) (Option.bind (w_szIntS_f (x2, r1)) fun r2 => (cond ((decide (r2 < 0))) (some (-1)) (some r2))))) := by
  kernel_rfl
theorem w_szPlace_ent : Entb Try.prog 12 := ⟨Try.f12, by kernel_rfl, by kernel_rfl, by kernel_rfl⟩
theorem w_szPlace_ok : CtrOk Try.prog 12 ⟨w_szPlace_sig, w_szPlace_f⟩ :=
  ctr_of (fn := Try.f12) (by kernel_rfl) (by kernel_rfl) (fun x : Ts w_szPlace_sig.pc => w_szPlace_E) (fun x => ⟨(fn_cons ⟨w_szIntS_ok, w_szIntS_ent⟩ fn_none), clo_none⟩) (fun h => by cases h) follows_ (fun _ _ => trivial)
end FN
set_option linter.unusedVariables false
namespace FN
open Go Go.Proofs
/-! loop.example/firingnets/laws.toIntS -/
@[reducible] def w_toIntS_sig : Sig := { ps := [none], pc := [.view .i64], rs := [none], rc := [.row 3 .i64] }
noncomputable def w_toIntS_E : Env' := { fn := fun f => none, ck := ckT, cuts := [(3, [0, 3, 4])], mine := fun i => false }
noncomputable def w_toIntS_f (x : Ts w_toIntS_sig.pc) : Option (Ts w_toIntS_sig.rc) := runFn Try.prog (w_toIntS_E) Try.f33 w_toIntS_sig x
noncomputable def w_toIntS_l0 (y0 : List (Int)) (y1 : Int) (y2 : List (Int)) : Option ((List (Int))) := from_ Try.prog (w_toIntS_E) Try.f33 w_toIntS_sig [1, 1, 0, 1, 0] ⟨mkT 22 [(0, .row false .i64 y0), (3, .own 0), (4, .int .i64 y1)], [some (.arr 3 true .i64 y2)]⟩
theorem w_toIntS_f_eq (x0 : (List (Int))) : w_toIntS_f x0 = (if (0 : Int) ≤ (List.length x0 : Int) ∧ (List.length x0 : Int) * 8 ≤ 140737488355328 ∧ (List.length x0 : Int) ≤ 140737488355328 then (w_toIntS_l0 x0 0 (List.replicate ((List.length x0 : Int) : Int).toNat 0 : List (Int))) else none) := by
  kernel_rfl
theorem w_toIntS_l0_eq (y0 : List (Int)) (y1 : Int) (y2 : List (Int)) : w_toIntS_l0 y0 y1 y2 = (cond ((decide (y1 < (List.length y0 : Int)))) (if (0 : Int) ≤ y1 ∧ y1 < (List.length y0 : Int) then (if (0 : Int) ≤ y1 ∧ y1 < (List.length y2 : Int) then (w_toIntS_l0 y0 (IntKind.i64.wrap (y1 + 1)) (List.set y2 (y1 : Int).toNat (List.getD y0 (y1 : Int).toNat 0))) else none) else none) (some y2)) := by
  refine (loopK_eq Try.prog (w_toIntS_E) (sub (Try.f33.body.getD .skip) [1, 1, 0, 1, 0, 0]) _ _).trans ?_
  kernel_rfl
theorem w_toIntS_ent : Entb Try.prog 33 := ⟨Try.f33, by kernel_rfl, by kernel_rfl, by kernel_rfl⟩
theorem w_toIntS_ok : CtrOk Try.prog 33 ⟨w_toIntS_sig, w_toIntS_f⟩ :=
  ctr_of (fn := Try.f33) (by kernel_rfl) (by kernel_rfl) (fun x : Ts w_toIntS_sig.pc => w_toIntS_E) (fun x => ⟨fn_none, clo_none⟩) (fun h => by cases h) follows_ (fun _ _ => trivial)
end FN
set_option linter.unusedVariables false
namespace FN
open Go Go.Proofs
/-! loop.example/firingnets/laws.toPlace -/
@[reducible] def w_toPlace_sig : Sig := { ps := [some 3], pc := [.view .i64, .int .i64, .view .i64], rs := [some 3], rc := [.row 3 .i64, .int .i64, .row 3 .i64] }
noncomputable def w_toPlace_E : Env' := { fn := fun f => if f = 33 then some ⟨w_toIntS_sig, w_toIntS_f⟩ else none, ck := ckT, cuts := [], mine := fun i => i == 6 || i == 13 }
noncomputable def w_toPlace_f (x : Ts w_toPlace_sig.pc) : Option (Ts w_toPlace_sig.rc) := runFn Try.prog (w_toPlace_E) Try.f14 w_toPlace_sig x
theorem w_toPlace_f_eq (x0 : (List (Int))) (x1 : (Int)) (x2 : (List (Int))) : w_toPlace_f (x0, x1, x2) = (Option.bind (w_toIntS_f x0) fun r1 => (Option.bind (w_toIntS_f x2) fun r2 => (some (r1, x1, r2)))) := by
  kernel_rfl
theorem w_toPlace_ent : Entb Try.prog 14 := ⟨Try.f14, by kernel_rfl, by kernel_rfl, by kernel_rfl⟩
theorem w_toPlace_ok : CtrOk Try.prog 14 ⟨w_toPlace_sig, w_toPlace_f⟩ :=
  ctr_of (fn := Try.f14) (by kernel_rfl) (by kernel_rfl) (fun x : Ts w_toPlace_sig.pc => w_toPlace_E) (fun x => ⟨(fn_cons ⟨w_toIntS_ok, w_toIntS_ent⟩ fn_none), clo_none⟩) (fun h => by cases h) follows_ (fun _ _ => trivial)
end FN
set_option linter.unusedVariables false
namespace FN
open Go Go.Proofs
/-! loop.example/firingnets/laws.eqIntS -/
@[reducible] def w_eqIntS_sig : Sig := { ps := [none, none], pc := [.view .i64, .view .i64], rs := [none], rc := [.bool] }
noncomputable def w_eqIntS_E : Env' := { fn := fun f => none, ck := ckT, cuts := [(4, [0, 1, 5])], mine := fun i => false }
noncomputable def w_eqIntS_f (x : Ts w_eqIntS_sig.pc) : Option (Ts w_eqIntS_sig.rc) := runFn Try.prog (w_eqIntS_E) Try.f35 w_eqIntS_sig x
noncomputable def w_eqIntS_l0 (y0 : List (Int)) (y1 : List (Int)) (y2 : Int) : Option ((Bool)) := from_ Try.prog (w_eqIntS_E) Try.f35 w_eqIntS_sig [1, 1, 0, 1, 0] ⟨mkT 26 [(0, .row false .i64 y0), (1, .row false .i64 y1), (5, .int .i64 y2)], []⟩
theorem w_eqIntS_f_eq (x0 : (List (Int))) (x1 : (List (Int))) : w_eqIntS_f (x0, x1) = (cond (((List.length x0 : Int) != (List.length x1 : Int))) (some false) (w_eqIntS_l0 x0 x1 0)) := by
  kernel_rfl
theorem w_eqIntS_l0_eq (y0 : List (Int)) (y1 : List (Int)) (y2 : Int) : w_eqIntS_l0 y0 y1 y2 = (cond ((decide (y2 < (List.length y0 : Int)))) (if (0 : Int) ≤ y2 ∧ y2 < (List.length y0 : Int) then (if (0 : Int) ≤ y2 ∧ y2 < (List.length y1 : Int) then (cond (((List.getD y0 (y2 : Int).toNat 0) != (List.getD y1 (y2 : Int).toNat 0))) (some false) (w_eqIntS_l0 y0 y1 (IntKind.i64.wrap (y2 + 1)))) else none) else none) (some true)) := by
  refine (loopK_eq Try.prog (w_eqIntS_E) (sub (Try.f35.body.getD .skip) [1, 1, 0, 1, 0, 0]) _ _).trans ?_
  kernel_rfl
theorem w_eqIntS_ent : Entb Try.prog 35 := ⟨Try.f35, by kernel_rfl, by kernel_rfl, by kernel_rfl⟩
theorem w_eqIntS_ok : CtrOk Try.prog 35 ⟨w_eqIntS_sig, w_eqIntS_f⟩ :=
  ctr_of (fn := Try.f35) (by kernel_rfl) (by kernel_rfl) (fun x : Ts w_eqIntS_sig.pc => w_eqIntS_E) (fun x => ⟨fn_none, clo_none⟩) (fun h => by cases h) follows_ (fun _ _ => trivial)
end FN
set_option linter.unusedVariables false
namespace FN
open Go Go.Proofs
/-! loop.example/firingnets/laws.eqPlace -/
@[reducible] def w_eqPlace_sig : Sig := { ps := [some 3, some 3], pc := [.view .i64, .int .i64, .view .i64, .view .i64, .int .i64, .view .i64], rs := [none], rc := [.bool] }
noncomputable def w_eqPlace_E : Env' := { fn := fun f => if f = 35 then some ⟨w_eqIntS_sig, w_eqIntS_f⟩ else none, ck := ckT, cuts := [], mine := fun i => false }
noncomputable def w_eqPlace_f (x : Ts w_eqPlace_sig.pc) : Option (Ts w_eqPlace_sig.rc) := runFn Try.prog (w_eqPlace_E) Try.f16 w_eqPlace_sig x
theorem w_eqPlace_f_eq (x0 : (List (Int))) (x1 : (Int)) (x2 : (List (Int))) (x3 : (List (Int))) (x4 : (Int)) (x5 : (List (Int))) : w_eqPlace_f (x0, x1, x2, x3, x4, x5) = (Option.bind (w_eqIntS_f (x0, x3)) fun r1 => (cond ((!r1)) (some false) (cond ((x1 != x4)) (some false) (Option.bind (w_eqIntS_f (x2, x5)) fun r2 => (cond ((!r2)) (some false) (some true)))))) := by
  kernel_rfl
theorem w_eqPlace_ent : Entb Try.prog 16 := ⟨Try.f16, by kernel_rfl, by kernel_rfl, by kernel_rfl⟩
theorem w_eqPlace_ok : CtrOk Try.prog 16 ⟨w_eqPlace_sig, w_eqPlace_f⟩ :=
  ctr_of (fn := Try.f16) (by kernel_rfl) (by kernel_rfl) (fun x : Ts w_eqPlace_sig.pc => w_eqPlace_E) (fun x => ⟨(fn_cons ⟨w_eqIntS_ok, w_eqIntS_ent⟩ fn_none), clo_none⟩) (fun h => by cases h) follows_ (fun _ _ => trivial)
end FN
set_option linter.unusedVariables false
namespace FN
open Go Go.Proofs
/-! loop.example/firingnets/laws.szPlaceS -/
@[reducible] def w_szPlaceS_sig : Sig := { ps := [none, none], pc := [.view .place, .int .i64], rs := [none], rc := [.int .i64] }
noncomputable def w_szPlaceS_E : Env' := { fn := fun f => if f = 12 then some ⟨w_szPlace_sig, w_szPlace_f⟩ else none, ck := ckT, cuts := [(5, [0, 1, 5])], mine := fun i => false }
noncomputable def w_szPlaceS_f (x : Ts w_szPlaceS_sig.pc) : Option (Ts w_szPlaceS_sig.rc) := runFn Try.prog (w_szPlaceS_E) Try.f27 w_szPlaceS_sig x
noncomputable def w_szPlaceS_l0 (y0 : List (List Int × Int × List Int)) (y1 : Int) (y2 : Int) : Option ((Int)) := from_ Try.prog (w_szPlaceS_E) Try.f27 w_szPlaceS_sig [1, 1, 1, 0, 1, 0] ⟨mkT 27 [(0, .row false .place y0), (1, .int .i64 y1), (5, .int .i64 y2)], []⟩
theorem w_szPlaceS_f_eq (x0 : (List (List Int × Int × List Int))) (x1 : (Int)) : w_szPlaceS_f (x0, x1) = (cond ((decide ((IntKind.i64.wrap (x1 - (List.length x0 : Int))) < 0))) (some (-1)) (w_szPlaceS_l0 x0 (IntKind.i64.wrap (x1 - (List.length x0 : Int))) 0)) := by
  kernel_rfl
theorem w_szPlaceS_l0_eq (y0 : List (List Int × Int × List Int)) (y1 : Int) (y2 : Int) : w_szPlaceS_l0 y0 y1 y2 = (cond ((decide (y2 < (List.length y0 : Int)))) (if (0 : Int) ≤ y2 ∧ y2 < (List.length y0 : Int) then (Option.bind (w_szPlace_f ((List.getD y0 (y2 : Int).toNat ([], 0, [])).1, (List.getD y0 (y2 : Int).toNat ([], 0, [])).2.1, (List.getD y0 (y2 : Int).toNat ([], 0, [])).2.2, y1)) fun r1 => (cond ((decide (r1 < 0))) (some (-1)) (w_szPlaceS_l0 y0 r1 (IntKind.i64.wrap (y2 + 1))))) else none) (some y1)) := by
  refine (loopK_eq Try.prog (w_szPlaceS_E) (sub (Try.f27.body.getD .skip) [1, 1, 1, 0, 1, 0, 0]) _ _).trans ?_
  kernel_rfl
theorem w_szPlaceS_ent : Entb Try.prog 27 := ⟨Try.f27, by kernel_rfl, by kernel_rfl, by kernel_rfl⟩
theorem w_szPlaceS_ok : CtrOk Try.prog 27 ⟨w_szPlaceS_sig, w_szPlaceS_f⟩ :=
  ctr_of (fn := Try.f27) (by kernel_rfl) (by kernel_rfl) (fun x : Ts w_szPlaceS_sig.pc => w_szPlaceS_E) (fun x => ⟨(fn_cons ⟨w_szPlace_ok, w_szPlace_ent⟩ fn_none), clo_none⟩) (fun h => by cases h) follows_ (fun _ _ => trivial)
end FN
set_option linter.unusedVariables false
namespace FN
open Go Go.Proofs
/-! loop.example/firingnets/laws.szDesk -/
@[reducible] def w_szDesk_sig : Sig := { ps := [some 4, none], pc := [.view .i64, .int .i64, .view .i64, .view .place, .int .i64], rs := [none], rc := [.int .i64] }
noncomputable def w_szDesk_E : Env' := { fn := fun f => if f = 12 then some ⟨w_szPlace_sig, w_szPlace_f⟩ else if f = 27 then some ⟨w_szPlaceS_sig, w_szPlaceS_f⟩ else none, ck := ckT, cuts := [], mine := fun i => false }
noncomputable def w_szDesk_f (x : Ts w_szDesk_sig.pc) : Option (Ts w_szDesk_sig.rc) := runFn Try.prog (w_szDesk_E) Try.f7 w_szDesk_sig x
theorem w_szDesk_f_eq (x0 : (List (Int))) (x1 : (Int)) (x2 : (List (Int))) (x3 : (List (List Int × Int × List Int))) (x4 : (Int)) : w_szDesk_f (x0, x1, x2, x3, x4) = (Option.bind (w_szPlace_f (x0, x1, x2, x4)) fun r1 => (cond ((decide (r1 < 0))) (some (-1)) (Option.bind (w_szPlaceS_f (x3, r1)) fun r2 => (cond ((decide (r2 < 0))) (some (-1)) (some r2))))) := by
  kernel_rfl
theorem w_szDesk_ent : Entb Try.prog 7 := ⟨Try.f7, by kernel_rfl, by kernel_rfl, by kernel_rfl⟩
theorem w_szDesk_ok : CtrOk Try.prog 7 ⟨w_szDesk_sig, w_szDesk_f⟩ :=
  ctr_of (fn := Try.f7) (by kernel_rfl) (by kernel_rfl) (fun x : Ts w_szDesk_sig.pc => w_szDesk_E) (fun x => ⟨(fn_cons ⟨w_szPlace_ok, w_szPlace_ent⟩ (fn_cons ⟨w_szPlaceS_ok, w_szPlaceS_ent⟩ fn_none)), clo_none⟩) (fun h => by cases h) follows_ (fun _ _ => trivial)
end FN
set_option linter.unusedVariables false
namespace FN
open Go Go.Proofs
/-! loop.example/firingnets/laws.toPlaceS -/
@[reducible] def w_toPlaceS_sig : Sig := { ps := [none], pc := [.view .place], rs := [none], rc := [.row 30 .place] }
noncomputable def w_toPlaceS_E : Env' := { fn := fun f => if f = 14 then some ⟨w_toPlace_sig, w_toPlace_f⟩ else none, ck := ckT, cuts := [(3, [0, 3, 4])], mine := fun i => false }
noncomputable def w_toPlaceS_f (x : Ts w_toPlaceS_sig.pc) : Option (Ts w_toPlaceS_sig.rc) := runFn Try.prog (w_toPlaceS_E) Try.f29 w_toPlaceS_sig x
noncomputable def w_toPlaceS_l0 (y0 : List (List Int × Int × List Int)) (y1 : Int) (y2 : List (List Int × Int × List Int)) : Option ((List (List Int × Int × List Int))) := from_ Try.prog (w_toPlaceS_E) Try.f29 w_toPlaceS_sig [1, 1, 0, 1, 0] ⟨mkT 23 [(0, .row false .place y0), (3, .own 0), (4, .int .i64 y1)], [some (.arr 30 true .place y2)]⟩
theorem w_toPlaceS_f_eq (x0 : (List (List Int × Int × List Int))) : w_toPlaceS_f x0 = (if (0 : Int) ≤ (List.length x0 : Int) ∧ (List.length x0 : Int) * 56 ≤ 140737488355328 ∧ (List.length x0 : Int) ≤ 140737488355328 then (w_toPlaceS_l0 x0 0 (List.replicate ((List.length x0 : Int) : Int).toNat ([], 0, []) : List (List Int × Int × List Int))) else none) := by
  kernel_rfl
theorem w_toPlaceS_l0_eq (y0 : List (List Int × Int × List Int)) (y1 : Int) (y2 : List (List Int × Int × List Int)) : w_toPlaceS_l0 y0 y1 y2 = (cond ((decide (y1 < (List.length y0 : Int)))) (if (0 : Int) ≤ y1 ∧ y1 < (List.length y0 : Int) then (Option.bind (w_toPlace_f ((List.getD y0 (y1 : Int).toNat ([], 0, [])).1, (List.getD y0 (y1 : Int).toNat ([], 0, [])).2.1, (List.getD y0 (y1 : Int).toNat ([], 0, [])).2.2)) fun r1 => (if (0 : Int) ≤ y1 ∧ y1 < (List.length y2 : Int) then (w_toPlaceS_l0 y0 (IntKind.i64.wrap (y1 + 1)) (List.set y2 (y1 : Int).toNat (r1.1, r1.2.1, r1.2.2))) else none)) else none) (some y2)) := by
  refine (loopK_eq Try.prog (w_toPlaceS_E) (sub (Try.f29.body.getD .skip) [1, 1, 0, 1, 0, 0]) _ _).trans ?_
  kernel_rfl
theorem w_toPlaceS_ent : Entb Try.prog 29 := ⟨Try.f29, by kernel_rfl, by kernel_rfl, by kernel_rfl⟩
theorem w_toPlaceS_ok : CtrOk Try.prog 29 ⟨w_toPlaceS_sig, w_toPlaceS_f⟩ :=
  ctr_of (fn := Try.f29) (by kernel_rfl) (by kernel_rfl) (fun x : Ts w_toPlaceS_sig.pc => w_toPlaceS_E) (fun x => ⟨(fn_cons ⟨w_toPlace_ok, w_toPlace_ent⟩ fn_none), clo_none⟩) (fun h => by cases h) follows_ (fun _ _ => trivial)
end FN
set_option linter.unusedVariables false
namespace FN
open Go Go.Proofs
/-! loop.example/firingnets/laws.toDesk -/
@[reducible] def w_toDesk_sig : Sig := { ps := [some 4], pc := [.view .i64, .int .i64, .view .i64, .view .place], rs := [some 4], rc := [.row 3 .i64, .int .i64, .row 3 .i64, .row 30 .place] }
noncomputable def w_toDesk_E : Env' := { fn := fun f => if f = 14 then some ⟨w_toPlace_sig, w_toPlace_f⟩ else if f = 29 then some ⟨w_toPlaceS_sig, w_toPlaceS_f⟩ else none, ck := ckT, cuts := [], mine := fun i => i == 6 || i == 10 }
noncomputable def w_toDesk_f (x : Ts w_toDesk_sig.pc) : Option (Ts w_toDesk_sig.rc) := runFn Try.prog (w_toDesk_E) Try.f9 w_toDesk_sig x
theorem w_toDesk_f_eq (x0 : (List (Int))) (x1 : (Int)) (x2 : (List (Int))) (x3 : (List (List Int × Int × List Int))) : w_toDesk_f (x0, x1, x2, x3) = (Option.bind (w_toPlace_f (x0, x1, x2)) fun r1 => (Option.bind (w_toPlaceS_f x3) fun r2 => (some (r1.1, r1.2.1, r1.2.2, r2)))) := by
  kernel_rfl
theorem w_toDesk_ent : Entb Try.prog 9 := ⟨Try.f9, by kernel_rfl, by kernel_rfl, by kernel_rfl⟩
theorem w_toDesk_ok : CtrOk Try.prog 9 ⟨w_toDesk_sig, w_toDesk_f⟩ :=
  ctr_of (fn := Try.f9) (by kernel_rfl) (by kernel_rfl) (fun x : Ts w_toDesk_sig.pc => w_toDesk_E) (fun x => ⟨(fn_cons ⟨w_toPlace_ok, w_toPlace_ent⟩ (fn_cons ⟨w_toPlaceS_ok, w_toPlaceS_ent⟩ fn_none)), clo_none⟩) (fun h => by cases h) follows_ (fun _ _ => trivial)
end FN
set_option linter.unusedVariables false
namespace FN
open Go Go.Proofs
/-! loop.example/firingnets/laws.eqPlaceS -/
@[reducible] def w_eqPlaceS_sig : Sig := { ps := [none, none], pc := [.view .place, .view .place], rs := [none], rc := [.bool] }
noncomputable def w_eqPlaceS_E : Env' := { fn := fun f => if f = 16 then some ⟨w_eqPlace_sig, w_eqPlace_f⟩ else none, ck := ckT, cuts := [(4, [0, 1, 5])], mine := fun i => false }
noncomputable def w_eqPlaceS_f (x : Ts w_eqPlaceS_sig.pc) : Option (Ts w_eqPlaceS_sig.rc) := runFn Try.prog (w_eqPlaceS_E) Try.f30 w_eqPlaceS_sig x
noncomputable def w_eqPlaceS_l0 (y0 : List (List Int × Int × List Int)) (y1 : List (List Int × Int × List Int)) (y2 : Int) : Option ((Bool)) := from_ Try.prog (w_eqPlaceS_E) Try.f30 w_eqPlaceS_sig [1, 1, 0, 1, 0] ⟨mkT 27 [(0, .row false .place y0), (1, .row false .place y1), (5, .int .i64 y2)], []⟩
theorem w_eqPlaceS_f_eq (x0 : (List (List Int × Int × List Int))) (x1 : (List (List Int × Int × List Int))) : w_eqPlaceS_f (x0, x1) = (cond (((List.length x0 : Int) != (List.length x1 : Int))) (some false) (w_eqPlaceS_l0 x0 x1 0)) := by
  kernel_rfl
theorem w_eqPlaceS_l0_eq (y0 : List (List Int × Int × List Int)) (y1 : List (List Int × Int × List Int)) (y2 : Int) : w_eqPlaceS_l0 y0 y1 y2 = (cond ((decide (y2 < (List.length y0 : Int)))) (if (0 : Int) ≤ y2 ∧ y2 < (List.length y0 : Int) then (if (0 : Int) ≤ y2 ∧ y2 < (List.length y1 : Int) then (Option.bind (w_eqPlace_f ((List.getD y0 (y2 : Int).toNat ([], 0, [])).1, (List.getD y0 (y2 : Int).toNat ([], 0, [])).2.1, (List.getD y0 (y2 : Int).toNat ([], 0, [])).2.2, (List.getD y1 (y2 : Int).toNat ([], 0, [])).1, (List.getD y1 (y2 : Int).toNat ([], 0, [])).2.1, (List.getD y1 (y2 : Int).toNat ([], 0, [])).2.2)) fun r1 => (cond ((!r1)) (some false) (w_eqPlaceS_l0 y0 y1 (IntKind.i64.wrap (y2 + 1))))) else none) else none) (some true)) := by
  refine (loopK_eq Try.prog (w_eqPlaceS_E) (sub (Try.f30.body.getD .skip) [1, 1, 0, 1, 0, 0]) _ _).trans ?_
  kernel_rfl
theorem w_eqPlaceS_ent : Entb Try.prog 30 := ⟨Try.f30, by kernel_rfl, by kernel_rfl, by kernel_rfl⟩
theorem w_eqPlaceS_ok : CtrOk Try.prog 30 ⟨w_eqPlaceS_sig, w_eqPlaceS_f⟩ :=
  ctr_of (fn := Try.f30) (by kernel_rfl) (by kernel_rfl) (fun x : Ts w_eqPlaceS_sig.pc => w_eqPlaceS_E) (fun x => ⟨(fn_cons ⟨w_eqPlace_ok, w_eqPlace_ent⟩ fn_none), clo_none⟩) (fun h => by cases h) follows_ (fun _ _ => trivial)
end FN
set_option linter.unusedVariables false
namespace FN
open Go Go.Proofs
/-! loop.example/firingnets/laws.eqDesk -/
@[reducible] def w_eqDesk_sig : Sig := { ps := [some 4, some 4], pc := [.view .i64, .int .i64, .view .i64, .view .place, .view .i64, .int .i64, .view .i64, .view .place], rs := [none], rc := [.bool] }
noncomputable def w_eqDesk_E : Env' := { fn := fun f => if f = 16 then some ⟨w_eqPlace_sig, w_eqPlace_f⟩ else if f = 30 then some ⟨w_eqPlaceS_sig, w_eqPlaceS_f⟩ else none, ck := ckT, cuts := [], mine := fun i => false }
noncomputable def w_eqDesk_f (x : Ts w_eqDesk_sig.pc) : Option (Ts w_eqDesk_sig.rc) := runFn Try.prog (w_eqDesk_E) Try.f11 w_eqDesk_sig x
theorem w_eqDesk_f_eq (x0 : (List (Int))) (x1 : (Int)) (x2 : (List (Int))) (x3 : (List (List Int × Int × List Int))) (x4 : (List (Int))) (x5 : (Int)) (x6 : (List (Int))) (x7 : (List (List Int × Int × List Int))) : w_eqDesk_f (x0, x1, x2, x3, x4, x5, x6, x7) = (Option.bind (w_eqPlace_f (x0, x1, x2, x4, x5, x6)) fun r1 => (cond ((!r1)) (some false) (Option.bind (w_eqPlaceS_f (x3, x7)) fun r2 => (cond ((!r2)) (some false) (some true))))) := by
  kernel_rfl
theorem w_eqDesk_ent : Entb Try.prog 11 := ⟨Try.f11, by kernel_rfl, by kernel_rfl, by kernel_rfl⟩
theorem w_eqDesk_ok : CtrOk Try.prog 11 ⟨w_eqDesk_sig, w_eqDesk_f⟩ :=
  ctr_of (fn := Try.f11) (by kernel_rfl) (by kernel_rfl) (fun x : Ts w_eqDesk_sig.pc => w_eqDesk_E) (fun x => ⟨(fn_cons ⟨w_eqPlace_ok, w_eqPlace_ent⟩ (fn_cons ⟨w_eqPlaceS_ok, w_eqPlaceS_ent⟩ fn_none)), clo_none⟩) (fun h => by cases h) follows_ (fun _ _ => trivial)
end FN
set_option linter.unusedVariables false
namespace FN
open Go Go.Proofs
/-! loop.example/firingnets/impl.DeskOk -/
@[reducible] def i_DeskOk_sig : Sig := { ps := [some 4], pc := [.view .i64, .int .i64, .view .i64, .view .place], rs := [none], rc := [.bool] }
noncomputable def i_DeskOk_E : Env' := { fn := fun f => if f = 23 then some ⟨i_PlaceOk_sig, i_PlaceOk_f⟩ else none, ck := ckT, cuts := [(2, [1, 6, 7, 8]), (7, [1])], mine := fun i => false }
noncomputable def i_DeskOk_f (x : Ts i_DeskOk_sig.pc) : Option (Ts i_DeskOk_sig.rc) := runFn Try.prog (i_DeskOk_E) Try.f10 i_DeskOk_sig x
noncomputable def i_DeskOk_l0 (y0 : List (List Int × Int × List Int)) (y1 : Int) (y2 : Int) (y3 : List (Int)) (y4 : Int) (y5 : List (Int)) (y6 : List (List Int × Int × List Int)) : Option ((Bool)) := from_ Try.prog (i_DeskOk_E) Try.f10 i_DeskOk_sig [1, 0, 1, 0] ⟨mkT 25 [(1, .ptr 0 0), (6, .row false .place y0), (7, .int .i64 y1), (8, .int .i64 y2)], [some (.box 33 [.row false .i64 y3, .int .i64 y4, .row false .i64 y5, .row false .place y6])]⟩
noncomputable def i_DeskOk_j1 (y0 : List (Int)) (y1 : Int) (y2 : List (Int)) (y3 : List (List Int × Int × List Int)) : Option ((Bool)) := from_ Try.prog (i_DeskOk_E) Try.f10 i_DeskOk_sig [1, 1] ⟨mkT 25 [(1, .ptr 0 0)], [some (.box 33 [.row false .i64 y0, .int .i64 y1, .row false .i64 y2, .row false .place y3])]⟩
theorem i_DeskOk_f_eq (x0 : (List (Int))) (x1 : (Int)) (x2 : (List (Int))) (x3 : (List (List Int × Int × List Int))) : i_DeskOk_f (x0, x1, x2, x3) = (i_DeskOk_l0 x3 (List.length x3 : Int) 0 x0 x1 x2 x3) := by
  kernel_rfl
theorem i_DeskOk_l0_eq (y0 : List (List Int × Int × List Int)) (y1 : Int) (y2 : Int) (y3 : List (Int)) (y4 : Int) (y5 : List (Int)) (y6 : List (List Int × Int × List Int)) : i_DeskOk_l0 y0 y1 y2 y3 y4 y5 y6 = (cond ((decide (y2 < y1))) (if (0 : Int) ≤ y2 ∧ y2 < (List.length y0 : Int) then (Option.bind (i_PlaceOk_f ((List.getD y0 (y2 : Int).toNat ([], 0, [])).1, (List.getD y0 (y2 : Int).toNat ([], 0, [])).2.1, (List.getD y0 (y2 : Int).toNat ([], 0, [])).2.2)) fun r1 => (cond ((!r1)) (some false) (i_DeskOk_l0 y0 y1 (IntKind.i64.wrap (y2 + 1)) y3 y4 y5 y6))) else none) (i_DeskOk_j1 y3 y4 y5 y6)) := by
  refine (loopK_eq Try.prog (i_DeskOk_E) (sub (Try.f10.body.getD .skip) [1, 0, 1, 0, 0]) _ _).trans ?_
  kernel_rfl
theorem i_DeskOk_j1_eq (y0 : List (Int)) (y1 : Int) (y2 : List (Int)) (y3 : List (List Int × Int × List Int)) : i_DeskOk_j1 y0 y1 y2 y3 = (Option.bind (i_PlaceOk_f (y0, y1, y2)) fun r1 => (cond (r1) (some (decide ((List.length y3 : Int) ≤ 8))) (some false))) := by
  kernel_rfl
theorem i_DeskOk_ent : Entb Try.prog 10 := ⟨Try.f10, by kernel_rfl, by kernel_rfl, by kernel_rfl⟩
theorem i_DeskOk_ok : CtrOk Try.prog 10 ⟨i_DeskOk_sig, i_DeskOk_f⟩ :=
  ctr_of (fn := Try.f10) (by kernel_rfl) (by kernel_rfl) (fun x : Ts i_DeskOk_sig.pc => i_DeskOk_E) (fun x => ⟨(fn_cons ⟨i_PlaceOk_ok, i_PlaceOk_ent⟩ fn_none), clo_none⟩) (fun h => by cases h) follows_ (fun _ _ => trivial)
end FN
set_option linter.unusedVariables false
namespace FN
open Go Go.Proofs
/-! loop.example/firingnets/spec.DeskOk -/
@[reducible] def s_DeskOk_sig : Sig := { ps := [some 4], pc := [.view .i64, .int .i64, .view .i64, .view .place], rs := [none], rc := [.bool] }
noncomputable def s_DeskOk_E : Env' := { fn := fun f => if f = 28 then some ⟨s_PlaceOk_sig, s_PlaceOk_f⟩ else none, ck := ckT, cuts := [(2, [1, 3]), (6, [1])], mine := fun i => false }
noncomputable def s_DeskOk_f (x : Ts s_DeskOk_sig.pc) : Option (Ts s_DeskOk_sig.rc) := runFn Try.prog (s_DeskOk_E) Try.f8 s_DeskOk_sig x
noncomputable def s_DeskOk_l0 (y0 : Int) (y1 : List (Int)) (y2 : Int) (y3 : List (Int)) (y4 : List (List Int × Int × List Int)) : Option ((Bool)) := from_ Try.prog (s_DeskOk_E) Try.f8 s_DeskOk_sig [1, 0, 1, 0] ⟨mkT 27 [(1, .ptr 0 0), (3, .int .i64 y0)], [some (.box 33 [.row false .i64 y1, .int .i64 y2, .row false .i64 y3, .row false .place y4])]⟩
noncomputable def s_DeskOk_j1 (y0 : List (Int)) (y1 : Int) (y2 : List (Int)) (y3 : List (List Int × Int × List Int)) : Option ((Bool)) := from_ Try.prog (s_DeskOk_E) Try.f8 s_DeskOk_sig [1, 1] ⟨mkT 27 [(1, .ptr 0 0)], [some (.box 33 [.row false .i64 y0, .int .i64 y1, .row false .i64 y2, .row false .place y3])]⟩
theorem s_DeskOk_f_eq (x0 : (List (Int))) (x1 : (Int)) (x2 : (List (Int))) (x3 : (List (List Int × Int × List Int))) : s_DeskOk_f (x0, x1, x2, x3) = (s_DeskOk_l0 0 x0 x1 x2 x3) := by
  kernel_rfl
theorem s_DeskOk_l0_eq (y0 : Int) (y1 : List (Int)) (y2 : Int) (y3 : List (Int)) (y4 : List (List Int × Int × List Int)) : s_DeskOk_l0 y0 y1 y2 y3 y4 = (cond ((decide (y0 < (List.length y4 : Int)))) (if (0 : Int) ≤ y0 ∧ y0 < (List.length y4 : Int) then (Option.bind (s_PlaceOk_f ((List.getD y4 (y0 : Int).toNat ([], 0, [])).1, (List.getD y4 (y0 : Int).toNat ([], 0, [])).2.1, (List.getD y4 (y0 : Int).toNat ([], 0, [])).2.2)) fun r1 => (cond ((!r1)) (some false) (s_DeskOk_l0 (IntKind.i64.wrap (y0 + 1)) y1 y2 y3 y4))) else none) (s_DeskOk_j1 y1 y2 y3 y4)) := by
  refine (loopK_eq Try.prog (s_DeskOk_E) (sub (Try.f8.body.getD .skip) [1, 0, 1, 0, 0]) _ _).trans ?_
  kernel_rfl
theorem s_DeskOk_j1_eq (y0 : List (Int)) (y1 : Int) (y2 : List (Int)) (y3 : List (List Int × Int × List Int)) : s_DeskOk_j1 y0 y1 y2 y3 = (Option.bind (s_PlaceOk_f (y0, y1, y2)) fun r1 => (cond (r1) (some (decide ((List.length y3 : Int) ≤ 8))) (some false))) := by
  kernel_rfl
theorem s_DeskOk_ent : Entb Try.prog 8 := ⟨Try.f8, by kernel_rfl, by kernel_rfl, by kernel_rfl⟩
theorem s_DeskOk_ok : CtrOk Try.prog 8 ⟨s_DeskOk_sig, s_DeskOk_f⟩ :=
  ctr_of (fn := Try.f8) (by kernel_rfl) (by kernel_rfl) (fun x : Ts s_DeskOk_sig.pc => s_DeskOk_E) (fun x => ⟨(fn_cons ⟨s_PlaceOk_ok, s_PlaceOk_ent⟩ fn_none), clo_none⟩) (fun h => by cases h) follows_ (fun _ _ => trivial)
end FN
set_option linter.unusedVariables false
namespace FN
open Go Go.Proofs
/-! loop.example/firingnets/laws.FnExactDeskOk -/
@[reducible] def w_FnExactDeskOk_sig : Sig := { ps := [some 4], pc := [.view .i64, .int .i64, .view .i64, .view .place], rs := [none], rc := [.bool] }
noncomputable def w_FnExactDeskOk_E : Env' := { fn := fun f => if f = 7 then some ⟨w_szDesk_sig, w_szDesk_f⟩ else if f = 8 then some ⟨s_DeskOk_sig, s_DeskOk_f⟩ else if f = 9 then some ⟨w_toDesk_sig, w_toDesk_f⟩ else if f = 10 then some ⟨i_DeskOk_sig, i_DeskOk_f⟩ else if f = 11 then some ⟨w_eqDesk_sig, w_eqDesk_f⟩ else none, ck := ckT, cuts := [], mine := fun i => false }
noncomputable def w_FnExactDeskOk_f (x : Ts w_FnExactDeskOk_sig.pc) : Option (Ts w_FnExactDeskOk_sig.rc) := runFn Try.prog (w_FnExactDeskOk_E) Try.f3 w_FnExactDeskOk_sig x
theorem w_FnExactDeskOk_f_eq (x0 : (List (Int))) (x1 : (Int)) (x2 : (List (Int))) (x3 : (List (List Int × Int × List Int))) : w_FnExactDeskOk_f (x0, x1, x2, x3) = (Option.bind (w_szDesk_f (x0, x1, x2, x3, 1048576)) fun r1 => (cond ((decide (r1 < 0))) (some true) (Option.bind (w_toDesk_f (x0, x1, x2, x3)) fun r2 => (Option.bind (s_DeskOk_f (r2.1, r2.2.1, r2.2.2.1, r2.2.2.2)) fun r3 => (Option.bind (w_toDesk_f (x0, x1, x2, x3)) fun r4 => (Option.bind (i_DeskOk_f (r4.1, r4.2.1, r4.2.2.1, r4.2.2.2)) fun r5 => (cond ((!(r5 == r3))) (some false) (Option.bind (w_toDesk_f (x0, x1, x2, x3)) fun r6 => (Option.bind (w_eqDesk_f (r4.1, r4.2.1, r4.2.2.1, r4.2.2.2, r6.1, r6.2.1, r6.2.2.1, r6.2.2.2)) fun r7 => (cond ((!r7)) (some false) (some true))))))))))) := by
  kernel_rfl
theorem w_FnExactDeskOk_ent : Entb Try.prog 3 := ⟨Try.f3, by kernel_rfl, by kernel_rfl, by kernel_rfl⟩
theorem w_FnExactDeskOk_ok : CtrOk Try.prog 3 ⟨w_FnExactDeskOk_sig, w_FnExactDeskOk_f⟩ :=
  ctr_of (fn := Try.f3) (by kernel_rfl) (by kernel_rfl) (fun x : Ts w_FnExactDeskOk_sig.pc => w_FnExactDeskOk_E) (fun x => ⟨(fn_cons ⟨w_szDesk_ok, w_szDesk_ent⟩ (fn_cons ⟨s_DeskOk_ok, s_DeskOk_ent⟩ (fn_cons ⟨w_toDesk_ok, w_toDesk_ent⟩ (fn_cons ⟨i_DeskOk_ok, i_DeskOk_ent⟩ (fn_cons ⟨w_eqDesk_ok, w_eqDesk_ent⟩ fn_none))))), clo_none⟩) (fun h => by cases h) follows_ (fun _ _ => trivial)
end FN
