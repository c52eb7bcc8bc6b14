/- Texts of the proof, joined: The functions, their equations and contracts. -/
import Derived.KernelRfl
import Derived.Test.YtmmngjppgkefhabDoorProg
import Derived.Test.YtmmngjppgkefhabDoorS0
set_option linter.unusedVariables false
set_option linter.unusedSimpArgs false
set_option linter.unusedSectionVars false
namespace FN
open Go Go.Proofs
def mkT (n : Nat) (l : List (Nat × PV)) : List PV := (List.range n).map fun i => (l.lookup i).getD .junk
def ckT (t : TypeId) : Option CK := if t = 3 then some .i64 else if t = 5 then some .u8 else if t = 9 then some .str else if t = 23 then some .deed else if t = 32 then some .place else if t = 39 then some .place else if t = 105 then some .deed else none
instance : Gl := ⟨fun w => ∃ m t fz, w.heap[2]? = some (.cells #[.int .i64 m] t fz), fun _ => True, fun {w w'} g hI hs hk hg => by
  obtain ⟨m, t, fz, h1⟩ := hI
  by_cases e : g = some 2
  · obtain ⟨u, p, t', _, h2⟩ := hg 2 e
    rw [h1] at h2
    injection h2 with h2
    injection h2 with h2
    have := congrArg Array.size h2
    simp at this
  · exact ⟨m, t, fz, (hk 2 (Array.getElem?_eq_some_iff.1 h1).1 e).trans h1⟩⟩
theorem gl_cell {w : World} (h : Gl.I w) : ∃ m, w.cell? ⟨2, 0, none⟩ = some (.int .i64 m) := by
  obtain ⟨m, t, fz, h1⟩ := (show ∃ m t fz, w.heap[2]? = some (.cells #[.int .i64 m] t fz) from h)
  exact ⟨m, by simp [World.cell?, h1]⟩
theorem follows_ : Tryd.prog.follows .mixedOrders = true := by kernel_rfl
theorem rd_head {x b : List Int} {l ps : List PV} (h : (PV.row false .u8 x :: l) = PV.row false .u8 b :: ps) : x = b := by
  injection h with h _
  injection h
theorem fn_none {P : Program} : ∀ (f : FuncId) (c : Ctr'), (none : Option Ctr') = some c → CtrOk P f c ∧ Entb P f := fun _ _ h => by cases h
theorem fn_cons {P : Program} {f0 : FuncId} {c0 : Ctr'} (h0 : CtrOk P f0 c0 ∧ Entb P f0) {g : FuncId → Option Ctr'} (hg : ∀ f c, g f = some c → CtrOk P f c ∧ Entb P f) : ∀ f c, (if f = f0 then some c0 else g f) = some c → CtrOk P f c ∧ Entb P f := by
  intro f c h
  split at h
  · rename_i e; injection h with h; subst e; subst h; exact h0
  · exact hg f c h
theorem lim_some {α : Type} {g : Nat → Option α} {r : α} (h : lim g = some r) : ∃ n, g n = some r := by
  unfold lim at h
  split at h
  · exact ⟨_, h⟩
  · cases h
theorem lim_of {α : Type} {g : Nat → Option α} {v : α} (h : ∃ n, g n = some v) (u : ∀ n r, g n = some r → r = v) : lim g = some v := by
  obtain ⟨n, hn⟩ := h
  have hx : ∃ n r, g n = some r := ⟨n, v, hn⟩
  obtain ⟨r, hr⟩ := hx.choose_spec
  have : lim g = g hx.choose := dif_pos hx
  rw [this, hr, u _ r hr]
theorem clo_none {P : Program} {E : Env'} (h : E.clo = fun _ _ _ _ _ => none := by rfl) : CloOk P E := by
  intro f ps hp h' pin base w ρ args hc
  rw [h] at hc
  cases hc
def str0 : ByteArray := ⟨#[106, 111, 105, 110, 32]⟩
def str1 : ByteArray := ⟨#[32]⟩
def str2 : ByteArray := ⟨#[108, 105, 103, 104, 116, 32]⟩
def str3 : ByteArray := ⟨#[107, 105, 110, 100, 115, 32]⟩
def str4 : ByteArray := ⟨#[115, 116, 101, 112]⟩
def str5 : ByteArray := ⟨#[98, 97, 99, 107]⟩
def str6 : ByteArray := ⟨#[48, 49, 50, 51, 52, 53, 54, 55, 56, 57, 97, 98, 99, 100, 101, 102, 103, 104, 105, 106, 107, 108, 109, 110, 111, 112, 113, 114, 115, 116, 117, 118, 119, 120, 121, 122]⟩
def str7 : ByteArray := ⟨#[48, 48, 48, 49, 48, 50, 48, 51, 48, 52, 48, 53, 48, 54, 48, 55, 48, 56, 48, 57, 49, 48, 49, 49, 49, 50, 49, 51, 49, 52, 49, 53, 49, 54, 49, 55, 49, 56, 49, 57, 50, 48, 50, 49, 50, 50, 50, 51, 50, 52, 50, 53, 50, 54, 50, 55, 50, 56, 50, 57, 51, 48, 51, 49, 51, 50, 51, 51, 51, 52, 51, 53, 51, 54, 51, 55, 51, 56, 51, 57, 52, 48, 52, 49, 52, 50, 52, 51, 52, 52, 52, 53, 52, 54, 52, 55, 52, 56, 52, 57, 53, 48, 53, 49, 53, 50, 53, 51, 53, 52, 53, 53, 53, 54, 53, 55, 53, 56, 53, 57, 54, 48, 54, 49, 54, 50, 54, 51, 54, 52, 54, 53, 54, 54, 54, 55, 54, 56, 54, 57, 55, 48, 55, 49, 55, 50, 55, 51, 55, 52, 55, 53, 55, 54, 55, 55, 55, 56, 55, 57, 56, 48, 56, 49, 56, 50, 56, 51, 56, 52, 56, 53, 56, 54, 56, 55, 56, 56, 56, 57, 57, 48, 57, 49, 57, 50, 57, 51, 57, 52, 57, 53, 57, 54, 57, 55, 57, 56, 57, 57]⟩
def str8 : ByteArray := ⟨#[0, 1, 2, 2, 3, 3, 3, 3, 4, 4, 4, 4, 4, 4, 4, 4, 5, 5, 5, 5, 5, 5, 5, 5, 5, 5, 5, 5, 5, 5, 5, 5, 6, 6, 6, 6, 6, 6, 6, 6, 6, 6, 6, 6, 6, 6, 6, 6, 6, 6, 6, 6, 6, 6, 6, 6, 6, 6, 6, 6, 6, 6, 6, 6, 7, 7, 7, 7, 7, 7, 7, 7, 7, 7, 7, 7, 7, 7, 7, 7, 7, 7, 7, 7, 7, 7, 7, 7, 7, 7, 7, 7, 7, 7, 7, 7, 7, 7, 7, 7, 7, 7, 7, 7, 7, 7, 7, 7, 7, 7, 7, 7, 7, 7, 7, 7, 7, 7, 7, 7, 7, 7, 7, 7, 7, 7, 7, 7, 8, 8, 8, 8, 8, 8, 8, 8, 8, 8, 8, 8, 8, 8, 8, 8, 8, 8, 8, 8, 8, 8, 8, 8, 8, 8, 8, 8, 8, 8, 8, 8, 8, 8, 8, 8, 8, 8, 8, 8, 8, 8, 8, 8, 8, 8, 8, 8, 8, 8, 8, 8, 8, 8, 8, 8, 8, 8, 8, 8, 8, 8, 8, 8, 8, 8, 8, 8, 8, 8, 8, 8, 8, 8, 8, 8, 8, 8, 8, 8, 8, 8, 8, 8, 8, 8, 8, 8, 8, 8, 8, 8, 8, 8, 8, 8, 8, 8, 8, 8, 8, 8, 8, 8, 8, 8, 8, 8, 8, 8, 8, 8, 8, 8, 8, 8, 8, 8, 8, 8, 8, 8, 8, 8, 8, 8, 8, 8]⟩
def str9 : ByteArray := ⟨#[115, 116, 114, 99, 111, 110, 118, 58, 32, 105, 108, 108, 101, 103, 97, 108, 32, 65, 112, 112, 101, 110, 100, 73, 110, 116, 47, 70, 111, 114, 109, 97, 116, 73, 110, 116, 32, 98, 97, 115, 101]⟩
def str10 : ByteArray := ⟨#[106, 111, 105, 110]⟩
def str11 : ByteArray := ⟨#[108, 105, 103, 104, 116]⟩
def str12 : ByteArray := ⟨#[107, 105, 110, 100, 115]⟩
def str13 : ByteArray := ⟨#[10]⟩
def str14 : ByteArray := ⟨#[44]⟩
def str15 : ByteArray := ⟨#[46]⟩
def str16 : ByteArray := ⟨#[48]⟩
def str17 : ByteArray := ⟨#[49]⟩
end FN
set_option linter.unusedVariables false
namespace FN
open Go Go.Proofs
/-! loop.example/firingnets/spec.l1In -/
@[reducible] def s_l1In_sig : Sig := { ps := [none, none, none], pc := [.int .i64, .int .i64, .int .i64], rs := [none], rc := [.bool] }
noncomputable def s_l1In_E : Env' := { fn := fun f => none, ck := ckT, cuts := [], mine := fun i => false }
noncomputable def s_l1In_f (x : Ts s_l1In_sig.pc) : Option (Ts s_l1In_sig.rc) := runFn Tryd.prog (s_l1In_E) Tryd.f69 s_l1In_sig x
theorem s_l1In_f_eq (x0 : (Int)) (x1 : (Int)) (x2 : (Int)) : s_l1In_f (x0, x1, x2) = (cond ((decide (x1 ≤ x0))) (some (decide (x0 ≤ x2))) (some false)) := by
  kernel_rfl
theorem s_l1In_ent : Entb Tryd.prog 69 := ⟨Tryd.f69, by kernel_rfl, by kernel_rfl, by kernel_rfl⟩
theorem s_l1In_ok : CtrOk Tryd.prog 69 ⟨s_l1In_sig, s_l1In_f⟩ :=
  ctr_of (fn := Tryd.f69) (by kernel_rfl) (by kernel_rfl) (fun x : Ts s_l1In_sig.pc => s_l1In_E) (fun x => ⟨fn_none, clo_none, wr_none⟩) (fun h => by cases h) follows_ (fun _ _ => trivial)
end FN
set_option linter.unusedVariables false
namespace FN
open Go Go.Proofs
/-! loop.example/firingnets/impl.NetOk -/
@[reducible] def i_NetOk_sig : Sig := { ps := [none], pc := [.view .i64], rs := [none], rc := [.bool] }
noncomputable def i_NetOk_E : Env' := { fn := fun f => none, ck := ckT, cuts := [(4, [0, 14, 15, 16]), (9, [0, 3, 4, 14, 15, 16, 38, 39])], mine := fun i => false }
noncomputable def i_NetOk_f (x : Ts i_NetOk_sig.pc) : Option (Ts i_NetOk_sig.rc) := runFn Tryd.prog (i_NetOk_E) Tryd.f71 i_NetOk_sig x
noncomputable def i_NetOk_l0 (y0 : List (Int)) (y1 : List (Int)) (y2 : Int) (y3 : Int) : Option ((Bool)) := from_ Tryd.prog (i_NetOk_E) Tryd.f71 i_NetOk_sig [1, 1, 0, 1, 0] ⟨mkT 56 [(0, .row false .i64 y0), (14, .row false .i64 y1), (15, .int .i64 y2), (16, .int .i64 y3)], []⟩
noncomputable def i_NetOk_l1 (y0 : List (Int)) (y1 : Int) (y2 : Int) (y3 : List (Int)) (y4 : Int) (y5 : Int) (y6 : Int) (y7 : Int) : Option ((Bool)) := from_ Tryd.prog (i_NetOk_E) Tryd.f71 i_NetOk_sig [1, 1, 0, 1, 0, 0, 1, 1, 0, 0, 1, 1, 1, 0] ⟨mkT 56 [(0, .row false .i64 y0), (3, .int .i64 y1), (4, .int .i64 y2), (14, .row false .i64 y3), (15, .int .i64 y4), (16, .int .i64 y5), (38, .int .i64 y6), (39, .int .i64 y7)], []⟩
theorem i_NetOk_f_eq (x0 : (List (Int))) : i_NetOk_f x0 = (cond ((decide ((List.length x0 : Int) < 1))) (some false) (cond ((decide (6 < (List.length x0 : Int)))) (some false) (i_NetOk_l0 x0 x0 (List.length x0 : Int) 0))) := by
  kernel_rfl
theorem i_NetOk_l0_eq (y0 : List (Int)) (y1 : List (Int)) (y2 : Int) (y3 : Int) : i_NetOk_l0 y0 y1 y2 y3 = (cond ((decide (y3 < y2))) (if (0 : Int) ≤ y3 ∧ y3 < (List.length y1 : Int) then (cond ((decide ((List.getD y1 (y3 : Int).toNat 0) < 0))) (some false) (if (List.length y0 : Int) < 0 then none else (cond ((decide ((IntKind.i64.wrap (1 * 2 ^ min ((List.length y0 : Int) : Int).toNat IntKind.i64.bits)) ≤ (List.getD y1 (y3 : Int).toNat 0)))) (some false) (if y3 < 0 then none else (cond (((Go.bits .and IntKind.i64 (Int.fdiv (List.getD y1 (y3 : Int).toNat 0) (2 ^ min (y3 : Int).toNat IntKind.i64.bits)) 1) == 1)) (some false) (i_NetOk_l1 y0 y3 (List.getD y1 (y3 : Int).toNat 0) y1 y2 y3 (List.length y0 : Int) 0)))))) else none) (some true)) := by
  refine (loopK_eq Tryd.prog (i_NetOk_E) (sub (Tryd.f71.body.getD .skip) [1, 1, 0, 1, 0, 0]) _ _).trans ?_
  kernel_rfl
theorem i_NetOk_l1_eq (y0 : List (Int)) (y1 : Int) (y2 : Int) (y3 : List (Int)) (y4 : Int) (y5 : Int) (y6 : Int) (y7 : Int) : i_NetOk_l1 y0 y1 y2 y3 y4 y5 y6 y7 = (cond ((decide (y7 < y6))) (if y7 < 0 then none else (if (0 : Int) ≤ y7 ∧ y7 < (List.length y0 : Int) then (if y1 < 0 then none else (cond (((Go.bits .and IntKind.i64 (Int.fdiv y2 (2 ^ min (y7 : Int).toNat IntKind.i64.bits)) 1) != (Go.bits .and IntKind.i64 (Int.fdiv (List.getD y0 (y7 : Int).toNat 0) (2 ^ min (y1 : Int).toNat IntKind.i64.bits)) 1))) (some false) (i_NetOk_l1 y0 y1 y2 y3 y4 y5 y6 (IntKind.i64.wrap (y7 + 1))))) else none)) (i_NetOk_l0 y0 y3 y4 (IntKind.i64.wrap (y5 + 1)))) := by
  refine (loopK_eq Tryd.prog (i_NetOk_E) (sub (Tryd.f71.body.getD .skip) [1, 1, 0, 1, 0, 0, 1, 1, 0, 0, 1, 1, 1, 0, 0]) _ _).trans ?_
  kernel_rfl
theorem i_NetOk_ent : Entb Tryd.prog 71 := ⟨Tryd.f71, by kernel_rfl, by kernel_rfl, by kernel_rfl⟩
theorem i_NetOk_ok : CtrOk Tryd.prog 71 ⟨i_NetOk_sig, i_NetOk_f⟩ :=
  ctr_of (fn := Tryd.f71) (by kernel_rfl) (by kernel_rfl) (fun x : Ts i_NetOk_sig.pc => i_NetOk_E) (fun x => ⟨fn_none, clo_none, wr_none⟩) (fun h => by cases h) follows_ (fun _ _ => trivial)
end FN
set_option linter.unusedVariables false
namespace FN
open Go Go.Proofs
/-! loop.example/firingnets/impl.StateOk -/
@[reducible] def i_StateOk_sig : Sig := { ps := [none, none], pc := [.int .i64, .view .i64], rs := [none], rc := [.bool] }
noncomputable def i_StateOk_E : Env' := { fn := fun f => none, ck := ckT, cuts := [(2, [0, 1, 7, 8, 9]), (7, [0, 1])], mine := fun i => false }
noncomputable def i_StateOk_f (x : Ts i_StateOk_sig.pc) : Option (Ts i_StateOk_sig.rc) := runFn Tryd.prog (i_StateOk_E) Tryd.f132 i_StateOk_sig x
noncomputable def i_StateOk_l0 (y0 : Int) (y1 : List (Int)) (y2 : List (Int)) (y3 : Int) (y4 : Int) : Option ((Bool)) := from_ Tryd.prog (i_StateOk_E) Tryd.f132 i_StateOk_sig [1, 0, 1, 0] ⟨mkT 37 [(0, .int .i64 y0), (1, .row false .i64 y1), (7, .row false .i64 y2), (8, .int .i64 y3), (9, .int .i64 y4)], []⟩
noncomputable def i_StateOk_j1 (y0 : Int) (y1 : List (Int)) : Option ((Bool)) := from_ Tryd.prog (i_StateOk_E) Tryd.f132 i_StateOk_sig [1, 1] ⟨mkT 37 [(0, .int .i64 y0), (1, .row false .i64 y1)], []⟩
theorem i_StateOk_f_eq (x0 : (Int)) (x1 : (List (Int))) : i_StateOk_f (x0, x1) = (i_StateOk_l0 x0 x1 x1 (List.length x1 : Int) 0) := by
  kernel_rfl
theorem i_StateOk_l0_eq (y0 : Int) (y1 : List (Int)) (y2 : List (Int)) (y3 : Int) (y4 : Int) : i_StateOk_l0 y0 y1 y2 y3 y4 = (cond ((decide (y4 < y3))) (if (0 : Int) ≤ y4 ∧ y4 < (List.length y2 : Int) then (cond ((decide ((List.getD y2 (y4 : Int).toNat 0) < 0))) (some false) (cond ((decide (y0 ≤ (List.getD y2 (y4 : Int).toNat 0)))) (some false) (i_StateOk_l0 y0 y1 y2 y3 (IntKind.i64.wrap (y4 + 1))))) else none) (i_StateOk_j1 y0 y1)) := by
  refine (loopK_eq Tryd.prog (i_StateOk_E) (sub (Tryd.f132.body.getD .skip) [1, 0, 1, 0, 0]) _ _).trans ?_
  kernel_rfl
theorem i_StateOk_j1_eq (y0 : Int) (y1 : List (Int)) : i_StateOk_j1 y0 y1 = (cond ((decide (3 ≤ y0))) (cond ((decide (y0 ≤ 5))) (cond ((decide (1 ≤ (List.length y1 : Int)))) (some (decide ((List.length y1 : Int) ≤ 6))) (some false)) (some false)) (some false)) := by
  kernel_rfl
theorem i_StateOk_ent : Entb Tryd.prog 132 := ⟨Tryd.f132, by kernel_rfl, by kernel_rfl, by kernel_rfl⟩
theorem i_StateOk_ok : CtrOk Tryd.prog 132 ⟨i_StateOk_sig, i_StateOk_f⟩ :=
  ctr_of (fn := Tryd.f132) (by kernel_rfl) (by kernel_rfl) (fun x : Ts i_StateOk_sig.pc => i_StateOk_E) (fun x => ⟨fn_none, clo_none, wr_none⟩) (fun h => by cases h) follows_ (fun _ _ => trivial)
end FN
set_option linter.unusedVariables false
namespace FN
open Go Go.Proofs
/-! loop.example/firingnets/impl.asked -/
@[reducible] def i_asked_sig : Sig := { ps := [none, none, none], pc := [.view .i64, .int .i64, .view .i64], rs := [none], rc := [.bool] }
noncomputable def i_asked_E : Env' := { fn := fun f => if f = 71 then some ⟨i_NetOk_sig, i_NetOk_f⟩ else if f = 132 then some ⟨i_StateOk_sig, i_StateOk_f⟩ else none, ck := ckT, cuts := [], mine := fun i => false }
noncomputable def i_asked_f (x : Ts i_asked_sig.pc) : Option (Ts i_asked_sig.rc) := runFn Tryd.prog (i_asked_E) Tryd.f102 i_asked_sig x
theorem i_asked_f_eq (x0 : (List (Int))) (x1 : (Int)) (x2 : (List (Int))) : i_asked_f (x0, x1, x2) = (Option.bind (i_NetOk_f x0) fun r1 => (cond (r1) (Option.bind (i_StateOk_f (x1, x2)) fun r2 => (cond (r2) (some ((List.length x0 : Int) == (List.length x2 : Int))) (some false))) (some false))) := by
  kernel_rfl
theorem i_asked_ent : Entb Tryd.prog 102 := ⟨Tryd.f102, by kernel_rfl, by kernel_rfl, by kernel_rfl⟩
theorem i_asked_ok : CtrOk Tryd.prog 102 ⟨i_asked_sig, i_asked_f⟩ :=
  ctr_of (fn := Tryd.f102) (by kernel_rfl) (by kernel_rfl) (fun x : Ts i_asked_sig.pc => i_asked_E) (fun x => ⟨(fn_cons ⟨i_NetOk_ok, i_NetOk_ent⟩ (fn_cons ⟨i_StateOk_ok, i_StateOk_ent⟩ fn_none)), clo_none, wr_none⟩) (fun h => by cases h) follows_ (fun _ _ => trivial)
end FN
set_option linter.unusedVariables false
namespace FN
open Go Go.Proofs
/-! loop.example/firingnets/impl.PlaceOk -/
@[reducible] def i_PlaceOk_sig : Sig := { ps := [some 3], pc := [.view .i64, .int .i64, .view .i64], rs := [none], rc := [.bool] }
noncomputable def i_PlaceOk_E : Env' := { fn := fun f => if f = 102 then some ⟨i_asked_sig, i_asked_f⟩ else none, ck := ckT, cuts := [], mine := fun i => false }
noncomputable def i_PlaceOk_f (x : Ts i_PlaceOk_sig.pc) : Option (Ts i_PlaceOk_sig.rc) := runFn Tryd.prog (i_PlaceOk_E) Tryd.f72 i_PlaceOk_sig x
theorem i_PlaceOk_f_eq (x0 : (List (Int))) (x1 : (Int)) (x2 : (List (Int))) : i_PlaceOk_f (x0, x1, x2) = (Option.bind (i_asked_f (x0, x1, x2)) fun r1 => (some r1)) := by
  kernel_rfl
theorem i_PlaceOk_ent : Entb Tryd.prog 72 := ⟨Tryd.f72, by kernel_rfl, by kernel_rfl, by kernel_rfl⟩
theorem i_PlaceOk_ok : CtrOk Tryd.prog 72 ⟨i_PlaceOk_sig, i_PlaceOk_f⟩ :=
  ctr_of (fn := Tryd.f72) (by kernel_rfl) (by kernel_rfl) (fun x : Ts i_PlaceOk_sig.pc => i_PlaceOk_E) (fun x => ⟨(fn_cons ⟨i_asked_ok, i_asked_ent⟩ fn_none), clo_none, wr_none⟩) (fun h => by cases h) follows_ (fun _ _ => trivial)
end FN
set_option linter.unusedVariables false
namespace FN
open Go Go.Proofs
/-! loop.example/firingnets/spec.NetOk -/
@[reducible] def s_NetOk_sig : Sig := { ps := [none], pc := [.view .i64], rs := [none], rc := [.bool] }
noncomputable def s_NetOk_E : Env' := { fn := fun f => if f = 69 then some ⟨s_l1In_sig, s_l1In_f⟩ else none, ck := ckT, cuts := [(4, [0, 3]), (8, [0]), (9, [0, 4]), (12, [0, 4, 5])], mine := fun i => false }
noncomputable def s_NetOk_f (x : Ts s_NetOk_sig.pc) : Option (Ts s_NetOk_sig.rc) := runFn Tryd.prog (s_NetOk_E) Tryd.f148 s_NetOk_sig x
noncomputable def s_NetOk_l0 (y0 : List (Int)) (y1 : Int) : Option ((Bool)) := from_ Tryd.prog (s_NetOk_E) Tryd.f148 s_NetOk_sig [1, 1, 0, 1, 0] ⟨mkT 68 [(0, .row false .i64 y0), (3, .int .i64 y1)], []⟩
noncomputable def s_NetOk_j1 (y0 : List (Int)) : Option ((Bool)) := from_ Tryd.prog (s_NetOk_E) Tryd.f148 s_NetOk_sig [1, 1, 1] ⟨mkT 68 [(0, .row false .i64 y0)], []⟩
noncomputable def s_NetOk_l2 (y0 : List (Int)) (y1 : Int) : Option ((Bool)) := from_ Tryd.prog (s_NetOk_E) Tryd.f148 s_NetOk_sig [1, 1, 1, 0, 1, 0] ⟨mkT 68 [(0, .row false .i64 y0), (4, .int .i64 y1)], []⟩
noncomputable def s_NetOk_l3 (y0 : List (Int)) (y1 : Int) (y2 : Int) : Option ((Bool)) := from_ Tryd.prog (s_NetOk_E) Tryd.f148 s_NetOk_sig [1, 1, 1, 0, 1, 0, 0, 1, 0, 0, 1, 0] ⟨mkT 68 [(0, .row false .i64 y0), (4, .int .i64 y1), (5, .int .i64 y2)], []⟩
theorem s_NetOk_f_eq (x0 : (List (Int))) : s_NetOk_f x0 = (Option.bind (s_l1In_f ((List.length x0 : Int), 1, 6)) fun r1 => (cond ((!r1)) (some false) (s_NetOk_l0 x0 0))) := by
  kernel_rfl
theorem s_NetOk_l0_eq (y0 : List (Int)) (y1 : Int) : s_NetOk_l0 y0 y1 = (cond ((decide (y1 < (List.length y0 : Int)))) (if (0 : Int) ≤ y1 ∧ y1 < (List.length y0 : Int) then (if (List.length y0 : Int) < 0 then none else (Option.bind (s_l1In_f ((List.getD y0 (y1 : Int).toNat 0), 0, (IntKind.i64.wrap ((IntKind.i64.wrap (1 * 2 ^ min ((List.length y0 : Int) : Int).toNat IntKind.i64.bits)) - 1)))) fun r1 => (cond ((!r1)) (some false) (s_NetOk_l0 y0 (IntKind.i64.wrap (y1 + 1)))))) else none) (s_NetOk_j1 y0)) := by
  refine (loopK_eq Tryd.prog (s_NetOk_E) (sub (Tryd.f148.body.getD .skip) [1, 1, 0, 1, 0, 0]) _ _).trans ?_
  kernel_rfl
theorem s_NetOk_j1_eq (y0 : List (Int)) : s_NetOk_j1 y0 = (s_NetOk_l2 y0 0) := by
  kernel_rfl
theorem s_NetOk_l2_eq (y0 : List (Int)) (y1 : Int) : s_NetOk_l2 y0 y1 = (cond ((decide (y1 < (List.length y0 : Int)))) (s_NetOk_l3 y0 y1 0) (some true)) := by
  refine (loopK_eq Tryd.prog (s_NetOk_E) (sub (Tryd.f148.body.getD .skip) [1, 1, 1, 0, 1, 0, 0]) _ _).trans ?_
  kernel_rfl
theorem s_NetOk_l3_eq (y0 : List (Int)) (y1 : Int) (y2 : Int) : s_NetOk_l3 y0 y1 y2 = (cond ((decide (y2 < (List.length y0 : Int)))) (if (0 : Int) ≤ y1 ∧ y1 < (List.length y0 : Int) then (if y2 < 0 then none else (if (0 : Int) ≤ y2 ∧ y2 < (List.length y0 : Int) then (if y1 < 0 then none else (cond (((Int.tmod (Int.fdiv (List.getD y0 (y1 : Int).toNat 0) (2 ^ min (y2 : Int).toNat IntKind.i64.bits)) 2) != (Int.tmod (Int.fdiv (List.getD y0 (y2 : Int).toNat 0) (2 ^ min (y1 : Int).toNat IntKind.i64.bits)) 2))) (some false) (cond ((y2 == y1)) (if (0 : Int) ≤ y1 ∧ y1 < (List.length y0 : Int) then (if y2 < 0 then none else (cond (((Int.tmod (Int.fdiv (List.getD y0 (y1 : Int).toNat 0) (2 ^ min (y2 : Int).toNat IntKind.i64.bits)) 2) == 1)) (some false) (s_NetOk_l3 y0 y1 (IntKind.i64.wrap (y2 + 1))))) else none) (s_NetOk_l3 y0 y1 (IntKind.i64.wrap (y2 + 1)))))) else none)) else none) (s_NetOk_l2 y0 (IntKind.i64.wrap (y1 + 1)))) := by
  refine (loopK_eq Tryd.prog (s_NetOk_E) (sub (Tryd.f148.body.getD .skip) [1, 1, 1, 0, 1, 0, 0, 1, 0, 0, 1, 0, 0]) _ _).trans ?_
  kernel_rfl
theorem s_NetOk_ent : Entb Tryd.prog 148 := ⟨Tryd.f148, by kernel_rfl, by kernel_rfl, by kernel_rfl⟩
theorem s_NetOk_ok : CtrOk Tryd.prog 148 ⟨s_NetOk_sig, s_NetOk_f⟩ :=
  ctr_of (fn := Tryd.f148) (by kernel_rfl) (by kernel_rfl) (fun x : Ts s_NetOk_sig.pc => s_NetOk_E) (fun x => ⟨(fn_cons ⟨s_l1In_ok, s_l1In_ent⟩ fn_none), clo_none, wr_none⟩) (fun h => by cases h) follows_ (fun _ _ => trivial)
end FN
set_option linter.unusedVariables false
namespace FN
open Go Go.Proofs
/-! loop.example/firingnets/spec.StateOk -/
@[reducible] def s_StateOk_sig : Sig := { ps := [none, none], pc := [.int .i64, .view .i64], rs := [none], rc := [.bool] }
noncomputable def s_StateOk_E : Env' := { fn := fun f => if f = 69 then some ⟨s_l1In_sig, s_l1In_f⟩ else none, ck := ckT, cuts := [(2, [0, 1, 5]), (6, [0, 1])], mine := fun i => false }
noncomputable def s_StateOk_f (x : Ts s_StateOk_sig.pc) : Option (Ts s_StateOk_sig.rc) := runFn Tryd.prog (s_StateOk_E) Tryd.f149 s_StateOk_sig x
noncomputable def s_StateOk_l0 (y0 : Int) (y1 : List (Int)) (y2 : Int) : Option ((Bool)) := from_ Tryd.prog (s_StateOk_E) Tryd.f149 s_StateOk_sig [1, 0, 1, 0] ⟨mkT 32 [(0, .int .i64 y0), (1, .row false .i64 y1), (5, .int .i64 y2)], []⟩
noncomputable def s_StateOk_j1 (y0 : Int) (y1 : List (Int)) : Option ((Bool)) := from_ Tryd.prog (s_StateOk_E) Tryd.f149 s_StateOk_sig [1, 1] ⟨mkT 32 [(0, .int .i64 y0), (1, .row false .i64 y1)], []⟩
theorem s_StateOk_f_eq (x0 : (Int)) (x1 : (List (Int))) : s_StateOk_f (x0, x1) = (s_StateOk_l0 x0 x1 0) := by
  kernel_rfl
theorem s_StateOk_l0_eq (y0 : Int) (y1 : List (Int)) (y2 : Int) : s_StateOk_l0 y0 y1 y2 = (cond ((decide (y2 < (List.length y1 : Int)))) (if (0 : Int) ≤ y2 ∧ y2 < (List.length y1 : Int) then (cond ((decide ((List.getD y1 (y2 : Int).toNat 0) < 0))) (some false) (if (0 : Int) ≤ y2 ∧ y2 < (List.length y1 : Int) then (cond ((decide (y0 ≤ (List.getD y1 (y2 : Int).toNat 0)))) (some false) (s_StateOk_l0 y0 y1 (IntKind.i64.wrap (y2 + 1)))) else none)) else none) (s_StateOk_j1 y0 y1)) := by
  refine (loopK_eq Tryd.prog (s_StateOk_E) (sub (Tryd.f149.body.getD .skip) [1, 0, 1, 0, 0]) _ _).trans ?_
  kernel_rfl
theorem s_StateOk_j1_eq (y0 : Int) (y1 : List (Int)) : s_StateOk_j1 y0 y1 = (Option.bind (s_l1In_f (y0, 3, 5)) fun r1 => (cond (r1) (Option.bind (s_l1In_f ((List.length y1 : Int), 1, 6)) fun r2 => (some r2)) (some false))) := by
  kernel_rfl
theorem s_StateOk_ent : Entb Tryd.prog 149 := ⟨Tryd.f149, by kernel_rfl, by kernel_rfl, by kernel_rfl⟩
theorem s_StateOk_ok : CtrOk Tryd.prog 149 ⟨s_StateOk_sig, s_StateOk_f⟩ :=
  ctr_of (fn := Tryd.f149) (by kernel_rfl) (by kernel_rfl) (fun x : Ts s_StateOk_sig.pc => s_StateOk_E) (fun x => ⟨(fn_cons ⟨s_l1In_ok, s_l1In_ent⟩ fn_none), clo_none, wr_none⟩) (fun h => by cases h) follows_ (fun _ _ => trivial)
end FN
set_option linter.unusedVariables false
namespace FN
open Go Go.Proofs
/-! loop.example/firingnets/spec.l3Ok -/
@[reducible] def s_l3Ok_sig : Sig := { ps := [none, none, none], pc := [.view .i64, .int .i64, .view .i64], rs := [none], rc := [.bool] }
noncomputable def s_l3Ok_E : Env' := { fn := fun f => if f = 148 then some ⟨s_NetOk_sig, s_NetOk_f⟩ else if f = 149 then some ⟨s_StateOk_sig, s_StateOk_f⟩ else none, ck := ckT, cuts := [], mine := fun i => false }
noncomputable def s_l3Ok_f (x : Ts s_l3Ok_sig.pc) : Option (Ts s_l3Ok_sig.rc) := runFn Tryd.prog (s_l3Ok_E) Tryd.f129 s_l3Ok_sig x
theorem s_l3Ok_f_eq (x0 : (List (Int))) (x1 : (Int)) (x2 : (List (Int))) : s_l3Ok_f (x0, x1, x2) = (Option.bind (s_NetOk_f x0) fun r1 => (cond (r1) (Option.bind (s_StateOk_f (x1, x2)) fun r2 => (cond (r2) (some ((List.length x2 : Int) == (List.length x0 : Int))) (some false))) (some false))) := by
  kernel_rfl
theorem s_l3Ok_ent : Entb Tryd.prog 129 := ⟨Tryd.f129, by kernel_rfl, by kernel_rfl, by kernel_rfl⟩
theorem s_l3Ok_ok : CtrOk Tryd.prog 129 ⟨s_l3Ok_sig, s_l3Ok_f⟩ :=
  ctr_of (fn := Tryd.f129) (by kernel_rfl) (by kernel_rfl) (fun x : Ts s_l3Ok_sig.pc => s_l3Ok_E) (fun x => ⟨(fn_cons ⟨s_NetOk_ok, s_NetOk_ent⟩ (fn_cons ⟨s_StateOk_ok, s_StateOk_ent⟩ fn_none)), clo_none, wr_none⟩) (fun h => by cases h) follows_ (fun _ _ => trivial)
end FN
set_option linter.unusedVariables false
namespace FN
open Go Go.Proofs
/-! loop.example/firingnets/spec.PlaceOk -/
@[reducible] def s_PlaceOk_sig : Sig := { ps := [some 3], pc := [.view .i64, .int .i64, .view .i64], rs := [none], rc := [.bool] }
noncomputable def s_PlaceOk_E : Env' := { fn := fun f => if f = 129 then some ⟨s_l3Ok_sig, s_l3Ok_f⟩ else none, ck := ckT, cuts := [], mine := fun i => false }
noncomputable def s_PlaceOk_f (x : Ts s_PlaceOk_sig.pc) : Option (Ts s_PlaceOk_sig.rc) := runFn Tryd.prog (s_PlaceOk_E) Tryd.f99 s_PlaceOk_sig x
theorem s_PlaceOk_f_eq (x0 : (List (Int))) (x1 : (Int)) (x2 : (List (Int))) : s_PlaceOk_f (x0, x1, x2) = (Option.bind (s_l3Ok_f (x0, x1, x2)) fun r1 => (some r1)) := by
  kernel_rfl
theorem s_PlaceOk_ent : Entb Tryd.prog 99 := ⟨Tryd.f99, by kernel_rfl, by kernel_rfl, by kernel_rfl⟩
theorem s_PlaceOk_ok : CtrOk Tryd.prog 99 ⟨s_PlaceOk_sig, s_PlaceOk_f⟩ :=
  ctr_of (fn := Tryd.f99) (by kernel_rfl) (by kernel_rfl) (fun x : Ts s_PlaceOk_sig.pc => s_PlaceOk_E) (fun x => ⟨(fn_cons ⟨s_l3Ok_ok, s_l3Ok_ent⟩ fn_none), clo_none, wr_none⟩) (fun h => by cases h) follows_ (fun _ _ => trivial)
end FN
/-! strconv.Itoa, at 0 .. 99: the shelf's contract, as one of ours. -/
namespace FN
open Go Go.Proofs
theorem flatV_one {l fl : List Value} (h : flatV [none] l = some fl) : ∃ p, l = [p] ∧ fl = [p] := by
  cases l with
  | nil => simp [flatV] at h
  | cons p ps =>
    cases ps with
    | nil => exact ⟨p, rfl, by simpa [flatV] using h.symm⟩
    | cons q ps => simp [flatV] at h
@[reducible] def x_strconv_Itoa_sig : Sig := { ps := [none], pc := [.int .i64], rs := [none], rc := [.str] }
def itoaS (n : Int) : ByteArray := ⟨(Lib.decDigits n.toNat).toArray⟩
def x_strconv_Itoa_f (n : Ts x_strconv_Itoa_sig.pc) : Option (Ts x_strconv_Itoa_sig.rc) := if (0 : Int) ≤ n ∧ (n : Int) < 100 then some (itoaS n) else none
theorem x_strconv_Itoa_f_eq (n : Int) : x_strconv_Itoa_f n = if (0 : Int) ≤ n ∧ (n : Int) < 100 then some (itoaS n) else none := rfl
theorem x_strconv_Itoa_ent : Entb Tryd.prog 73 := ⟨Tryd.f73, by kernel_rfl, by kernel_rfl, by kernel_rfl⟩
theorem x_strconv_Itoa_ok : CtrOk Tryd.prog 73 ⟨x_strconv_Itoa_sig, x_strconv_Itoa_f⟩ := by
  intro w okc args bx x r hI hA hr
  obtain ⟨rfl, fl, h1, h2⟩ := (show bx = none ∧ ∃ fl, flatV [none] args.toList = some fl ∧ F2 (V1 (av w okc)) [PV.int .i64 x] fl from hA)
  obtain ⟨p, h3, rfl⟩ := flatV_one h1
  cases h2 with
  | cons hp _ =>
    have hp : p = .int .i64 x := hp
    subst hp
    have hx : (if (0 : Int) ≤ x ∧ (x : Int) < 100 then some (itoaS x) else none) = some r := hr
    split at hx
    · rename_i hc
      injection hx with hx
      subst hx
      have hargs : args = #[.int .i64 ((x : Int).toNat : Int)] := by
        apply Array.ext'
        rw [h3, Int.toNat_of_nonneg hc.1]
      rw [hargs]
      refine (Tryd.strconv_Itoa_small (x : Int).toNat (by have h5 : (0 : Int) ≤ x := hc.1; have h6 : (x : Int) < 100 := hc.2; exact (Int.toNat_lt h5).2 h6) w).mono ?_
      rintro e w' ⟨rfl, rfl⟩
      exact ⟨_, rfl, ⟨[.string (itoaS x)], fun _ => False, ⟨_, rfl, rfl⟩, fun i j u u' g hu => by simp [rowsV] at hu, fun k h => h, [.string (itoaS x)], rfl, rfl⟩, Kp.refl _ _ _⟩
    · cases hx
end FN
set_option linter.unusedVariables false
namespace FN
open Go Go.Proofs
/-! loop.example/firingnets/spec.l1Number -/
@[reducible] def s_l1Number_sig : Sig := { ps := [none], pc := [.int .i64], rs := [none], rc := [.str] }
noncomputable def s_l1Number_E (g : Ts s_l1Number_sig.pc → Option (Ts s_l1Number_sig.rc)) : Env' := { fn := fun f => if f = 92 then some ⟨s_l1Number_sig, g⟩ else none, ck := ckT, cuts := [], mine := fun i => false }
noncomputable def s_l1Number_g (n : Nat) : Ts s_l1Number_sig.pc → Option (Ts s_l1Number_sig.rc) := Nat.rec (fun _ => none) (fun _ ih x => runFn Tryd.prog (s_l1Number_E ih) Tryd.f92 s_l1Number_sig x) n
theorem s_l1Number_g_eq (n : Nat) (x0 : (Int)) : s_l1Number_g (n + 1) x0 = (cond ((decide (x0 < 10))) (some (strOfNums ([(IntKind.u8.wrap (IntKind.i64.wrap (48 + (if 0 > x0 then 0 else x0))))] : List (Int)))) (Option.bind (s_l1Number_g n (IntKind.i64.wrap (Int.tdiv x0 10))) fun r1 => (if ByteArray.size r1 + ByteArray.size (strOfNums ([(IntKind.u8.wrap (IntKind.i64.wrap (48 + (Int.tmod x0 10))))] : List (Int))) ≤ 9223372036854775807 then (some (r1 ++ (strOfNums ([(IntKind.u8.wrap (IntKind.i64.wrap (48 + (Int.tmod x0 10))))] : List (Int))))) else none))) := by
  refine Eq.trans (b := (cond ((decide (x0 < 10))) (some (strOfNums ([(IntKind.u8.wrap (IntKind.i64.wrap (48 + (if 0 > x0 then 0 else x0))))] : List (Int)))) (same [(Option.bind (s_l1Number_g n (IntKind.i64.wrap (Int.tdiv x0 10))) fun r1 => (if ByteArray.size r1 + ByteArray.size (strOfNums ([(IntKind.u8.wrap (IntKind.i64.wrap (48 + (Int.tmod x0 10))))] : List (Int))) ≤ 9223372036854775807 then (some (r1 ++ (strOfNums ([(IntKind.u8.wrap (IntKind.i64.wrap (48 + (Int.tmod x0 10))))] : List (Int))))) else none)), (same [(Option.bind (s_l1Number_g n (IntKind.i64.wrap (Int.tdiv x0 10))) fun r1 => (if ByteArray.size r1 + ByteArray.size (strOfNums ([(IntKind.u8.wrap (IntKind.i64.wrap (48 + (Int.tmod x0 10))))] : List (Int))) ≤ 9223372036854775807 then (some (r1 ++ (strOfNums ([(IntKind.u8.wrap (IntKind.i64.wrap (48 + (Int.tmod x0 10))))] : List (Int))))) else none)), (Option.bind (s_l1Number_g n (IntKind.i64.wrap (Int.tdiv x0 10))) fun r1 => (if ByteArray.size r1 + ByteArray.size (strOfNums ([(IntKind.u8.wrap (IntKind.i64.wrap (48 + (Int.tmod x0 10))))] : List (Int))) ≤ 9223372036854775807 then (some (r1 ++ (strOfNums ([(IntKind.u8.wrap (IntKind.i64.wrap (48 + (Int.tmod x0 10))))] : List (Int))))) else none))])]))) (by kernel_rfl) ?_
  simp only [same2, same3, same4, same5, same6, obind_ite]
noncomputable def s_l1Number_f (x : Ts s_l1Number_sig.pc) : Option (Ts s_l1Number_sig.rc) := lim fun n => s_l1Number_g n x
theorem s_l1Number_ent : Entb Tryd.prog 92 := ⟨Tryd.f92, by kernel_rfl, by kernel_rfl, by kernel_rfl⟩
theorem s_l1Number_gok : ∀ n, CtrOk Tryd.prog 92 ⟨s_l1Number_sig, s_l1Number_g n⟩
  | 0 => fun _ _ _ _ _ _ _ _ h => by cases h
  | n + 1 => ctr_of (fn := Tryd.f92) (by kernel_rfl) (by kernel_rfl) (fun _ : Ts s_l1Number_sig.pc => s_l1Number_E (s_l1Number_g n)) (fun _ => ⟨(fn_cons ⟨s_l1Number_gok n, s_l1Number_ent⟩ fn_none), clo_none, wr_none⟩) (fun h => by cases h) follows_ (fun _ _ => trivial)
theorem s_l1Number_ok : CtrOk Tryd.prog 92 ⟨s_l1Number_sig, s_l1Number_f⟩ := fun w okc args bx x r hI hA hr => by
  obtain ⟨n, hn⟩ := lim_some (g := fun n => s_l1Number_g n x) hr
  exact s_l1Number_gok n w okc args bx x r hI hA hn
end FN
/-! strings.Join: the shelf's contract, as one of ours. -/
namespace FN
open Go Go.Proofs Go.RowKit
theorem flatV_two {l fl : List Value} (h : flatV [none, none] l = some fl) : ∃ p q, l = [p, q] ∧ fl = [p, q] := by
  cases l with
  | nil => simp [flatV] at h
  | cons p ps =>
    simp only [flatV] at h
    obtain ⟨fl', h1, h2⟩ := Option.map_eq_some_iff.1 h
    obtain ⟨q, rfl, rfl⟩ := flatV_one h1
    exact ⟨p, q, rfl, h2.symm⟩
@[reducible] def x_strings_Join_sig : Sig := { ps := [none, none], pc := [.view .str, .str], rs := [none], rc := [.str] }
def joinS (xs : List ByteArray) (sep : ByteArray) : ByteArray := ⟨(Lib.join (xs.map (·.data.toList)) sep.data.toList).toArray⟩
def x_strings_Join_f (x : Ts x_strings_Join_sig.pc) : Option (Ts x_strings_Join_sig.rc) := if x.1.length ≤ 140737488355328 ∧ (joinS x.1 x.2).size ≤ 140737488355328 then some (joinS x.1 x.2) else none
theorem x_strings_Join_f_eq (xs : List ByteArray) (sep : ByteArray) : x_strings_Join_f (xs, sep) = if xs.length ≤ 140737488355328 ∧ (joinS xs sep).size ≤ 140737488355328 then some (joinS xs sep) else none := rfl
theorem x_strings_Join_ent : Entb Tryd.prog 74 := ⟨Tryd.f74, by kernel_rfl, by kernel_rfl, by kernel_rfl⟩
theorem kp_below {pin : Pn} {w w' : World} (h : Below w.heap.size w w') : Kp pin w.heap.size w w' := ⟨h.os, h.tape, h.output, h.size, fun k hk _ => h.block k hk⟩
theorem x_strings_Join_ok : CtrOk Tryd.prog 74 ⟨x_strings_Join_sig, x_strings_Join_f⟩ := by
  intro w okc args bx x r hI hA hr
  obtain ⟨rfl, fl, h1, h2⟩ := (show bx = none ∧ ∃ fl, flatV [none, none] args.toList = some fl ∧ F2 (V1 (av w okc)) [PV.row false .str x.1, PV.str x.2] fl from hA)
  obtain ⟨p, q, h3, rfl⟩ := flatV_two h1
  have hx : (if x.1.length ≤ 140737488355328 ∧ (joinS x.1 x.2).size ≤ 140737488355328 then some (joinS x.1 x.2) else none) = some r := hr
  split at hx
  · rename_i hc
    injection hx with hx
    subst hx
    cases h2 with
    | cons hp h2 => cases h2 with
      | cons hq _ =>
        have hq : q = .string x.2 := hq
        subst hq
        obtain ⟨A, cp, rfl, hle, hmx, hne⟩ := (show SlR w ((av w okc).okf false) .str x.1 p from hp)
        have hargs : args = #[.slice A x.1.length cp, .string x.2] := by apply Array.ext'; rw [h3]
        have fin : ∀ w', Below w.heap.size w w' → ∃ v, (Ending.returned (.string (joinS x.1 x.2)) : Ending) = .returned v ∧ RetR x_strings_Join_sig w w' okc none (joinS x.1 x.2) v ∧ Kp ⟨fun k => ∃ b, (none : Option (Nat × List Int)) = some (k, b), fun _ => True⟩ w.heap.size w w' := fun w' hb =>
          ⟨_, rfl, ⟨[.string (joinS x.1 x.2)], fun _ => False, ⟨_, rfl, rfl⟩, fun i j u u' g hu => by simp [rowsV] at hu, fun k h => h, [.string (joinS x.1 x.2)], rfl, rfl⟩, kp_below hb⟩
        by_cases h0 : x.1 = []
        · have hz : x.1.length = 0 := by rw [h0]; rfl
          have hj : joinS x.1 x.2 = ⟨#[]⟩ := by rw [h0]; rfl
          rw [hargs, hz]
          refine (Tryd.strings_Join_none A cp x.2 w).mono ?_
          rintro e w' ⟨rfl, rfl⟩
          have := fin w' (Below.refl _ _)
          rw [hj] at this ⊢
          exact this
        · obtain ⟨ad, rfl, _, hlt, hcell⟩ := hne h0
          have hs : ad.spot = none := by
            have hpos : 0 < x.1.length := List.length_pos_iff.2 h0
            obtain ⟨cs, e1, e2⟩ := hcell 0 _ (List.getElem?_eq_getElem hpos)
            have e1 : cs = [.string (x.1[0])] := e1
            have := e2 0 (.string (x.1[0])) (by rw [e1]; rfl)
            have h5 : w.cell? ad = some (.string (x.1[0])) := this
            unfold World.cell? at h5
            split at h5
            · split at h5
              · cases h5
              · rename_i hh; simpa using hh
            · cases h5
          obtain ⟨bk, o, sp⟩ := ad
          simp only at hs
          subst hs
          rw [hargs]
          refine (Tryd.strings_Join bk o cp x.1 x.2 w (fun j y hy => ?_) hlt hc.1 hle (by simpa [joinS, ByteArray.size] using hc.2)).mono ?_
          · obtain ⟨cs, e1, e2⟩ := hcell j y hy
            have e1 : cs = [.string y] := e1
            have := e2 0 (.string y) (by rw [e1]; rfl)
            have h6 : w.cell? ((⟨bk, o, none⟩ : Addr).add (j * 1 + 0)) = some (.string y) := this
            rw [Nat.mul_one, Nat.add_zero, show (⟨bk, o, none⟩ : Addr).add j = ⟨bk, o + j, none⟩ by unfold Addr.add; split <;> simp_all] at h6
            exact h6
          · rintro e w' ⟨rfl, hb⟩
            exact fin w' hb
  · cases hx
end FN
set_option linter.unusedVariables false
namespace FN
open Go Go.Proofs
/-! loop.example/firingnets/spec.PlaceText -/
@[reducible] def s_PlaceText_sig : Sig := { ps := [some 3], pc := [.view .i64, .int .i64, .view .i64], rs := [none], rc := [.str] }
noncomputable def s_PlaceText_E : Env' := { fn := fun f => if f = 92 then some ⟨s_l1Number_sig, s_l1Number_f⟩ else if f = 99 then some ⟨s_PlaceOk_sig, s_PlaceOk_f⟩ else none, ck := ckT, cuts := [(6, [1, 3, 4, 5]), (10, [1, 3, 4, 5, 6]), (15, [1, 3, 4, 5, 6]), (16, [1, 3, 4]), (18, [1, 3, 4])], mine := fun i => false }
noncomputable def s_PlaceText_f (x : Ts s_PlaceText_sig.pc) : Option (Ts s_PlaceText_sig.rc) := runFn Tryd.prog (s_PlaceText_E) Tryd.f65 s_PlaceText_sig x
noncomputable def s_PlaceText_l0 (y0 : ByteArray) (y1 : ByteArray) (y2 : Int) (y3 : List (Int)) (y4 : Int) (y5 : List (Int)) : Option ((ByteArray)) := from_ Tryd.prog (s_PlaceText_E) Tryd.f65 s_PlaceText_sig [1, 1, 1, 1, 0, 1, 0] ⟨mkT 71 [(1, .ptr 0 0), (3, .str y0), (4, .str y1), (5, .int .i64 y2)], [some (.box 32 [.row false .i64 y3, .int .i64 y4, .row false .i64 y5])]⟩
noncomputable def s_PlaceText_l1 (y0 : ByteArray) (y1 : ByteArray) (y2 : Int) (y3 : Int) (y4 : List (Int)) (y5 : Int) (y6 : List (Int)) : Option ((ByteArray)) := from_ Tryd.prog (s_PlaceText_E) Tryd.f65 s_PlaceText_sig [1, 1, 1, 1, 0, 1, 0, 0, 1, 0, 0, 1, 1, 0] ⟨mkT 71 [(1, .ptr 0 0), (3, .str y0), (4, .str y1), (5, .int .i64 y2), (6, .int .i64 y3)], [some (.box 32 [.row false .i64 y4, .int .i64 y5, .row false .i64 y6])]⟩
noncomputable def s_PlaceText_j2 (y0 : ByteArray) (y1 : ByteArray) (y2 : List (Int)) (y3 : Int) (y4 : List (Int)) : Option ((ByteArray)) := from_ Tryd.prog (s_PlaceText_E) Tryd.f65 s_PlaceText_sig [1, 1, 1, 1, 1] ⟨mkT 71 [(1, .ptr 0 0), (3, .str y0), (4, .str y1)], [some (.box 32 [.row false .i64 y2, .int .i64 y3, .row false .i64 y4])]⟩
noncomputable def s_PlaceText_j3 (y0 : ByteArray) (y1 : ByteArray) (y2 : Int) (y3 : Int) (y4 : List (Int)) (y5 : Int) (y6 : List (Int)) : Option ((ByteArray)) := from_ Tryd.prog (s_PlaceText_E) Tryd.f65 s_PlaceText_sig [1, 1, 1, 1, 0, 1, 0, 0, 1, 0, 0, 1, 1, 0, 0, 1, 0, 0, 1, 1] ⟨mkT 71 [(1, .ptr 0 0), (3, .str y0), (4, .str y1), (5, .int .i64 y2), (6, .int .i64 y3)], [some (.box 32 [.row false .i64 y4, .int .i64 y5, .row false .i64 y6])]⟩
noncomputable def s_PlaceText_j4 (y0 : ByteArray) (y1 : ByteArray) (y2 : List (Int)) (y3 : Int) (y4 : List (Int)) : Option ((ByteArray)) := from_ Tryd.prog (s_PlaceText_E) Tryd.f65 s_PlaceText_sig [1, 1, 1, 1, 1, 1] ⟨mkT 71 [(1, .ptr 0 0), (3, .str y0), (4, .str y1)], [some (.box 32 [.row false .i64 y2, .int .i64 y3, .row false .i64 y4])]⟩
theorem s_PlaceText_f_eq (x0 : (List (Int))) (x1 : (Int)) (x2 : (List (Int))) : s_PlaceText_f (x0, x1, x2) = (Option.bind (s_PlaceOk_f (x0, x1, x2)) fun r1 => (cond ((!r1)) (some ByteArray.empty) (s_PlaceText_l0 ByteArray.empty ByteArray.empty 0 x0 x1 x2))) := by
  kernel_rfl
theorem s_PlaceText_l0_eq (y0 : ByteArray) (y1 : ByteArray) (y2 : Int) (y3 : List (Int)) (y4 : Int) (y5 : List (Int)) : s_PlaceText_l0 y0 y1 y2 y3 y4 y5 = (cond ((decide (y2 < (List.length y3 : Int)))) (if (0 : Int) ≤ y2 ∧ y2 < (List.length y5 : Int) then (Option.bind (s_l1Number_f (List.getD y5 (y2 : Int).toNat 0)) fun r1 => (if ByteArray.size y1 + ByteArray.size r1 ≤ 9223372036854775807 then (s_PlaceText_l1 y0 (y1 ++ r1) y2 (IntKind.i64.wrap (y2 + 1)) y3 y4 y5) else none)) else none) (s_PlaceText_j2 y0 y1 y3 y4 y5)) := by
  refine (loopK_eq Tryd.prog (s_PlaceText_E) (sub (Tryd.f65.body.getD .skip) [1, 1, 1, 1, 0, 1, 0, 0]) _ _).trans ?_
  kernel_rfl
theorem s_PlaceText_l1_eq (y0 : ByteArray) (y1 : ByteArray) (y2 : Int) (y3 : Int) (y4 : List (Int)) (y5 : Int) (y6 : List (Int)) : s_PlaceText_l1 y0 y1 y2 y3 y4 y5 y6 = (cond ((decide (y3 < (List.length y4 : Int)))) (if (0 : Int) ≤ y2 ∧ y2 < (List.length y4 : Int) then (if y3 < 0 then none else (cond (((Int.tmod (Int.fdiv (List.getD y4 (y2 : Int).toNat 0) (2 ^ min (y3 : Int).toNat IntKind.i64.bits)) 2) == 0)) (s_PlaceText_l1 y0 y1 y2 (IntKind.i64.wrap (y3 + 1)) y4 y5 y6) (cond ((!(ByteArray.toList y0 == ByteArray.toList ByteArray.empty))) (if ByteArray.size y0 + ByteArray.size str14 ≤ 9223372036854775807 then (s_PlaceText_j3 (y0 ++ str14) y1 y2 y3 y4 y5 y6) else none) (s_PlaceText_j3 y0 y1 y2 y3 y4 y5 y6)))) else none) (s_PlaceText_l0 y0 y1 (IntKind.i64.wrap (y2 + 1)) y4 y5 y6)) := by
  refine (loopK_eq Tryd.prog (s_PlaceText_E) (sub (Tryd.f65.body.getD .skip) [1, 1, 1, 1, 0, 1, 0, 0, 1, 0, 0, 1, 1, 0, 0]) _ _).trans ?_
  kernel_rfl
theorem s_PlaceText_j2_eq (y0 : ByteArray) (y1 : ByteArray) (y2 : List (Int)) (y3 : Int) (y4 : List (Int)) : s_PlaceText_j2 y0 y1 y2 y3 y4 = (cond ((ByteArray.toList y0 == ByteArray.toList ByteArray.empty)) (s_PlaceText_j4 str15 y1 y2 y3 y4) (s_PlaceText_j4 y0 y1 y2 y3 y4)) := by
  kernel_rfl
theorem s_PlaceText_j3_eq (y0 : ByteArray) (y1 : ByteArray) (y2 : Int) (y3 : Int) (y4 : List (Int)) (y5 : Int) (y6 : List (Int)) : s_PlaceText_j3 y0 y1 y2 y3 y4 y5 y6 = (Option.bind (s_l1Number_f y2) fun r1 => (if ByteArray.size y0 + ByteArray.size r1 ≤ 9223372036854775807 then (Option.bind (s_l1Number_f y3) fun r2 => (if ByteArray.size (y0 ++ r1) + ByteArray.size r2 ≤ 9223372036854775807 then (s_PlaceText_l1 ((y0 ++ r1) ++ r2) y1 y2 (IntKind.i64.wrap (y3 + 1)) y4 y5 y6) else none)) else none)) := by
  kernel_rfl
theorem s_PlaceText_j4_eq (y0 : ByteArray) (y1 : ByteArray) (y2 : List (Int)) (y3 : Int) (y4 : List (Int)) : s_PlaceText_j4 y0 y1 y2 y3 y4 = (Option.bind (s_l1Number_f (List.length y2 : Int)) fun r1 => (if ByteArray.size r1 + ByteArray.size str1 ≤ 9223372036854775807 then (if ByteArray.size (r1 ++ str1) + ByteArray.size y0 ≤ 9223372036854775807 then (if ByteArray.size ((r1 ++ str1) ++ y0) + ByteArray.size str1 ≤ 9223372036854775807 then (Option.bind (s_l1Number_f y3) fun r2 => (if ByteArray.size (((r1 ++ str1) ++ y0) ++ str1) + ByteArray.size r2 ≤ 9223372036854775807 then (if ByteArray.size ((((r1 ++ str1) ++ y0) ++ str1) ++ r2) + ByteArray.size str1 ≤ 9223372036854775807 then (if ByteArray.size (((((r1 ++ str1) ++ y0) ++ str1) ++ r2) ++ str1) + ByteArray.size y1 ≤ 9223372036854775807 then (some ((((((r1 ++ str1) ++ y0) ++ str1) ++ r2) ++ str1) ++ y1)) else none) else none) else none)) else none) else none) else none)) := by
  kernel_rfl
theorem s_PlaceText_ent : Entb Tryd.prog 65 := ⟨Tryd.f65, by kernel_rfl, by kernel_rfl, by kernel_rfl⟩
theorem s_PlaceText_ok : CtrOk Tryd.prog 65 ⟨s_PlaceText_sig, s_PlaceText_f⟩ :=
  ctr_of (fn := Tryd.f65) (by kernel_rfl) (by kernel_rfl) (fun x : Ts s_PlaceText_sig.pc => s_PlaceText_E) (fun x => ⟨(fn_cons ⟨s_l1Number_ok, s_l1Number_ent⟩ (fn_cons ⟨s_PlaceOk_ok, s_PlaceOk_ent⟩ fn_none)), clo_none, wr_none⟩) (fun h => by cases h) follows_ (fun _ _ => trivial)
end FN
set_option linter.unusedVariables false
namespace FN
open Go Go.Proofs
/-! loop.example/firingnets/impl.PlaceText -/
@[reducible] def i_PlaceText_sig : Sig := { ps := [some 3], pc := [.view .i64, .int .i64, .view .i64], rs := [none], rc := [.str] }
noncomputable def i_PlaceText_E : Env' := { fn := fun f => if f = 72 then some ⟨i_PlaceOk_sig, i_PlaceOk_f⟩ else if f = 73 then some ⟨x_strconv_Itoa_sig, x_strconv_Itoa_f⟩ else if f = 74 then some ⟨x_strings_Join_sig, x_strings_Join_f⟩ else none, ck := ckT, cuts := [(5, [1, 3, 15, 16, 17]), (8, [1, 3, 4, 5, 6, 15, 16, 17]), (13, [1, 3]), (15, [1, 3]), (17, [7, 66, 67, 68])], mine := fun i => false }
noncomputable def i_PlaceText_f (x : Ts i_PlaceText_sig.pc) : Option (Ts i_PlaceText_sig.rc) := runFn Tryd.prog (i_PlaceText_E) Tryd.f22 i_PlaceText_sig x
noncomputable def i_PlaceText_l0 (y0 : List (Int)) (y1 : Int) (y2 : Int) (y3 : List (Int)) (y4 : Int) (y5 : List (Int)) (y6 : List (ByteArray)) : Option ((ByteArray)) := from_ Tryd.prog (i_PlaceText_E) Tryd.f22 i_PlaceText_sig [1, 1, 1, 0, 1, 0] ⟨mkT 78 [(1, .ptr 0 0), (3, .own 1), (15, .row false .i64 y0), (16, .int .i64 y1), (17, .int .i64 y2)], [some (.box 32 [.row false .i64 y3, .int .i64 y4, .row false .i64 y5]), some (.arr 9 true .str y6)]⟩
noncomputable def i_PlaceText_l1 (y0 : Int) (y1 : Int) (y2 : Int) (y3 : List (Int)) (y4 : Int) (y5 : Int) (y6 : List (Int)) (y7 : Int) (y8 : List (Int)) (y9 : List (ByteArray)) : Option ((ByteArray)) := from_ Tryd.prog (i_PlaceText_E) Tryd.f22 i_PlaceText_sig [1, 1, 1, 0, 1, 0, 0, 1, 1, 0, 0, 1, 1, 0] ⟨mkT 78 [(1, .ptr 0 0), (3, .own 1), (4, .int .i64 y0), (5, .int .i64 y1), (6, .int .i64 y2), (15, .row false .i64 y3), (16, .int .i64 y4), (17, .int .i64 y5)], [some (.box 32 [.row false .i64 y6, .int .i64 y7, .row false .i64 y8]), some (.arr 9 true .str y9)]⟩
noncomputable def i_PlaceText_j2 (y0 : List (Int)) (y1 : Int) (y2 : List (Int)) (y3 : List (ByteArray)) : Option ((ByteArray)) := from_ Tryd.prog (i_PlaceText_E) Tryd.f22 i_PlaceText_sig [1, 1, 1, 1] ⟨mkT 78 [(1, .ptr 0 0), (3, .own 1)], [some (.box 32 [.row false .i64 y0, .int .i64 y1, .row false .i64 y2]), some (.arr 9 true .str y3)]⟩
noncomputable def i_PlaceText_j3 (y0 : List (Int)) (y1 : Int) (y2 : List (Int)) (y3 : List (ByteArray)) : Option ((ByteArray)) := from_ Tryd.prog (i_PlaceText_E) Tryd.f22 i_PlaceText_sig [1, 1, 1, 1, 1] ⟨mkT 78 [(1, .ptr 0 0), (3, .own 1)], [some (.box 32 [.row false .i64 y0, .int .i64 y1, .row false .i64 y2]), some (.arr 9 true .str y3)]⟩
noncomputable def i_PlaceText_l4 (y0 : ByteArray) (y1 : List (Int)) (y2 : Int) (y3 : Int) : Option ((ByteArray)) := from_ Tryd.prog (i_PlaceText_E) Tryd.f22 i_PlaceText_sig [1, 1, 1, 1, 1, 1, 0, 1, 0] ⟨mkT 78 [(7, .str y0), (66, .row false .i64 y1), (67, .int .i64 y2), (68, .int .i64 y3)], []⟩
theorem i_PlaceText_f_eq (x0 : (List (Int))) (x1 : (Int)) (x2 : (List (Int))) : i_PlaceText_f (x0, x1, x2) = (Option.bind (i_PlaceOk_f (x0, x1, x2)) fun r1 => (cond ((!r1)) (some ByteArray.empty) (i_PlaceText_l0 x0 (List.length x0 : Int) 0 x0 x1 x2 ([] : List (ByteArray))))) := by
  kernel_rfl
theorem i_PlaceText_l0_eq (y0 : List (Int)) (y1 : Int) (y2 : Int) (y3 : List (Int)) (y4 : Int) (y5 : List (Int)) (y6 : List (ByteArray)) : i_PlaceText_l0 y0 y1 y2 y3 y4 y5 y6 = (cond ((decide (y2 < y1))) (if (0 : Int) ≤ y2 ∧ y2 < (List.length y0 : Int) then (i_PlaceText_l1 y2 (List.getD y0 (y2 : Int).toNat 0) (IntKind.i64.wrap (y2 + 1)) y0 y1 y2 y3 y4 y5 y6) else none) (i_PlaceText_j2 y3 y4 y5 y6)) := by
  refine (loopK_eq Tryd.prog (i_PlaceText_E) (sub (Tryd.f22.body.getD .skip) [1, 1, 1, 0, 1, 0, 0]) _ _).trans ?_
  kernel_rfl
theorem i_PlaceText_l1_eq (y0 : Int) (y1 : Int) (y2 : Int) (y3 : List (Int)) (y4 : Int) (y5 : Int) (y6 : List (Int)) (y7 : Int) (y8 : List (Int)) (y9 : List (ByteArray)) : i_PlaceText_l1 y0 y1 y2 y3 y4 y5 y6 y7 y8 y9 = (cond ((decide (y2 < (List.length y6 : Int)))) (if y2 < 0 then none else (cond (((Go.bits .and IntKind.i64 (Int.fdiv y1 (2 ^ min (y2 : Int).toNat IntKind.i64.bits)) 1) == 1)) (Option.bind (x_strconv_Itoa_f y0) fun r1 => (Option.bind (x_strconv_Itoa_f y2) fun r2 => (if ByteArray.size r1 + ByteArray.size r2 ≤ 9223372036854775807 then (if (List.length y9 + List.length ([(r1 ++ r2)] : List (ByteArray))) * 16 ≤ 140737488355328 then (i_PlaceText_l1 y0 y1 (IntKind.i64.wrap (y2 + 1)) y3 y4 y5 y6 y7 y8 (y9 ++ ([(r1 ++ r2)] : List (ByteArray)))) else none) else none))) (i_PlaceText_l1 y0 y1 (IntKind.i64.wrap (y2 + 1)) y3 y4 y5 y6 y7 y8 y9))) (i_PlaceText_l0 y3 y4 (IntKind.i64.wrap (y5 + 1)) y6 y7 y8 y9)) := by
  refine (loopK_eq Tryd.prog (i_PlaceText_E) (sub (Tryd.f22.body.getD .skip) [1, 1, 1, 0, 1, 0, 0, 1, 1, 0, 0, 1, 1, 0, 0]) _ _).trans ?_
  kernel_rfl
theorem i_PlaceText_j2_eq (y0 : List (Int)) (y1 : Int) (y2 : List (Int)) (y3 : List (ByteArray)) : i_PlaceText_j2 y0 y1 y2 y3 = (cond (((List.length y3 : Int) == 0)) (if (List.length y3 + List.length ([str15] : List (ByteArray))) * 16 ≤ 140737488355328 then (i_PlaceText_j3 y0 y1 y2 (y3 ++ ([str15] : List (ByteArray)))) else none) (i_PlaceText_j3 y0 y1 y2 y3)) := by
  kernel_rfl
theorem i_PlaceText_j3_eq (y0 : List (Int)) (y1 : Int) (y2 : List (Int)) (y3 : List (ByteArray)) : i_PlaceText_j3 y0 y1 y2 y3 = (Option.bind (x_strconv_Itoa_f (List.length y0 : Int)) fun r1 => (if ByteArray.size r1 + ByteArray.size str1 ≤ 9223372036854775807 then (Option.bind (x_strings_Join_f (y3, str14)) fun r2 => (if ByteArray.size (r1 ++ str1) + ByteArray.size r2 ≤ 9223372036854775807 then (if ByteArray.size ((r1 ++ str1) ++ r2) + ByteArray.size str1 ≤ 9223372036854775807 then (Option.bind (x_strconv_Itoa_f y1) fun r3 => (if ByteArray.size (((r1 ++ str1) ++ r2) ++ str1) + ByteArray.size r3 ≤ 9223372036854775807 then (if ByteArray.size ((((r1 ++ str1) ++ r2) ++ str1) ++ r3) + ByteArray.size str1 ≤ 9223372036854775807 then (i_PlaceText_l4 (((((r1 ++ str1) ++ r2) ++ str1) ++ r3) ++ str1) y2 (List.length y2 : Int) 0) else none) else none)) else none) else none)) else none)) := by
  kernel_rfl
theorem i_PlaceText_l4_eq (y0 : ByteArray) (y1 : List (Int)) (y2 : Int) (y3 : Int) : i_PlaceText_l4 y0 y1 y2 y3 = (cond ((decide (y3 < y2))) (if (0 : Int) ≤ y3 ∧ y3 < (List.length y1 : Int) then (Option.bind (x_strconv_Itoa_f (List.getD y1 (y3 : Int).toNat 0)) fun r1 => (if ByteArray.size y0 + ByteArray.size r1 ≤ 9223372036854775807 then (i_PlaceText_l4 (y0 ++ r1) y1 y2 (IntKind.i64.wrap (y3 + 1))) else none)) else none) (some y0)) := by
  refine (loopK_eq Tryd.prog (i_PlaceText_E) (sub (Tryd.f22.body.getD .skip) [1, 1, 1, 1, 1, 1, 0, 1, 0, 0]) _ _).trans ?_
  kernel_rfl
theorem i_PlaceText_ent : Entb Tryd.prog 22 := ⟨Tryd.f22, by kernel_rfl, by kernel_rfl, by kernel_rfl⟩
theorem i_PlaceText_ok : CtrOk Tryd.prog 22 ⟨i_PlaceText_sig, i_PlaceText_f⟩ :=
  ctr_of (fn := Tryd.f22) (by kernel_rfl) (by kernel_rfl) (fun x : Ts i_PlaceText_sig.pc => i_PlaceText_E) (fun x => ⟨(fn_cons ⟨i_PlaceOk_ok, i_PlaceOk_ent⟩ (fn_cons ⟨x_strconv_Itoa_ok, x_strconv_Itoa_ent⟩ (fn_cons ⟨x_strings_Join_ok, x_strings_Join_ent⟩ fn_none))), clo_none, wr_none⟩) (fun h => by cases h) follows_ (fun _ _ => trivial)
end FN
namespace FN
open Go Go.Proofs Go.RowKit
def splitS (s sep : ByteArray) : List ByteArray := Lib.splitB sep 0 (Lib.countB s sep) s
@[reducible] def x_strings_Split_sig : Sig := { ps := [none, none], pc := [.str, .str], rs := [none], rc := [.row 9 .str] }
def x_strings_Split_f (x : Ts x_strings_Split_sig.pc) : Option (Ts x_strings_Split_sig.rc) := if x.1.size < 4294967281 ∧ 1 ≤ x.2.size ∧ Lib.countB x.1 x.2 + 1 = (splitS x.1 x.2).length ∧ (splitS x.1 x.2).length ≤ maxLen then some (splitS x.1 x.2) else none
theorem x_strings_Split_ent : Entb Tryd.prog 61 := ⟨Tryd.f61, by kernel_rfl, by kernel_rfl, by kernel_rfl⟩
theorem split_ok (hG : ∀ w, Gl.I w → ∃ m, w.cell? ⟨2, 0, none⟩ = some (.int .i64 m)) : CtrOk Tryd.prog 61 ⟨x_strings_Split_sig, x_strings_Split_f⟩ := by
  intro w okc args bx x r hI hA hr
  obtain ⟨rfl, fl, h1, h2⟩ := (show bx = none ∧ ∃ fl, flatV [none, none] args.toList = some fl ∧ F2 (V1 (av w okc)) [PV.str x.1, PV.str x.2] fl from hA)
  obtain ⟨p, q, h3, rfl⟩ := flatV_two h1
  have hx : (if x.1.size < 4294967281 ∧ 1 ≤ x.2.size ∧ Lib.countB x.1 x.2 + 1 = (splitS x.1 x.2).length ∧ (splitS x.1 x.2).length ≤ maxLen then some (splitS x.1 x.2) else none) = some r := hr
  obtain ⟨m, hm⟩ := hG w hI
  split at hx
  · rename_i hc
    obtain ⟨c1, c2, c3, c4⟩ := hc
    injection hx with hx
    subst hx
    cases h2 with
    | cons hp h2 => cases h2 with
      | cons hq _ =>
        have hp : p = .string x.1 := hp
        have hq : q = .string x.2 := hq
        subst hp; subst hq
        have hargs : args = #[.string x.1, .string x.2] := by apply Array.ext'; rw [h3]
        rw [hargs]
        refine (Tryd.strings_Split x.1 x.2 m w c1 hm c2).mono ?_
        rintro e w' ⟨rfl, rfl⟩
        rw [c3]
        refine ⟨_, rfl, ⟨[.slice (some ⟨w.heap.size, 0, none⟩) (splitS x.1 x.2).length (splitS x.1 x.2).length], fun _ => False, ⟨_, rfl, ((splitS x.1 x.2).map Value.string), ⟨by simp [CK.sz], .inr ⟨w.heap.size, _, _, rfl, Nat.le_refl _, heap_alloc_new w _, Nat.le_refl _, c4, by simp [CK.sz, splitS], by simp only [CK.sz, Nat.mul_one, splitS]; exact List.take_of_length_le (by simp)⟩⟩, fun j y hj => ?_⟩, fun i j u u' g hu hu' _ _ => ?_, fun k h => h, [.slice (some ⟨w.heap.size, 0, none⟩) (splitS x.1 x.2).length (splitS x.1 x.2).length], rfl, rfl⟩, Kp.alloc _ (Nat.le_refl _)⟩
        · refine ⟨[.string y], rfl, fun i u hi => ?_⟩
          cases i with
          | zero => simp at hi; subst hi; simp [CK.sz, hj]
          | succ i => simp at hi
        · cases i with
          | zero => cases j with
            | zero => rfl
            | succ j => simp [rowsV] at hu'
          | succ i => simp [rowsV] at hu
  · cases hx
theorem x_strings_Split_ok : CtrOk Tryd.prog 61 ⟨x_strings_Split_sig, x_strings_Split_f⟩ := split_ok fun _ h => gl_cell h
end FN
set_option linter.unusedVariables false
namespace FN
open Go Go.Proofs
/-! loop.example/firingnets/spec.l1Cut -/
@[reducible] def s_l1Cut_sig : Sig := { ps := [none, none], pc := [.str, .int .u8], rs := [none], rc := [.row 9 .str] }
noncomputable def s_l1Cut_E : Env' := { fn := fun f => none, ck := ckT, cuts := [(4, [0, 1, 5, 6, 7]), (9, [0, 5, 6])], mine := fun i => false }
noncomputable def s_l1Cut_f (x : Ts s_l1Cut_sig.pc) : Option (Ts s_l1Cut_sig.rc) := runFn Tryd.prog (s_l1Cut_E) Tryd.f59 s_l1Cut_sig x
noncomputable def s_l1Cut_l0 (y0 : ByteArray) (y1 : Int) (y2 : Int) (y3 : Int) (y4 : List (ByteArray)) : Option ((List (ByteArray))) := from_ Tryd.prog (s_l1Cut_E) Tryd.f59 s_l1Cut_sig [1, 1, 1, 0, 1, 0] ⟨mkT 35 [(0, .str y0), (1, .int .u8 y1), (5, .own 0), (6, .int .i64 y2), (7, .int .i64 y3)], [some (.arr 9 true .str y4)]⟩
noncomputable def s_l1Cut_j1 (y0 : ByteArray) (y1 : Int) (y2 : List (ByteArray)) : Option ((List (ByteArray))) := from_ Tryd.prog (s_l1Cut_E) Tryd.f59 s_l1Cut_sig [1, 1, 1, 1] ⟨mkT 35 [(0, .str y0), (5, .own 0), (6, .int .i64 y1)], [some (.arr 9 true .str y2)]⟩
theorem s_l1Cut_f_eq (x0 : (ByteArray)) (x1 : (Int)) : s_l1Cut_f (x0, x1) = (s_l1Cut_l0 x0 x1 0 0 ([] : List (ByteArray))) := by
  kernel_rfl
theorem s_l1Cut_l0_eq (y0 : ByteArray) (y1 : Int) (y2 : Int) (y3 : Int) (y4 : List (ByteArray)) : s_l1Cut_l0 y0 y1 y2 y3 y4 = (cond ((decide (y3 < (ByteArray.size y0 : Int)))) (if (0 : Int) ≤ y3 ∧ y3 < (ByteArray.size y0 : Int) then (cond ((((List.getD (ByteArray.data y0).toList (y3 : Int).toNat 0).toNat : Int) == y1)) (if (0 : Int) ≤ y3 ∧ y3 ≤ (ByteArray.size y0 : Int) then (if (0 : Int) ≤ y2 ∧ y2 ≤ y3 then (if (List.length y4 + List.length ([(ByteArray.extract y0 (y2 : Int).toNat (y3 : Int).toNat)] : List (ByteArray))) * 16 ≤ 140737488355328 then (s_l1Cut_l0 y0 y1 (IntKind.i64.wrap (y3 + 1)) (IntKind.i64.wrap (y3 + 1)) (y4 ++ ([(ByteArray.extract y0 (y2 : Int).toNat (y3 : Int).toNat)] : List (ByteArray)))) else none) else none) else none) (s_l1Cut_l0 y0 y1 y2 (IntKind.i64.wrap (y3 + 1)) y4)) else none) (s_l1Cut_j1 y0 y2 y4)) := by
  refine (loopK_eq Tryd.prog (s_l1Cut_E) (sub (Tryd.f59.body.getD .skip) [1, 1, 1, 0, 1, 0, 0]) _ _).trans ?_
  kernel_rfl
theorem s_l1Cut_j1_eq (y0 : ByteArray) (y1 : Int) (y2 : List (ByteArray)) : s_l1Cut_j1 y0 y1 y2 = (if (0 : Int) ≤ y1 ∧ y1 ≤ (ByteArray.size y0 : Int) then (if (List.length y2 + List.length ([(ByteArray.extract y0 (y1 : Int).toNat (ByteArray.size y0))] : List (ByteArray))) * 16 ≤ 140737488355328 then (some (y2 ++ ([(ByteArray.extract y0 (y1 : Int).toNat (ByteArray.size y0))] : List (ByteArray)))) else none) else none) := by
  kernel_rfl
theorem s_l1Cut_ent : Entb Tryd.prog 59 := ⟨Tryd.f59, by kernel_rfl, by kernel_rfl, by kernel_rfl⟩
theorem s_l1Cut_ok : CtrOk Tryd.prog 59 ⟨s_l1Cut_sig, s_l1Cut_f⟩ :=
  ctr_of (fn := Tryd.f59) (by kernel_rfl) (by kernel_rfl) (fun x : Ts s_l1Cut_sig.pc => s_l1Cut_E) (fun x => ⟨fn_none, clo_none, wr_none⟩) (fun h => by cases h) follows_ (fun _ _ => trivial)
end FN
set_option linter.unusedVariables false
namespace FN
open Go Go.Proofs
/-! loop.example/firingnets/spec.l1Digits -/
@[reducible] def s_l1Digits_sig : Sig := { ps := [none], pc := [.str], rs := [none], rc := [.int .i64] }
noncomputable def s_l1Digits_E : Env' := { fn := fun f => if f = 69 then some ⟨s_l1In_sig, s_l1In_f⟩ else none, ck := ckT, cuts := [(5, [0, 3, 4])], mine := fun i => false }
noncomputable def s_l1Digits_f (x : Ts s_l1Digits_sig.pc) : Option (Ts s_l1Digits_sig.rc) := runFn Tryd.prog (s_l1Digits_E) Tryd.f60 s_l1Digits_sig x
noncomputable def s_l1Digits_l0 (y0 : ByteArray) (y1 : Int) (y2 : Int) : Option ((Int)) := from_ Tryd.prog (s_l1Digits_E) Tryd.f60 s_l1Digits_sig [1, 1, 1, 0, 1, 0] ⟨mkT 44 [(0, .str y0), (3, .int .i64 y1), (4, .int .i64 y2)], []⟩
theorem s_l1Digits_f_eq (x0 : (ByteArray)) : s_l1Digits_f x0 = (Option.bind (s_l1In_f ((ByteArray.size x0 : Int), 1, 6)) fun r1 => (cond ((!r1)) (some (-1)) (cond ((decide (1 < (ByteArray.size x0 : Int)))) (if (0 : Int) ≤ 0 ∧ 0 < (ByteArray.size x0 : Int) then (cond ((((List.getD (ByteArray.data x0).toList (0 : Int).toNat 0).toNat : Int) == 48)) (some (-1)) (s_l1Digits_l0 x0 0 0)) else none) (s_l1Digits_l0 x0 0 0)))) := by
  kernel_rfl
theorem s_l1Digits_l0_eq (y0 : ByteArray) (y1 : Int) (y2 : Int) : s_l1Digits_l0 y0 y1 y2 = (cond ((decide (y2 < (ByteArray.size y0 : Int)))) (if (0 : Int) ≤ y2 ∧ y2 < (ByteArray.size y0 : Int) then (cond ((decide (((List.getD (ByteArray.data y0).toList (y2 : Int).toNat 0).toNat : Int) < 48))) (some (-1)) (if (0 : Int) ≤ y2 ∧ y2 < (ByteArray.size y0 : Int) then (cond ((decide (57 < ((List.getD (ByteArray.data y0).toList (y2 : Int).toNat 0).toNat : Int)))) (some (-1)) (if (0 : Int) ≤ y2 ∧ y2 < (ByteArray.size y0 : Int) then (s_l1Digits_l0 y0 (IntKind.i64.wrap ((IntKind.i64.wrap (10 * y1)) + (IntKind.i64.wrap (IntKind.u8.wrap (((List.getD (ByteArray.data y0).toList (y2 : Int).toNat 0).toNat : Int) - 48))))) (IntKind.i64.wrap (y2 + 1))) else none)) else none)) else none) (some y1)) := by
  refine (loopK_eq Tryd.prog (s_l1Digits_E) (sub (Tryd.f60.body.getD .skip) [1, 1, 1, 0, 1, 0, 0]) _ _).trans ?_
  kernel_rfl
theorem s_l1Digits_ent : Entb Tryd.prog 60 := ⟨Tryd.f60, by kernel_rfl, by kernel_rfl, by kernel_rfl⟩
theorem s_l1Digits_ok : CtrOk Tryd.prog 60 ⟨s_l1Digits_sig, s_l1Digits_f⟩ :=
  ctr_of (fn := Tryd.f60) (by kernel_rfl) (by kernel_rfl) (fun x : Ts s_l1Digits_sig.pc => s_l1Digits_E) (fun x => ⟨(fn_cons ⟨s_l1In_ok, s_l1In_ent⟩ fn_none), clo_none, wr_none⟩) (fun h => by cases h) follows_ (fun _ _ => trivial)
end FN
set_option linter.unusedVariables false
namespace FN
open Go Go.Proofs
/-! loop.example/firingnets/impl.ReadPlace -/
@[reducible] def i_ReadPlace_sig : Sig := { ps := [none], pc := [.str], rs := [some 3, none], rc := [.row 3 .i64, .int .i64, .row 3 .i64, .bool] }
noncomputable def i_ReadPlace_E : Env' := { fn := fun f => if f = 22 then some ⟨i_PlaceText_sig, i_PlaceText_f⟩ else if f = 61 then some ⟨x_strings_Split_sig, x_strings_Split_f⟩ else none, ck := ckT, cuts := [(10, [0, 2, 4, 5, 6, 61, 62, 63]), (15, [0, 2, 4, 5, 6, 9, 10, 61, 62, 63]), (17, [0, 2, 4, 5, 6, 9, 10, 61, 62, 63]), (18, [0, 2, 4, 5, 6, 9, 10, 61, 62, 63]), (20, [0, 2, 4, 6]), (21, [0, 2, 4, 6, 118, 119]), (25, [0, 2, 6])], mine := fun i => false }
noncomputable def i_ReadPlace_f (x : Ts i_ReadPlace_sig.pc) : Option (Ts i_ReadPlace_sig.rc) := runFn Tryd.prog (i_ReadPlace_E) Tryd.f18 i_ReadPlace_sig x
noncomputable def i_ReadPlace_l0 (y0 : ByteArray) (y1 : List (ByteArray)) (y2 : Int) (y3 : List (ByteArray)) (y4 : Int) (y5 : Int) (y6 : Int) (y7 : Int) (y8 : List (Int)) : Option ((List (Int)) × (Int) × (List (Int)) × (Bool)) := from_ Tryd.prog (i_ReadPlace_E) Tryd.f18 i_ReadPlace_sig [1, 1, 1, 1, 1, 1, 0, 1, 0, 1, 0] ⟨mkT 141 [(0, .str y0), (2, .ptr 0 0), (4, .row true .str y1), (5, .int .i64 y2), (6, .ptr 1 0), (61, .row true .str y3), (62, .int .i64 y4), (63, .int .i64 y5)], [some (.box 32 [.nilS, .int .i64 y6, .nilS]), some (.box 32 [.own 2, .int .i64 y7, .nilS]), some (.arr 3 true .i64 y8)]⟩
noncomputable def i_ReadPlace_j1 (y0 : ByteArray) (y1 : List (ByteArray)) (y2 : Int) (y3 : Int) (y4 : List (Int)) : Option ((List (Int)) × (Int) × (List (Int)) × (Bool)) := from_ Tryd.prog (i_ReadPlace_E) Tryd.f18 i_ReadPlace_sig [1, 1, 1, 1, 1, 1, 1] ⟨mkT 141 [(0, .str y0), (2, .ptr 0 0), (4, .row true .str y1), (6, .ptr 1 0)], [some (.box 32 [.nilS, .int .i64 y2, .nilS]), some (.box 32 [.own 2, .int .i64 y3, .nilS]), some (.arr 3 true .i64 y4)]⟩
noncomputable def i_ReadPlace_j2 (y0 : ByteArray) (y1 : List (ByteArray)) (y2 : Int) (y3 : Int) (y4 : Int) (y5 : List (ByteArray)) (y6 : Int) (y7 : Int) (y8 : Int) (y9 : Int) (y10 : List (Int)) : Option ((List (Int)) × (Int) × (List (Int)) × (Bool)) := from_ Tryd.prog (i_ReadPlace_E) Tryd.f18 i_ReadPlace_sig [1, 1, 1, 1, 1, 1, 0, 1, 0, 1, 0, 0, 1, 1, 0, 0, 1, 1, 1] ⟨mkT 141 [(0, .str y0), (2, .ptr 0 0), (4, .row true .str y1), (5, .int .i64 y2), (6, .ptr 1 0), (9, .int .i64 y3), (10, .int .i64 y4), (61, .row true .str y5), (62, .int .i64 y6), (63, .int .i64 y7)], [some (.box 32 [.nilS, .int .i64 y8, .nilS]), some (.box 32 [.own 2, .int .i64 y9, .nilS]), some (.arr 3 true .i64 y10)]⟩
noncomputable def i_ReadPlace_l3 (y0 : ByteArray) (y1 : List (ByteArray)) (y2 : Int) (y3 : Int) (y4 : Int) (y5 : Int) (y6 : List (Int)) : Option ((List (Int)) × (Int) × (List (Int)) × (Bool)) := from_ Tryd.prog (i_ReadPlace_E) Tryd.f18 i_ReadPlace_sig [1, 1, 1, 1, 1, 1, 1, 0, 1, 0] ⟨mkT 141 [(0, .str y0), (2, .ptr 0 0), (4, .row true .str y1), (6, .ptr 1 0), (118, .int .i64 y2), (119, .int .i64 y3)], [some (.box 32 [.nilS, .int .i64 y4, .nilS]), some (.box 32 [.own 2, .int .i64 y5, .nilS]), some (.arr 3 true .i64 y6)]⟩
noncomputable def i_ReadPlace_j4 (y0 : ByteArray) (y1 : List (ByteArray)) (y2 : Int) (y3 : Int) (y4 : Int) (y5 : List (ByteArray)) (y6 : Int) (y7 : Int) (y8 : Int) (y9 : Int) (y10 : List (Int)) : Option ((List (Int)) × (Int) × (List (Int)) × (Bool)) := from_ Tryd.prog (i_ReadPlace_E) Tryd.f18 i_ReadPlace_sig [1, 1, 1, 1, 1, 1, 0, 1, 0, 1, 0, 0, 1, 1, 0, 0, 1, 1, 1, 1] ⟨mkT 141 [(0, .str y0), (2, .ptr 0 0), (4, .row true .str y1), (5, .int .i64 y2), (6, .ptr 1 0), (9, .int .i64 y3), (10, .int .i64 y4), (61, .row true .str y5), (62, .int .i64 y6), (63, .int .i64 y7)], [some (.box 32 [.nilS, .int .i64 y8, .nilS]), some (.box 32 [.own 2, .int .i64 y9, .nilS]), some (.arr 3 true .i64 y10)]⟩
noncomputable def i_ReadPlace_l5 (y0 : ByteArray) (y1 : List (ByteArray)) (y2 : Int) (y3 : Int) (y4 : Int) (y5 : Int) (y6 : List (Int)) (y7 : List (Int)) : Option ((List (Int)) × (Int) × (List (Int)) × (Bool)) := from_ Tryd.prog (i_ReadPlace_E) Tryd.f18 i_ReadPlace_sig [1, 1, 1, 1, 1, 1, 1, 0, 1, 0] ⟨mkT 141 [(0, .str y0), (2, .ptr 0 0), (4, .row true .str y1), (6, .ptr 1 0), (118, .int .i64 y2), (119, .int .i64 y3)], [some (.box 32 [.nilS, .int .i64 y4, .nilS]), some (.box 32 [.own 2, .int .i64 y5, .own 3]), some (.arr 3 true .i64 y6), some (.arr 3 true .i64 y7)]⟩
noncomputable def i_ReadPlace_j6 (y0 : ByteArray) (y1 : Int) (y2 : Int) (y3 : List (Int)) : Option ((List (Int)) × (Int) × (List (Int)) × (Bool)) := from_ Tryd.prog (i_ReadPlace_E) Tryd.f18 i_ReadPlace_sig [1, 1, 1, 1, 1, 1, 1, 1] ⟨mkT 141 [(0, .str y0), (2, .ptr 0 0), (6, .ptr 1 0)], [some (.box 32 [.nilS, .int .i64 y1, .nilS]), some (.box 32 [.own 2, .int .i64 y2, .nilS]), some (.arr 3 true .i64 y3)]⟩
noncomputable def i_ReadPlace_j7 (y0 : ByteArray) (y1 : List (ByteArray)) (y2 : Int) (y3 : Int) (y4 : Int) (y5 : List (ByteArray)) (y6 : Int) (y7 : Int) (y8 : Int) (y9 : Int) (y10 : List (Int)) : Option ((List (Int)) × (Int) × (List (Int)) × (Bool)) := from_ Tryd.prog (i_ReadPlace_E) Tryd.f18 i_ReadPlace_sig [1, 1, 1, 1, 1, 1, 0, 1, 0, 1, 0, 0, 1, 1, 0, 0, 1, 1, 1, 1, 1] ⟨mkT 141 [(0, .str y0), (2, .ptr 0 0), (4, .row true .str y1), (5, .int .i64 y2), (6, .ptr 1 0), (9, .int .i64 y3), (10, .int .i64 y4), (61, .row true .str y5), (62, .int .i64 y6), (63, .int .i64 y7)], [some (.box 32 [.nilS, .int .i64 y8, .nilS]), some (.box 32 [.own 2, .int .i64 y9, .nilS]), some (.arr 3 true .i64 y10)]⟩
noncomputable def i_ReadPlace_j8 (y0 : ByteArray) (y1 : Int) (y2 : Int) (y3 : List (Int)) (y4 : List (Int)) : Option ((List (Int)) × (Int) × (List (Int)) × (Bool)) := from_ Tryd.prog (i_ReadPlace_E) Tryd.f18 i_ReadPlace_sig [1, 1, 1, 1, 1, 1, 1, 1] ⟨mkT 141 [(0, .str y0), (2, .ptr 0 0), (6, .ptr 1 0)], [some (.box 32 [.nilS, .int .i64 y1, .nilS]), some (.box 32 [.own 2, .int .i64 y2, .own 3]), some (.arr 3 true .i64 y3), some (.arr 3 true .i64 y4)]⟩
theorem i_ReadPlace_f_eq (x0 : (ByteArray)) : i_ReadPlace_f x0 = (Option.bind (x_strings_Split_f (x0, str1)) fun r1 => (cond (((List.length r1 : Int) != 4)) (some ([], 0, [], false)) (if (0 : Int) ≤ 0 ∧ 0 < (List.length r1 : Int) then (cond (((ByteArray.size (List.getD r1 (0 : Int).toNat ByteArray.empty) : Int) != 1)) (some ([], 0, [], false)) (if (0 : Int) ≤ 2 ∧ 2 < (List.length r1 : Int) then (cond (((ByteArray.size (List.getD r1 (2 : Int).toNat ByteArray.empty) : Int) != 1)) (some ([], 0, [], false)) (if (0 : Int) ≤ 0 ∧ 0 < (List.length r1 : Int) then (if (0 : Int) ≤ 0 ∧ 0 < (ByteArray.size (List.getD r1 (0 : Int).toNat ByteArray.empty) : Int) then (cond ((decide ((IntKind.i64.wrap ((IntKind.i64.wrap ((List.getD (ByteArray.data (List.getD r1 (0 : Int).toNat ByteArray.empty)).toList (0 : Int).toNat 0).toNat : Int)) - 48)) < 1))) (some ([], 0, [], false)) (cond ((decide (6 < (IntKind.i64.wrap ((IntKind.i64.wrap ((List.getD (ByteArray.data (List.getD r1 (0 : Int).toNat ByteArray.empty)).toList (0 : Int).toNat 0).toNat : Int)) - 48))))) (some ([], 0, [], false)) (if (0 : Int) ≤ 2 ∧ 2 < (List.length r1 : Int) then (if (0 : Int) ≤ 0 ∧ 0 < (ByteArray.size (List.getD r1 (2 : Int).toNat ByteArray.empty) : Int) then (if (0 : Int) ≤ (IntKind.i64.wrap ((IntKind.i64.wrap ((List.getD (ByteArray.data (List.getD r1 (0 : Int).toNat ByteArray.empty)).toList (0 : Int).toNat 0).toNat : Int)) - 48)) ∧ (IntKind.i64.wrap ((IntKind.i64.wrap ((List.getD (ByteArray.data (List.getD r1 (0 : Int).toNat ByteArray.empty)).toList (0 : Int).toNat 0).toNat : Int)) - 48)) * 8 ≤ 140737488355328 ∧ (IntKind.i64.wrap ((IntKind.i64.wrap ((List.getD (ByteArray.data (List.getD r1 (0 : Int).toNat ByteArray.empty)).toList (0 : Int).toNat 0).toNat : Int)) - 48)) ≤ 140737488355328 then (if (0 : Int) ≤ 1 ∧ 1 < (List.length r1 : Int) then (cond ((!(ByteArray.toList (List.getD r1 (1 : Int).toNat ByteArray.empty) == ByteArray.toList str15))) (if (0 : Int) ≤ 1 ∧ 1 < (List.length r1 : Int) then (Option.bind (x_strings_Split_f ((List.getD r1 (1 : Int).toNat ByteArray.empty), str14)) fun r2 => (i_ReadPlace_l0 x0 r1 (IntKind.i64.wrap ((IntKind.i64.wrap ((List.getD (ByteArray.data (List.getD r1 (0 : Int).toNat ByteArray.empty)).toList (0 : Int).toNat 0).toNat : Int)) - 48)) r2 (List.length r2 : Int) 0 0 (IntKind.i64.wrap ((IntKind.i64.wrap ((List.getD (ByteArray.data (List.getD r1 (2 : Int).toNat ByteArray.empty)).toList (0 : Int).toNat 0).toNat : Int)) - 48)) (List.replicate ((IntKind.i64.wrap ((IntKind.i64.wrap ((List.getD (ByteArray.data (List.getD r1 (0 : Int).toNat ByteArray.empty)).toList (0 : Int).toNat 0).toNat : Int)) - 48)) : Int).toNat 0 : List (Int)))) else none) (i_ReadPlace_j1 x0 r1 0 (IntKind.i64.wrap ((IntKind.i64.wrap ((List.getD (ByteArray.data (List.getD r1 (2 : Int).toNat ByteArray.empty)).toList (0 : Int).toNat 0).toNat : Int)) - 48)) (List.replicate ((IntKind.i64.wrap ((IntKind.i64.wrap ((List.getD (ByteArray.data (List.getD r1 (0 : Int).toNat ByteArray.empty)).toList (0 : Int).toNat 0).toNat : Int)) - 48)) : Int).toNat 0 : List (Int)))) else none) else none) else none) else none))) else none) else none)) else none)) else none))) := by
  refine Eq.trans (b := (Option.bind (x_strings_Split_f (x0, str1)) fun r1 => (cond (((List.length r1 : Int) != 4)) (some ([], 0, [], false)) (if (0 : Int) ≤ 0 ∧ 0 < (List.length r1 : Int) then (cond (((ByteArray.size (List.getD r1 (0 : Int).toNat ByteArray.empty) : Int) != 1)) (some ([], 0, [], false)) (if (0 : Int) ≤ 2 ∧ 2 < (List.length r1 : Int) then (cond (((ByteArray.size (List.getD r1 (2 : Int).toNat ByteArray.empty) : Int) != 1)) (some ([], 0, [], false)) (if (0 : Int) ≤ 0 ∧ 0 < (List.length r1 : Int) then (if (0 : Int) ≤ 0 ∧ 0 < (ByteArray.size (List.getD r1 (0 : Int).toNat ByteArray.empty) : Int) then (cond ((decide ((IntKind.i64.wrap ((IntKind.i64.wrap ((List.getD (ByteArray.data (List.getD r1 (0 : Int).toNat ByteArray.empty)).toList (0 : Int).toNat 0).toNat : Int)) - 48)) < 1))) (some ([], 0, [], false)) (cond ((decide (6 < (IntKind.i64.wrap ((IntKind.i64.wrap ((List.getD (ByteArray.data (List.getD r1 (0 : Int).toNat ByteArray.empty)).toList (0 : Int).toNat 0).toNat : Int)) - 48))))) (some ([], 0, [], false)) (if (0 : Int) ≤ 2 ∧ 2 < (List.length r1 : Int) then (if (0 : Int) ≤ 0 ∧ 0 < (ByteArray.size (List.getD r1 (2 : Int).toNat ByteArray.empty) : Int) then (same [(if (0 : Int) ≤ (IntKind.i64.wrap ((IntKind.i64.wrap ((List.getD (ByteArray.data (List.getD r1 (0 : Int).toNat ByteArray.empty)).toList (0 : Int).toNat 0).toNat : Int)) - 48)) ∧ (IntKind.i64.wrap ((IntKind.i64.wrap ((List.getD (ByteArray.data (List.getD r1 (0 : Int).toNat ByteArray.empty)).toList (0 : Int).toNat 0).toNat : Int)) - 48)) * 8 ≤ 140737488355328 ∧ (IntKind.i64.wrap ((IntKind.i64.wrap ((List.getD (ByteArray.data (List.getD r1 (0 : Int).toNat ByteArray.empty)).toList (0 : Int).toNat 0).toNat : Int)) - 48)) ≤ 140737488355328 then (if (0 : Int) ≤ 1 ∧ 1 < (List.length r1 : Int) then (cond ((!(ByteArray.toList (List.getD r1 (1 : Int).toNat ByteArray.empty) == ByteArray.toList str15))) (if (0 : Int) ≤ 1 ∧ 1 < (List.length r1 : Int) then (Option.bind (x_strings_Split_f ((List.getD r1 (1 : Int).toNat ByteArray.empty), str14)) fun r2 => (i_ReadPlace_l0 x0 r1 (IntKind.i64.wrap ((IntKind.i64.wrap ((List.getD (ByteArray.data (List.getD r1 (0 : Int).toNat ByteArray.empty)).toList (0 : Int).toNat 0).toNat : Int)) - 48)) r2 (List.length r2 : Int) 0 0 (IntKind.i64.wrap ((IntKind.i64.wrap ((List.getD (ByteArray.data (List.getD r1 (2 : Int).toNat ByteArray.empty)).toList (0 : Int).toNat 0).toNat : Int)) - 48)) (List.replicate ((IntKind.i64.wrap ((IntKind.i64.wrap ((List.getD (ByteArray.data (List.getD r1 (0 : Int).toNat ByteArray.empty)).toList (0 : Int).toNat 0).toNat : Int)) - 48)) : Int).toNat 0 : List (Int)))) else none) (i_ReadPlace_j1 x0 r1 0 (IntKind.i64.wrap ((IntKind.i64.wrap ((List.getD (ByteArray.data (List.getD r1 (2 : Int).toNat ByteArray.empty)).toList (0 : Int).toNat 0).toNat : Int)) - 48)) (List.replicate ((IntKind.i64.wrap ((IntKind.i64.wrap ((List.getD (ByteArray.data (List.getD r1 (0 : Int).toNat ByteArray.empty)).toList (0 : Int).toNat 0).toNat : Int)) - 48)) : Int).toNat 0 : List (Int)))) else none) else none), (if (0 : Int) ≤ (IntKind.i64.wrap ((IntKind.i64.wrap ((List.getD (ByteArray.data (List.getD r1 (0 : Int).toNat ByteArray.empty)).toList (0 : Int).toNat 0).toNat : Int)) - 48)) ∧ (IntKind.i64.wrap ((IntKind.i64.wrap ((List.getD (ByteArray.data (List.getD r1 (0 : Int).toNat ByteArray.empty)).toList (0 : Int).toNat 0).toNat : Int)) - 48)) * 8 ≤ 140737488355328 ∧ (IntKind.i64.wrap ((IntKind.i64.wrap ((List.getD (ByteArray.data (List.getD r1 (0 : Int).toNat ByteArray.empty)).toList (0 : Int).toNat 0).toNat : Int)) - 48)) ≤ 140737488355328 then (if (0 : Int) ≤ 1 ∧ 1 < (List.length r1 : Int) then (cond ((!(ByteArray.toList (List.getD r1 (1 : Int).toNat ByteArray.empty) == ByteArray.toList str15))) (if (0 : Int) ≤ 1 ∧ 1 < (List.length r1 : Int) then (Option.bind (x_strings_Split_f ((List.getD r1 (1 : Int).toNat ByteArray.empty), str14)) fun r2 => (i_ReadPlace_l0 x0 r1 (IntKind.i64.wrap ((IntKind.i64.wrap ((List.getD (ByteArray.data (List.getD r1 (0 : Int).toNat ByteArray.empty)).toList (0 : Int).toNat 0).toNat : Int)) - 48)) r2 (List.length r2 : Int) 0 0 (IntKind.i64.wrap ((IntKind.i64.wrap ((List.getD (ByteArray.data (List.getD r1 (2 : Int).toNat ByteArray.empty)).toList (0 : Int).toNat 0).toNat : Int)) - 48)) (List.replicate ((IntKind.i64.wrap ((IntKind.i64.wrap ((List.getD (ByteArray.data (List.getD r1 (0 : Int).toNat ByteArray.empty)).toList (0 : Int).toNat 0).toNat : Int)) - 48)) : Int).toNat 0 : List (Int)))) else none) (i_ReadPlace_j1 x0 r1 0 (IntKind.i64.wrap ((IntKind.i64.wrap ((List.getD (ByteArray.data (List.getD r1 (2 : Int).toNat ByteArray.empty)).toList (0 : Int).toNat 0).toNat : Int)) - 48)) (List.replicate ((IntKind.i64.wrap ((IntKind.i64.wrap ((List.getD (ByteArray.data (List.getD r1 (0 : Int).toNat ByteArray.empty)).toList (0 : Int).toNat 0).toNat : Int)) - 48)) : Int).toNat 0 : List (Int)))) else none) else none)]) else none) else none))) else none) else none)) else none)) else none)))) (by kernel_rfl) ?_
  simp only [same2, same3, same4, same5, same6, obind_ite]
theorem i_ReadPlace_l0_eq (y0 : ByteArray) (y1 : List (ByteArray)) (y2 : Int) (y3 : List (ByteArray)) (y4 : Int) (y5 : Int) (y6 : Int) (y7 : Int) (y8 : List (Int)) : i_ReadPlace_l0 y0 y1 y2 y3 y4 y5 y6 y7 y8 = (cond ((decide (y5 < y4))) (if (0 : Int) ≤ y5 ∧ y5 < (List.length y3 : Int) then (cond (((ByteArray.size (List.getD y3 (y5 : Int).toNat ByteArray.empty) : Int) != 2)) (some ([], 0, [], false)) (if (0 : Int) ≤ 0 ∧ 0 < (ByteArray.size (List.getD y3 (y5 : Int).toNat ByteArray.empty) : Int) then (if (0 : Int) ≤ 1 ∧ 1 < (ByteArray.size (List.getD y3 (y5 : Int).toNat ByteArray.empty) : Int) then (i_ReadPlace_j2 y0 y1 y2 (IntKind.i64.wrap ((IntKind.i64.wrap ((List.getD (ByteArray.data (List.getD y3 (y5 : Int).toNat ByteArray.empty)).toList (0 : Int).toNat 0).toNat : Int)) - 48)) (IntKind.i64.wrap ((IntKind.i64.wrap ((List.getD (ByteArray.data (List.getD y3 (y5 : Int).toNat ByteArray.empty)).toList (1 : Int).toNat 0).toNat : Int)) - 48)) y3 y4 y5 y6 y7 y8) else none) else none)) else none) (i_ReadPlace_j1 y0 y1 y6 y7 y8)) := by
  refine (loopK_eq Tryd.prog (i_ReadPlace_E) (sub (Tryd.f18.body.getD .skip) [1, 1, 1, 1, 1, 1, 0, 1, 0, 1, 0, 0]) _ _).trans ?_
  kernel_rfl
theorem i_ReadPlace_j1_eq (y0 : ByteArray) (y1 : List (ByteArray)) (y2 : Int) (y3 : Int) (y4 : List (Int)) : i_ReadPlace_j1 y0 y1 y2 y3 y4 = (if (0 : Int) ≤ 3 ∧ 3 < (List.length y1 : Int) then (i_ReadPlace_l3 y0 y1 (ByteArray.size (List.getD y1 (3 : Int).toNat ByteArray.empty) : Int) 0 y2 y3 y4) else none) := by
  kernel_rfl
theorem i_ReadPlace_j2_eq (y0 : ByteArray) (y1 : List (ByteArray)) (y2 : Int) (y3 : Int) (y4 : Int) (y5 : List (ByteArray)) (y6 : Int) (y7 : Int) (y8 : Int) (y9 : Int) (y10 : List (Int)) : i_ReadPlace_j2 y0 y1 y2 y3 y4 y5 y6 y7 y8 y9 y10 = (cond ((decide (y3 < 0))) (some ([], 0, [], false)) (cond ((decide (y2 ≤ y3))) (some ([], 0, [], false)) (cond ((decide (y4 < 0))) (some ([], 0, [], false)) (cond ((decide (y2 ≤ y4))) (some ([], 0, [], false)) (i_ReadPlace_j4 y0 y1 y2 y3 y4 y5 y6 y7 y8 y9 y10))))) := by
  kernel_rfl
theorem i_ReadPlace_l3_eq (y0 : ByteArray) (y1 : List (ByteArray)) (y2 : Int) (y3 : Int) (y4 : Int) (y5 : Int) (y6 : List (Int)) : i_ReadPlace_l3 y0 y1 y2 y3 y4 y5 y6 = (cond ((decide (y3 < y2))) (if (0 : Int) ≤ 3 ∧ 3 < (List.length y1 : Int) then (if (0 : Int) ≤ y3 ∧ y3 < (ByteArray.size (List.getD y1 (3 : Int).toNat ByteArray.empty) : Int) then (if (List.length ([] : List (Int)) + List.length ([(IntKind.i64.wrap ((IntKind.i64.wrap ((List.getD (ByteArray.data (List.getD y1 (3 : Int).toNat ByteArray.empty)).toList (y3 : Int).toNat 0).toNat : Int)) - 48))] : List (Int))) * 8 ≤ 140737488355328 then (i_ReadPlace_l5 y0 y1 y2 (IntKind.i64.wrap (y3 + 1)) y4 y5 y6 (([] : List (Int)) ++ ([(IntKind.i64.wrap ((IntKind.i64.wrap ((List.getD (ByteArray.data (List.getD y1 (3 : Int).toNat ByteArray.empty)).toList (y3 : Int).toNat 0).toNat : Int)) - 48))] : List (Int)))) else none) else none) else none) (i_ReadPlace_j6 y0 y4 y5 y6)) := by
  refine (loopK_eq Tryd.prog (i_ReadPlace_E) (sub (Tryd.f18.body.getD .skip) [1, 1, 1, 1, 1, 1, 1, 0, 1, 0, 0]) _ _).trans ?_
  kernel_rfl
theorem i_ReadPlace_j4_eq (y0 : ByteArray) (y1 : List (ByteArray)) (y2 : Int) (y3 : Int) (y4 : Int) (y5 : List (ByteArray)) (y6 : Int) (y7 : Int) (y8 : Int) (y9 : Int) (y10 : List (Int)) : i_ReadPlace_j4 y0 y1 y2 y3 y4 y5 y6 y7 y8 y9 y10 = (if (0 : Int) ≤ y3 ∧ y3 < (List.length y10 : Int) then (if y4 < 0 then none else (if (0 : Int) ≤ y3 ∧ y3 < (List.length y10 : Int) then (i_ReadPlace_j7 y0 y1 y2 y3 y4 y5 y6 y7 y8 y9 (List.set y10 (y3 : Int).toNat (Go.bits .or IntKind.i64 (List.getD y10 (y3 : Int).toNat 0) (IntKind.i64.wrap (1 * 2 ^ min (y4 : Int).toNat IntKind.i64.bits))))) else none)) else none) := by
  kernel_rfl
theorem i_ReadPlace_l5_eq (y0 : ByteArray) (y1 : List (ByteArray)) (y2 : Int) (y3 : Int) (y4 : Int) (y5 : Int) (y6 : List (Int)) (y7 : List (Int)) : i_ReadPlace_l5 y0 y1 y2 y3 y4 y5 y6 y7 = (cond ((decide (y3 < y2))) (if (0 : Int) ≤ 3 ∧ 3 < (List.length y1 : Int) then (if (0 : Int) ≤ y3 ∧ y3 < (ByteArray.size (List.getD y1 (3 : Int).toNat ByteArray.empty) : Int) then (if (List.length y7 + List.length ([(IntKind.i64.wrap ((IntKind.i64.wrap ((List.getD (ByteArray.data (List.getD y1 (3 : Int).toNat ByteArray.empty)).toList (y3 : Int).toNat 0).toNat : Int)) - 48))] : List (Int))) * 8 ≤ 140737488355328 then (i_ReadPlace_l5 y0 y1 y2 (IntKind.i64.wrap (y3 + 1)) y4 y5 y6 (y7 ++ ([(IntKind.i64.wrap ((IntKind.i64.wrap ((List.getD (ByteArray.data (List.getD y1 (3 : Int).toNat ByteArray.empty)).toList (y3 : Int).toNat 0).toNat : Int)) - 48))] : List (Int)))) else none) else none) else none) (i_ReadPlace_j8 y0 y4 y5 y6 y7)) := by
  refine (loopK_eq Tryd.prog (i_ReadPlace_E) (sub (Tryd.f18.body.getD .skip) [1, 1, 1, 1, 1, 1, 1, 0, 1, 0, 0]) _ _).trans ?_
  kernel_rfl
theorem i_ReadPlace_j6_eq (y0 : ByteArray) (y1 : Int) (y2 : Int) (y3 : List (Int)) : i_ReadPlace_j6 y0 y1 y2 y3 = (Option.bind (i_PlaceText_f (y3, y2, [])) fun r1 => (cond ((!(ByteArray.toList r1 == ByteArray.toList y0))) (some ([], 0, [], false)) (some (y3, y2, [], true)))) := by
  kernel_rfl
theorem i_ReadPlace_j7_eq (y0 : ByteArray) (y1 : List (ByteArray)) (y2 : Int) (y3 : Int) (y4 : Int) (y5 : List (ByteArray)) (y6 : Int) (y7 : Int) (y8 : Int) (y9 : Int) (y10 : List (Int)) : i_ReadPlace_j7 y0 y1 y2 y3 y4 y5 y6 y7 y8 y9 y10 = (if (0 : Int) ≤ y4 ∧ y4 < (List.length y10 : Int) then (if y3 < 0 then none else (if (0 : Int) ≤ y4 ∧ y4 < (List.length y10 : Int) then (i_ReadPlace_l0 y0 y1 y2 y5 y6 (IntKind.i64.wrap (y7 + 1)) y8 y9 (List.set y10 (y4 : Int).toNat (Go.bits .or IntKind.i64 (List.getD y10 (y4 : Int).toNat 0) (IntKind.i64.wrap (1 * 2 ^ min (y3 : Int).toNat IntKind.i64.bits))))) else none)) else none) := by
  kernel_rfl
theorem i_ReadPlace_j8_eq (y0 : ByteArray) (y1 : Int) (y2 : Int) (y3 : List (Int)) (y4 : List (Int)) : i_ReadPlace_j8 y0 y1 y2 y3 y4 = (Option.bind (i_PlaceText_f (y3, y2, y4)) fun r1 => (cond ((!(ByteArray.toList r1 == ByteArray.toList y0))) (some ([], 0, [], false)) (some (y3, y2, y4, true)))) := by
  kernel_rfl
theorem i_ReadPlace_ent : Entb Tryd.prog 18 := ⟨Tryd.f18, by kernel_rfl, by kernel_rfl, by kernel_rfl⟩
theorem i_ReadPlace_ok : CtrOk Tryd.prog 18 ⟨i_ReadPlace_sig, i_ReadPlace_f⟩ :=
  ctr_of (fn := Tryd.f18) (by kernel_rfl) (by kernel_rfl) (fun x : Ts i_ReadPlace_sig.pc => i_ReadPlace_E) (fun x => ⟨(fn_cons ⟨i_PlaceText_ok, i_PlaceText_ent⟩ (fn_cons ⟨x_strings_Split_ok, x_strings_Split_ent⟩ fn_none)), clo_none, wr_none⟩) (fun h => by cases h) follows_ (fun _ _ => trivial)
end FN
set_option linter.unusedVariables false
namespace FN
open Go Go.Proofs
/-! loop.example/firingnets/spec.ReadPlace -/
@[reducible] def s_ReadPlace_sig : Sig := { ps := [none], pc := [.str], rs := [some 3, none], rc := [.row 3 .i64, .int .i64, .row 3 .i64, .bool] }
noncomputable def s_ReadPlace_E : Env' := { fn := fun f => if f = 59 then some ⟨s_l1Cut_sig, s_l1Cut_f⟩ else if f = 60 then some ⟨s_l1Digits_sig, s_l1Digits_f⟩ else if f = 65 then some ⟨s_PlaceText_sig, s_PlaceText_f⟩ else if f = 69 then some ⟨s_l1In_sig, s_l1In_f⟩ else none, ck := ckT, cuts := [(7, [0, 2, 4, 5, 6, 7]), (13, [0, 2, 4, 5, 6, 7, 8, 9]), (15, [0, 2, 4, 5, 6, 7, 8, 9]), (16, [0, 2, 4, 5, 6, 7, 8, 9]), (17, [0, 2, 4, 5]), (18, [0, 2, 4, 5, 10]), (21, [0, 2, 5])], mine := fun i => false }
noncomputable def s_ReadPlace_f (x : Ts s_ReadPlace_sig.pc) : Option (Ts s_ReadPlace_sig.rc) := runFn Tryd.prog (s_ReadPlace_E) Tryd.f19 s_ReadPlace_sig x
noncomputable def s_ReadPlace_l0 (y0 : ByteArray) (y1 : List (ByteArray)) (y2 : List (ByteArray)) (y3 : Int) (y4 : Int) (y5 : Int) (y6 : List (Int)) : Option ((List (Int)) × (Int) × (List (Int)) × (Bool)) := from_ Tryd.prog (s_ReadPlace_E) Tryd.f19 s_ReadPlace_sig [1, 1, 1, 1, 1, 0, 1, 0] ⟨mkT 139 [(0, .str y0), (2, .ptr 0 0), (4, .row true .str y1), (5, .ptr 1 0), (6, .row true .str y2), (7, .int .i64 y3)], [some (.box 32 [.nilS, .int .i64 y4, .nilS]), some (.box 32 [.own 2, .int .i64 y5, .nilS]), some (.arr 3 true .i64 y6)]⟩
noncomputable def s_ReadPlace_j1 (y0 : ByteArray) (y1 : List (ByteArray)) (y2 : List (ByteArray)) (y3 : Int) (y4 : Int) (y5 : Int) (y6 : Int) (y7 : Int) (y8 : List (Int)) : Option ((List (Int)) × (Int) × (List (Int)) × (Bool)) := from_ Tryd.prog (s_ReadPlace_E) Tryd.f19 s_ReadPlace_sig [1, 1, 1, 1, 1, 0, 1, 0, 0, 1, 0, 0, 1, 1, 1] ⟨mkT 139 [(0, .str y0), (2, .ptr 0 0), (4, .row true .str y1), (5, .ptr 1 0), (6, .row true .str y2), (7, .int .i64 y3), (8, .int .i64 y4), (9, .int .i64 y5)], [some (.box 32 [.nilS, .int .i64 y6, .nilS]), some (.box 32 [.own 2, .int .i64 y7, .nilS]), some (.arr 3 true .i64 y8)]⟩
noncomputable def s_ReadPlace_j2 (y0 : ByteArray) (y1 : List (ByteArray)) (y2 : Int) (y3 : Int) (y4 : List (Int)) : Option ((List (Int)) × (Int) × (List (Int)) × (Bool)) := from_ Tryd.prog (s_ReadPlace_E) Tryd.f19 s_ReadPlace_sig [1, 1, 1, 1, 1, 1] ⟨mkT 139 [(0, .str y0), (2, .ptr 0 0), (4, .row true .str y1), (5, .ptr 1 0)], [some (.box 32 [.nilS, .int .i64 y2, .nilS]), some (.box 32 [.own 2, .int .i64 y3, .nilS]), some (.arr 3 true .i64 y4)]⟩
noncomputable def s_ReadPlace_j3 (y0 : ByteArray) (y1 : List (ByteArray)) (y2 : List (ByteArray)) (y3 : Int) (y4 : Int) (y5 : Int) (y6 : Int) (y7 : Int) (y8 : List (Int)) : Option ((List (Int)) × (Int) × (List (Int)) × (Bool)) := from_ Tryd.prog (s_ReadPlace_E) Tryd.f19 s_ReadPlace_sig [1, 1, 1, 1, 1, 0, 1, 0, 0, 1, 0, 0, 1, 1, 1, 1] ⟨mkT 139 [(0, .str y0), (2, .ptr 0 0), (4, .row true .str y1), (5, .ptr 1 0), (6, .row true .str y2), (7, .int .i64 y3), (8, .int .i64 y4), (9, .int .i64 y5)], [some (.box 32 [.nilS, .int .i64 y6, .nilS]), some (.box 32 [.own 2, .int .i64 y7, .nilS]), some (.arr 3 true .i64 y8)]⟩
noncomputable def s_ReadPlace_l4 (y0 : ByteArray) (y1 : List (ByteArray)) (y2 : Int) (y3 : Int) (y4 : Int) (y5 : List (Int)) : Option ((List (Int)) × (Int) × (List (Int)) × (Bool)) := from_ Tryd.prog (s_ReadPlace_E) Tryd.f19 s_ReadPlace_sig [1, 1, 1, 1, 1, 1, 0, 1, 0] ⟨mkT 139 [(0, .str y0), (2, .ptr 0 0), (4, .row true .str y1), (5, .ptr 1 0), (10, .int .i64 y2)], [some (.box 32 [.nilS, .int .i64 y3, .nilS]), some (.box 32 [.own 2, .int .i64 y4, .nilS]), some (.arr 3 true .i64 y5)]⟩
noncomputable def s_ReadPlace_j5 (y0 : ByteArray) (y1 : List (ByteArray)) (y2 : List (ByteArray)) (y3 : Int) (y4 : Int) (y5 : Int) (y6 : Int) (y7 : Int) (y8 : List (Int)) : Option ((List (Int)) × (Int) × (List (Int)) × (Bool)) := from_ Tryd.prog (s_ReadPlace_E) Tryd.f19 s_ReadPlace_sig [1, 1, 1, 1, 1, 0, 1, 0, 0, 1, 0, 0, 1, 1, 1, 1, 1] ⟨mkT 139 [(0, .str y0), (2, .ptr 0 0), (4, .row true .str y1), (5, .ptr 1 0), (6, .row true .str y2), (7, .int .i64 y3), (8, .int .i64 y4), (9, .int .i64 y5)], [some (.box 32 [.nilS, .int .i64 y6, .nilS]), some (.box 32 [.own 2, .int .i64 y7, .nilS]), some (.arr 3 true .i64 y8)]⟩
noncomputable def s_ReadPlace_l6 (y0 : ByteArray) (y1 : List (ByteArray)) (y2 : Int) (y3 : Int) (y4 : Int) (y5 : List (Int)) (y6 : List (Int)) : Option ((List (Int)) × (Int) × (List (Int)) × (Bool)) := from_ Tryd.prog (s_ReadPlace_E) Tryd.f19 s_ReadPlace_sig [1, 1, 1, 1, 1, 1, 0, 1, 0] ⟨mkT 139 [(0, .str y0), (2, .ptr 0 0), (4, .row true .str y1), (5, .ptr 1 0), (10, .int .i64 y2)], [some (.box 32 [.nilS, .int .i64 y3, .nilS]), some (.box 32 [.own 2, .int .i64 y4, .own 3]), some (.arr 3 true .i64 y5), some (.arr 3 true .i64 y6)]⟩
noncomputable def s_ReadPlace_j7 (y0 : ByteArray) (y1 : Int) (y2 : Int) (y3 : List (Int)) : Option ((List (Int)) × (Int) × (List (Int)) × (Bool)) := from_ Tryd.prog (s_ReadPlace_E) Tryd.f19 s_ReadPlace_sig [1, 1, 1, 1, 1, 1, 1] ⟨mkT 139 [(0, .str y0), (2, .ptr 0 0), (5, .ptr 1 0)], [some (.box 32 [.nilS, .int .i64 y1, .nilS]), some (.box 32 [.own 2, .int .i64 y2, .nilS]), some (.arr 3 true .i64 y3)]⟩
noncomputable def s_ReadPlace_j8 (y0 : ByteArray) (y1 : Int) (y2 : Int) (y3 : List (Int)) (y4 : List (Int)) : Option ((List (Int)) × (Int) × (List (Int)) × (Bool)) := from_ Tryd.prog (s_ReadPlace_E) Tryd.f19 s_ReadPlace_sig [1, 1, 1, 1, 1, 1, 1] ⟨mkT 139 [(0, .str y0), (2, .ptr 0 0), (5, .ptr 1 0)], [some (.box 32 [.nilS, .int .i64 y1, .nilS]), some (.box 32 [.own 2, .int .i64 y2, .own 3]), some (.arr 3 true .i64 y3), some (.arr 3 true .i64 y4)]⟩
theorem s_ReadPlace_f_eq (x0 : (ByteArray)) : s_ReadPlace_f x0 = (Option.bind (s_l1Cut_f (x0, 32)) fun r1 => (cond (((List.length r1 : Int) != 4)) (some ([], 0, [], false)) (if (0 : Int) ≤ 0 ∧ 0 < (List.length r1 : Int) then (Option.bind (s_l1Digits_f (List.getD r1 (0 : Int).toNat ByteArray.empty)) fun r2 => (Option.bind (s_l1In_f (r2, 1, 6)) fun r3 => (cond ((!r3)) (some ([], 0, [], false)) (if (0 : Int) ≤ 0 ∧ 0 < (List.length r1 : Int) then (if (0 : Int) ≤ 2 ∧ 2 < (List.length r1 : Int) then (Option.bind (s_l1Digits_f (List.getD r1 (0 : Int).toNat ByteArray.empty)) fun r4 => (if (0 : Int) ≤ r4 ∧ r4 * 8 ≤ 140737488355328 ∧ r4 ≤ 140737488355328 then (Option.bind (s_l1Digits_f (List.getD r1 (2 : Int).toNat ByteArray.empty)) fun r5 => (if (0 : Int) ≤ 1 ∧ 1 < (List.length r1 : Int) then (Option.bind (s_l1Cut_f ((List.getD r1 (1 : Int).toNat ByteArray.empty), 44)) fun r6 => (s_ReadPlace_l0 x0 r1 r6 0 0 r5 (List.replicate (r4 : Int).toNat 0 : List (Int)))) else none)) else none)) else none) else none)))) else none))) := by
  refine Eq.trans (b := (Option.bind (s_l1Cut_f (x0, 32)) fun r1 => (cond (((List.length r1 : Int) != 4)) (some ([], 0, [], false)) (if (0 : Int) ≤ 0 ∧ 0 < (List.length r1 : Int) then (Option.bind (s_l1Digits_f (List.getD r1 (0 : Int).toNat ByteArray.empty)) fun r2 => (Option.bind (s_l1In_f (r2, 1, 6)) fun r3 => (cond ((!r3)) (some ([], 0, [], false)) (if (0 : Int) ≤ 0 ∧ 0 < (List.length r1 : Int) then (if (0 : Int) ≤ 2 ∧ 2 < (List.length r1 : Int) then (same [(Option.bind (s_l1Digits_f (List.getD r1 (0 : Int).toNat ByteArray.empty)) fun r4 => (same [(if (0 : Int) ≤ r4 ∧ r4 * 8 ≤ 140737488355328 ∧ r4 ≤ 140737488355328 then (same [(Option.bind (s_l1Digits_f (List.getD r1 (2 : Int).toNat ByteArray.empty)) fun r5 => (if (0 : Int) ≤ 1 ∧ 1 < (List.length r1 : Int) then (Option.bind (s_l1Cut_f ((List.getD r1 (1 : Int).toNat ByteArray.empty), 44)) fun r6 => (s_ReadPlace_l0 x0 r1 r6 0 0 r5 (List.replicate (r4 : Int).toNat 0 : List (Int)))) else none)), (Option.bind (s_l1Digits_f (List.getD r1 (2 : Int).toNat ByteArray.empty)) fun r5 => (if (0 : Int) ≤ 1 ∧ 1 < (List.length r1 : Int) then (Option.bind (s_l1Cut_f ((List.getD r1 (1 : Int).toNat ByteArray.empty), 44)) fun r6 => (s_ReadPlace_l0 x0 r1 r6 0 0 r5 (List.replicate (r4 : Int).toNat 0 : List (Int)))) else none))]) else none), (Option.bind (s_l1Digits_f (List.getD r1 (2 : Int).toNat ByteArray.empty)) fun r5 => (same [(if (0 : Int) ≤ r4 ∧ r4 * 8 ≤ 140737488355328 ∧ r4 ≤ 140737488355328 then (if (0 : Int) ≤ 1 ∧ 1 < (List.length r1 : Int) then (Option.bind (s_l1Cut_f ((List.getD r1 (1 : Int).toNat ByteArray.empty), 44)) fun r6 => (s_ReadPlace_l0 x0 r1 r6 0 0 r5 (List.replicate (r4 : Int).toNat 0 : List (Int)))) else none) else none), (if (0 : Int) ≤ r4 ∧ r4 * 8 ≤ 140737488355328 ∧ r4 ≤ 140737488355328 then (if (0 : Int) ≤ 1 ∧ 1 < (List.length r1 : Int) then (Option.bind (s_l1Cut_f ((List.getD r1 (1 : Int).toNat ByteArray.empty), 44)) fun r6 => (s_ReadPlace_l0 x0 r1 r6 0 0 r5 (List.replicate (r4 : Int).toNat 0 : List (Int)))) else none) else none)])), (same [(if (0 : Int) ≤ r4 ∧ r4 * 8 ≤ 140737488355328 ∧ r4 ≤ 140737488355328 then (Option.bind (s_l1Digits_f (List.getD r1 (2 : Int).toNat ByteArray.empty)) fun r5 => (if (0 : Int) ≤ 1 ∧ 1 < (List.length r1 : Int) then (Option.bind (s_l1Cut_f ((List.getD r1 (1 : Int).toNat ByteArray.empty), 44)) fun r6 => (s_ReadPlace_l0 x0 r1 r6 0 0 r5 (List.replicate (r4 : Int).toNat 0 : List (Int)))) else none)) else none), (Option.bind (s_l1Digits_f (List.getD r1 (2 : Int).toNat ByteArray.empty)) fun r5 => (if (0 : Int) ≤ r4 ∧ r4 * 8 ≤ 140737488355328 ∧ r4 ≤ 140737488355328 then (if (0 : Int) ≤ 1 ∧ 1 < (List.length r1 : Int) then (Option.bind (s_l1Cut_f ((List.getD r1 (1 : Int).toNat ByteArray.empty), 44)) fun r6 => (s_ReadPlace_l0 x0 r1 r6 0 0 r5 (List.replicate (r4 : Int).toNat 0 : List (Int)))) else none) else none))])])), (Option.bind (s_l1Digits_f (List.getD r1 (0 : Int).toNat ByteArray.empty)) fun r4 => (same [(if (0 : Int) ≤ r4 ∧ r4 * 8 ≤ 140737488355328 ∧ r4 ≤ 140737488355328 then (Option.bind (s_l1Digits_f (List.getD r1 (2 : Int).toNat ByteArray.empty)) fun r5 => (if (0 : Int) ≤ 1 ∧ 1 < (List.length r1 : Int) then (Option.bind (s_l1Cut_f ((List.getD r1 (1 : Int).toNat ByteArray.empty), 44)) fun r6 => (s_ReadPlace_l0 x0 r1 r6 0 0 r5 (List.replicate (r4 : Int).toNat 0 : List (Int)))) else none)) else none), (Option.bind (s_l1Digits_f (List.getD r1 (2 : Int).toNat ByteArray.empty)) fun r5 => (if (0 : Int) ≤ r4 ∧ r4 * 8 ≤ 140737488355328 ∧ r4 ≤ 140737488355328 then (if (0 : Int) ≤ 1 ∧ 1 < (List.length r1 : Int) then (Option.bind (s_l1Cut_f ((List.getD r1 (1 : Int).toNat ByteArray.empty), 44)) fun r6 => (s_ReadPlace_l0 x0 r1 r6 0 0 r5 (List.replicate (r4 : Int).toNat 0 : List (Int)))) else none) else none))]))]) else none) else none)))) else none)))) (by kernel_rfl) ?_
  simp only [same2, same3, same4, same5, same6, obind_ite]
theorem s_ReadPlace_l0_eq (y0 : ByteArray) (y1 : List (ByteArray)) (y2 : List (ByteArray)) (y3 : Int) (y4 : Int) (y5 : Int) (y6 : List (Int)) : s_ReadPlace_l0 y0 y1 y2 y3 y4 y5 y6 = (cond ((decide (y3 < (List.length y2 : Int)))) (if (0 : Int) ≤ 1 ∧ 1 < (List.length y1 : Int) then (cond ((!(ByteArray.toList (List.getD y1 (1 : Int).toNat ByteArray.empty) == ByteArray.toList str15))) (if (0 : Int) ≤ y3 ∧ y3 < (List.length y2 : Int) then (cond (((ByteArray.size (List.getD y2 (y3 : Int).toNat ByteArray.empty) : Int) != 2)) (some ([], 0, [], false)) (if (0 : Int) ≤ y3 ∧ y3 < (List.length y2 : Int) then (if (0 : Int) ≤ 0 ∧ 0 < (ByteArray.size (List.getD y2 (y3 : Int).toNat ByteArray.empty) : Int) then (if (0 : Int) ≤ y3 ∧ y3 < (List.length y2 : Int) then (if (0 : Int) ≤ 1 ∧ 1 < (ByteArray.size (List.getD y2 (y3 : Int).toNat ByteArray.empty) : Int) then (s_ReadPlace_j1 y0 y1 y2 y3 (IntKind.i64.wrap ((IntKind.i64.wrap ((List.getD (ByteArray.data (List.getD y2 (y3 : Int).toNat ByteArray.empty)).toList (0 : Int).toNat 0).toNat : Int)) - 48)) (IntKind.i64.wrap ((IntKind.i64.wrap ((List.getD (ByteArray.data (List.getD y2 (y3 : Int).toNat ByteArray.empty)).toList (1 : Int).toNat 0).toNat : Int)) - 48)) y4 y5 y6) else none) else none) else none) else none)) else none) (s_ReadPlace_j2 y0 y1 y4 y5 y6)) else none) (s_ReadPlace_j2 y0 y1 y4 y5 y6)) := by
  refine (loopK_eq Tryd.prog (s_ReadPlace_E) (sub (Tryd.f19.body.getD .skip) [1, 1, 1, 1, 1, 0, 1, 0, 0]) _ _).trans ?_
  kernel_rfl
theorem s_ReadPlace_j1_eq (y0 : ByteArray) (y1 : List (ByteArray)) (y2 : List (ByteArray)) (y3 : Int) (y4 : Int) (y5 : Int) (y6 : Int) (y7 : Int) (y8 : List (Int)) : s_ReadPlace_j1 y0 y1 y2 y3 y4 y5 y6 y7 y8 = (Option.bind (s_l1In_f (y4, 0, (IntKind.i64.wrap ((List.length y8 : Int) - 1)))) fun r1 => (cond ((!r1)) (some ([], 0, [], false)) (Option.bind (s_l1In_f (y5, 0, (IntKind.i64.wrap ((List.length y8 : Int) - 1)))) fun r2 => (cond ((!r2)) (some ([], 0, [], false)) (s_ReadPlace_j3 y0 y1 y2 y3 y4 y5 y6 y7 y8))))) := by
  kernel_rfl
theorem s_ReadPlace_j2_eq (y0 : ByteArray) (y1 : List (ByteArray)) (y2 : Int) (y3 : Int) (y4 : List (Int)) : s_ReadPlace_j2 y0 y1 y2 y3 y4 = (s_ReadPlace_l4 y0 y1 0 y2 y3 y4) := by
  kernel_rfl
theorem s_ReadPlace_j3_eq (y0 : ByteArray) (y1 : List (ByteArray)) (y2 : List (ByteArray)) (y3 : Int) (y4 : Int) (y5 : Int) (y6 : Int) (y7 : Int) (y8 : List (Int)) : s_ReadPlace_j3 y0 y1 y2 y3 y4 y5 y6 y7 y8 = (if (0 : Int) ≤ y4 ∧ y4 < (List.length y8 : Int) then (if y5 < 0 then none else (if (0 : Int) ≤ y4 ∧ y4 < (List.length y8 : Int) then (s_ReadPlace_j5 y0 y1 y2 y3 y4 y5 y6 y7 (List.set y8 (y4 : Int).toNat (Go.bits .or IntKind.i64 (List.getD y8 (y4 : Int).toNat 0) (IntKind.i64.wrap (1 * 2 ^ min (y5 : Int).toNat IntKind.i64.bits))))) else none)) else none) := by
  kernel_rfl
theorem s_ReadPlace_l4_eq (y0 : ByteArray) (y1 : List (ByteArray)) (y2 : Int) (y3 : Int) (y4 : Int) (y5 : List (Int)) : s_ReadPlace_l4 y0 y1 y2 y3 y4 y5 = (if (0 : Int) ≤ 3 ∧ 3 < (List.length y1 : Int) then (cond ((decide (y2 < (ByteArray.size (List.getD y1 (3 : Int).toNat ByteArray.empty) : Int)))) (if (0 : Int) ≤ 3 ∧ 3 < (List.length y1 : Int) then (if (0 : Int) ≤ y2 ∧ y2 < (ByteArray.size (List.getD y1 (3 : Int).toNat ByteArray.empty) : Int) then (if (List.length ([] : List (Int)) + List.length ([(IntKind.i64.wrap ((IntKind.i64.wrap ((List.getD (ByteArray.data (List.getD y1 (3 : Int).toNat ByteArray.empty)).toList (y2 : Int).toNat 0).toNat : Int)) - 48))] : List (Int))) * 8 ≤ 140737488355328 then (s_ReadPlace_l6 y0 y1 (IntKind.i64.wrap (y2 + 1)) y3 y4 y5 (([] : List (Int)) ++ ([(IntKind.i64.wrap ((IntKind.i64.wrap ((List.getD (ByteArray.data (List.getD y1 (3 : Int).toNat ByteArray.empty)).toList (y2 : Int).toNat 0).toNat : Int)) - 48))] : List (Int)))) else none) else none) else none) (s_ReadPlace_j7 y0 y3 y4 y5)) else none) := by
  refine (loopK_eq Tryd.prog (s_ReadPlace_E) (sub (Tryd.f19.body.getD .skip) [1, 1, 1, 1, 1, 1, 0, 1, 0, 0]) _ _).trans ?_
  kernel_rfl
theorem s_ReadPlace_j5_eq (y0 : ByteArray) (y1 : List (ByteArray)) (y2 : List (ByteArray)) (y3 : Int) (y4 : Int) (y5 : Int) (y6 : Int) (y7 : Int) (y8 : List (Int)) : s_ReadPlace_j5 y0 y1 y2 y3 y4 y5 y6 y7 y8 = (if (0 : Int) ≤ y5 ∧ y5 < (List.length y8 : Int) then (if y4 < 0 then none else (if (0 : Int) ≤ y5 ∧ y5 < (List.length y8 : Int) then (s_ReadPlace_l0 y0 y1 y2 (IntKind.i64.wrap (y3 + 1)) y6 y7 (List.set y8 (y5 : Int).toNat (Go.bits .or IntKind.i64 (List.getD y8 (y5 : Int).toNat 0) (IntKind.i64.wrap (1 * 2 ^ min (y4 : Int).toNat IntKind.i64.bits))))) else none)) else none) := by
  kernel_rfl
theorem s_ReadPlace_l6_eq (y0 : ByteArray) (y1 : List (ByteArray)) (y2 : Int) (y3 : Int) (y4 : Int) (y5 : List (Int)) (y6 : List (Int)) : s_ReadPlace_l6 y0 y1 y2 y3 y4 y5 y6 = (if (0 : Int) ≤ 3 ∧ 3 < (List.length y1 : Int) then (cond ((decide (y2 < (ByteArray.size (List.getD y1 (3 : Int).toNat ByteArray.empty) : Int)))) (if (0 : Int) ≤ 3 ∧ 3 < (List.length y1 : Int) then (if (0 : Int) ≤ y2 ∧ y2 < (ByteArray.size (List.getD y1 (3 : Int).toNat ByteArray.empty) : Int) then (if (List.length y6 + List.length ([(IntKind.i64.wrap ((IntKind.i64.wrap ((List.getD (ByteArray.data (List.getD y1 (3 : Int).toNat ByteArray.empty)).toList (y2 : Int).toNat 0).toNat : Int)) - 48))] : List (Int))) * 8 ≤ 140737488355328 then (s_ReadPlace_l6 y0 y1 (IntKind.i64.wrap (y2 + 1)) y3 y4 y5 (y6 ++ ([(IntKind.i64.wrap ((IntKind.i64.wrap ((List.getD (ByteArray.data (List.getD y1 (3 : Int).toNat ByteArray.empty)).toList (y2 : Int).toNat 0).toNat : Int)) - 48))] : List (Int)))) else none) else none) else none) (s_ReadPlace_j8 y0 y3 y4 y5 y6)) else none) := by
  refine (loopK_eq Tryd.prog (s_ReadPlace_E) (sub (Tryd.f19.body.getD .skip) [1, 1, 1, 1, 1, 1, 0, 1, 0, 0]) _ _).trans ?_
  kernel_rfl
theorem s_ReadPlace_j7_eq (y0 : ByteArray) (y1 : Int) (y2 : Int) (y3 : List (Int)) : s_ReadPlace_j7 y0 y1 y2 y3 = (Option.bind (s_PlaceText_f (y3, y2, [])) fun r1 => (cond ((!(ByteArray.toList r1 == ByteArray.toList y0))) (some ([], 0, [], false)) (some (y3, y2, [], true)))) := by
  kernel_rfl
theorem s_ReadPlace_j8_eq (y0 : ByteArray) (y1 : Int) (y2 : Int) (y3 : List (Int)) (y4 : List (Int)) : s_ReadPlace_j8 y0 y1 y2 y3 y4 = (Option.bind (s_PlaceText_f (y3, y2, y4)) fun r1 => (cond ((!(ByteArray.toList r1 == ByteArray.toList y0))) (some ([], 0, [], false)) (some (y3, y2, y4, true)))) := by
  kernel_rfl
theorem s_ReadPlace_ent : Entb Tryd.prog 19 := ⟨Tryd.f19, by kernel_rfl, by kernel_rfl, by kernel_rfl⟩
theorem s_ReadPlace_ok : CtrOk Tryd.prog 19 ⟨s_ReadPlace_sig, s_ReadPlace_f⟩ :=
  ctr_of (fn := Tryd.f19) (by kernel_rfl) (by kernel_rfl) (fun x : Ts s_ReadPlace_sig.pc => s_ReadPlace_E) (fun x => ⟨(fn_cons ⟨s_l1Cut_ok, s_l1Cut_ent⟩ (fn_cons ⟨s_l1Digits_ok, s_l1Digits_ent⟩ (fn_cons ⟨s_PlaceText_ok, s_PlaceText_ent⟩ (fn_cons ⟨s_l1In_ok, s_l1In_ent⟩ fn_none)))), clo_none, wr_none⟩) (fun h => by cases h) follows_ (fun _ _ => trivial)
end FN
set_option linter.unusedVariables false
namespace FN
open Go Go.Proofs
/-! (*loop.example/firingnets/spec.l20Rd).pick -/
@[reducible] def r_pick_sig : Sig := { rd := some 118, ps := [none], pc := [.view .u8, .int .i64, .int .i64], rs := [none], rc := [.int .i64, .int .i64] }
noncomputable def r_pick_E (b : List Int) : Env' := { keep := [0], rdb := b, fn := fun f => none, ck := ckT, cuts := [], mine := fun i => false }
noncomputable def r_pick_f (x : Ts r_pick_sig.pc) : Option (Ts r_pick_sig.rc) := runFn Tryd.prog (r_pick_E x.1) Tryd.f67 r_pick_sig x
theorem r_pick_f_eq (x0 : (List (Int))) (x1 : (Int)) (x2 : (Int)) : r_pick_f (x0, x1, x2) = (cond ((decide (x2 < 1))) (if 118 = 118 ∧ x0 = x0 then (some (0, (IntKind.i64.wrap (x1 + 1)))) else none) (cond (((List.length x0 : Int) == 0)) (if 118 = 118 ∧ x0 = x0 then (some (0, (IntKind.i64.wrap (x1 + 1)))) else none) (cond ((decide ((IntKind.i64.wrap ((IntKind.i64.wrap (x1 + 1)) - 1)) < (List.length x0 : Int)))) (if (0 : Int) ≤ (IntKind.i64.wrap ((IntKind.i64.wrap (x1 + 1)) - 1)) ∧ (IntKind.i64.wrap ((IntKind.i64.wrap (x1 + 1)) - 1)) < (List.length x0 : Int) then (if x2 = 0 then none else (if 118 = 118 ∧ x0 = x0 then (some ((Int.tmod (IntKind.i64.wrap (List.getD x0 ((IntKind.i64.wrap ((IntKind.i64.wrap (x1 + 1)) - 1)) : Int).toNat 0)) x2), (IntKind.i64.wrap (x1 + 1)))) else none)) else none) (if (List.length x0 : Int) = 0 then none else (if (0 : Int) ≤ (Int.tmod (IntKind.i64.wrap ((IntKind.i64.wrap (x1 + 1)) - 1)) (List.length x0 : Int)) ∧ (Int.tmod (IntKind.i64.wrap ((IntKind.i64.wrap (x1 + 1)) - 1)) (List.length x0 : Int)) < (List.length x0 : Int) then (if (List.length x0 : Int) = 0 then none else (if (0 : Int) ≤ (Int.tmod (IntKind.i64.wrap ((IntKind.i64.wrap ((IntKind.i64.wrap ((IntKind.i64.wrap (x1 + 1)) - 1)) * 7)) + 3)) (List.length x0 : Int)) ∧ (Int.tmod (IntKind.i64.wrap ((IntKind.i64.wrap ((IntKind.i64.wrap ((IntKind.i64.wrap (x1 + 1)) - 1)) * 7)) + 3)) (List.length x0 : Int)) < (List.length x0 : Int) then (if (List.length x0 : Int) = 0 then none else (if x2 = 0 then none else (if 118 = 118 ∧ x0 = x0 then (some ((Int.tmod (Go.bits .xor IntKind.i64 (IntKind.i64.wrap ((IntKind.i64.wrap ((IntKind.i64.wrap ((IntKind.i64.wrap ((IntKind.i64.wrap (List.getD x0 ((Int.tmod (IntKind.i64.wrap ((IntKind.i64.wrap (x1 + 1)) - 1)) (List.length x0 : Int)) : Int).toNat 0)) * 131)) + (IntKind.i64.wrap ((IntKind.i64.wrap (List.getD x0 ((Int.tmod (IntKind.i64.wrap ((IntKind.i64.wrap ((IntKind.i64.wrap ((IntKind.i64.wrap (x1 + 1)) - 1)) * 7)) + 3)) (List.length x0 : Int)) : Int).toNat 0)) * 1117)))) + (IntKind.i64.wrap ((IntKind.i64.wrap ((IntKind.i64.wrap (x1 + 1)) - 1)) * 29)))) + (IntKind.i64.wrap ((IntKind.i64.wrap (Int.tdiv (IntKind.i64.wrap ((IntKind.i64.wrap (x1 + 1)) - 1)) (List.length x0 : Int))) * 53)))) (IntKind.i64.wrap (Int.tdiv (IntKind.i64.wrap ((IntKind.i64.wrap ((IntKind.i64.wrap ((IntKind.i64.wrap ((IntKind.i64.wrap (List.getD x0 ((Int.tmod (IntKind.i64.wrap ((IntKind.i64.wrap (x1 + 1)) - 1)) (List.length x0 : Int)) : Int).toNat 0)) * 131)) + (IntKind.i64.wrap ((IntKind.i64.wrap (List.getD x0 ((Int.tmod (IntKind.i64.wrap ((IntKind.i64.wrap ((IntKind.i64.wrap ((IntKind.i64.wrap (x1 + 1)) - 1)) * 7)) + 3)) (List.length x0 : Int)) : Int).toNat 0)) * 1117)))) + (IntKind.i64.wrap ((IntKind.i64.wrap ((IntKind.i64.wrap (x1 + 1)) - 1)) * 29)))) + (IntKind.i64.wrap ((IntKind.i64.wrap (Int.tdiv (IntKind.i64.wrap ((IntKind.i64.wrap (x1 + 1)) - 1)) (List.length x0 : Int))) * 53)))) 64))) x2), (IntKind.i64.wrap (x1 + 1)))) else none))) else none)) else none))))) := by
  kernel_rfl
theorem r_pick_ent : Entb Tryd.prog 67 := ⟨Tryd.f67, by kernel_rfl, by kernel_rfl, by kernel_rfl⟩
theorem r_pick_ok : CtrOk Tryd.prog 67 ⟨r_pick_sig, r_pick_f⟩ :=
  ctr_of (fn := Tryd.f67) (by kernel_rfl) (by kernel_rfl) (fun x : Ts r_pick_sig.pc => r_pick_E x.1) (fun x => ⟨fn_none, clo_none, wr_none⟩) (fun _ x => ⟨rfl, fun b ps h => rd_head h⟩) follows_ (fun _ _ => trivial)
end FN
set_option linter.unusedVariables false
namespace FN
open Go Go.Proofs
/-! loop.example/firingnets/spec.l20Open -/
@[reducible] def s_l20Open_sig : Sig := { ps := [none], pc := [.view .u8], nw := some 118, rs := [none], rc := [.view .u8, .int .i64] }
noncomputable def s_l20Open_E : Env' := { fn := fun f => none, ck := ckT, cuts := [], mine := fun i => false }
noncomputable def s_l20Open_f (x : Ts s_l20Open_sig.pc) : Option (Ts s_l20Open_sig.rc) := runFn Tryd.prog (s_l20Open_E) Tryd.f64 s_l20Open_sig x
theorem s_l20Open_f_eq (x0 : (List (Int))) : s_l20Open_f x0 = (cond ((decide (2000 < (List.length x0 : Int)))) (if (0 : Int) ≤ 2000 ∧ 2000 ≤ (List.length x0 : Int) then (some ((List.drop 0 (List.take ((2000 : Int).toNat) x0)), 0)) else none) (some (x0, 0))) := by
  kernel_rfl
theorem s_l20Open_ent : Entb Tryd.prog 64 := ⟨Tryd.f64, by kernel_rfl, by kernel_rfl, by kernel_rfl⟩
theorem s_l20Open_ok : CtrOk Tryd.prog 64 ⟨s_l20Open_sig, s_l20Open_f⟩ :=
  ctr_of (fn := Tryd.f64) (by kernel_rfl) (by kernel_rfl) (fun x : Ts s_l20Open_sig.pc => s_l20Open_E) (fun x => ⟨fn_none, clo_none, wr_none⟩) (fun h => by cases h) follows_ (fun _ _ => trivial)
end FN
set_option linter.unusedVariables false
namespace FN
open Go Go.Proofs
/-! (*loop.example/firingnets/spec.l20Rd).odd -/
@[reducible] def r_odd_sig : Sig := { rd := some 118, ps := [none], pc := [.view .u8, .int .i64, .int .i64], rs := [none], rc := [.bool, .int .i64] }
noncomputable def r_odd_E (b : List Int) : Env' := { keep := [0], rdb := b, fn := fun f => if f = 67 then some ⟨r_pick_sig, r_pick_f⟩ else none, ck := ckT, cuts := [], mine := fun i => false }
noncomputable def r_odd_f (x : Ts r_odd_sig.pc) : Option (Ts r_odd_sig.rc) := runFn Tryd.prog (r_odd_E x.1) Tryd.f94 r_odd_sig x
theorem r_odd_f_eq (x0 : (List (Int))) (x1 : (Int)) (x2 : (Int)) : r_odd_f (x0, x1, x2) = (cond ((decide (0 < x2))) (Option.bind (r_pick_f (x0, x1, x2)) fun r1 => (if 118 = 118 ∧ x0 = x0 then (some ((r1.1 == (IntKind.i64.wrap (x2 - 1))), r1.2)) else none)) (if 118 = 118 ∧ x0 = x0 then (some (false, x1)) else none)) := by
  kernel_rfl
theorem r_odd_ent : Entb Tryd.prog 94 := ⟨Tryd.f94, by kernel_rfl, by kernel_rfl, by kernel_rfl⟩
theorem r_odd_ok : CtrOk Tryd.prog 94 ⟨r_odd_sig, r_odd_f⟩ :=
  ctr_of (fn := Tryd.f94) (by kernel_rfl) (by kernel_rfl) (fun x : Ts r_odd_sig.pc => r_odd_E x.1) (fun x => ⟨(fn_cons ⟨r_pick_ok, r_pick_ent⟩ fn_none), clo_none, wr_none⟩) (fun _ x => ⟨rfl, fun b ps h => rd_head h⟩) follows_ (fun _ _ => trivial)
end FN
set_option linter.unusedVariables false
namespace FN
open Go Go.Proofs
/-! loop.example/firingnets/spec.PathNet -/
@[reducible] def s_PathNet_sig : Sig := { ps := [none], pc := [.int .i64], rs := [none], rc := [.row 3 .i64] }
noncomputable def s_PathNet_E : Env' := { fn := fun f => if f = 69 then some ⟨s_l1In_sig, s_l1In_f⟩ else none, ck := ckT, cuts := [(3, [0, 3, 4]), (8, [0, 3, 4, 5])], mine := fun i => false }
noncomputable def s_PathNet_f (x : Ts s_PathNet_sig.pc) : Option (Ts s_PathNet_sig.rc) := runFn Tryd.prog (s_PathNet_E) Tryd.f130 s_PathNet_sig x
noncomputable def s_PathNet_l0 (y0 : Int) (y1 : Int) (y2 : List (Int)) : Option ((List (Int))) := from_ Tryd.prog (s_PathNet_E) Tryd.f130 s_PathNet_sig [1, 1, 0, 1, 0] ⟨mkT 37 [(0, .int .i64 y0), (3, .own 0), (4, .int .i64 y1)], [some (.arr 3 true .i64 y2)]⟩
noncomputable def s_PathNet_j1 (y0 : Int) (y1 : Int) (y2 : Int) (y3 : List (Int)) : Option ((List (Int))) := from_ Tryd.prog (s_PathNet_E) Tryd.f130 s_PathNet_sig [1, 1, 0, 1, 0, 0, 1, 0, 0, 1, 1] ⟨mkT 37 [(0, .int .i64 y0), (3, .own 0), (4, .int .i64 y1), (5, .int .i64 y2)], [some (.arr 3 true .i64 y3)]⟩
theorem s_PathNet_f_eq (x0 : (Int)) : s_PathNet_f x0 = (s_PathNet_l0 x0 0 ([] : List (Int))) := by
  kernel_rfl
theorem s_PathNet_l0_eq (y0 : Int) (y1 : Int) (y2 : List (Int)) : s_PathNet_l0 y0 y1 y2 = (cond ((decide (y1 < y0))) (Option.bind (s_l1In_f (y0, 1, 6)) fun r1 => (cond (r1) (cond ((decide (0 < y1))) (if (IntKind.i64.wrap (y1 - 1)) < 0 then none else (s_PathNet_j1 y0 y1 (Go.bits .or IntKind.i64 0 (IntKind.i64.wrap (1 * 2 ^ min ((IntKind.i64.wrap (y1 - 1)) : Int).toNat IntKind.i64.bits))) y2)) (s_PathNet_j1 y0 y1 0 y2)) (some y2))) (some y2)) := by
  refine (loopK_eq Tryd.prog (s_PathNet_E) (sub (Tryd.f130.body.getD .skip) [1, 1, 0, 1, 0, 0]) _ _).trans ?_
  kernel_rfl
theorem s_PathNet_j1_eq (y0 : Int) (y1 : Int) (y2 : Int) (y3 : List (Int)) : s_PathNet_j1 y0 y1 y2 y3 = (cond ((decide ((IntKind.i64.wrap (y1 + 1)) < y0))) (if (IntKind.i64.wrap (y1 + 1)) < 0 then none else (if (List.length y3 + List.length ([(Go.bits .or IntKind.i64 y2 (IntKind.i64.wrap (1 * 2 ^ min ((IntKind.i64.wrap (y1 + 1)) : Int).toNat IntKind.i64.bits)))] : List (Int))) * 8 ≤ 140737488355328 then (s_PathNet_l0 y0 (IntKind.i64.wrap (y1 + 1)) (y3 ++ ([(Go.bits .or IntKind.i64 y2 (IntKind.i64.wrap (1 * 2 ^ min ((IntKind.i64.wrap (y1 + 1)) : Int).toNat IntKind.i64.bits)))] : List (Int)))) else none)) (if (List.length y3 + List.length ([y2] : List (Int))) * 8 ≤ 140737488355328 then (s_PathNet_l0 y0 (IntKind.i64.wrap (y1 + 1)) (y3 ++ ([y2] : List (Int)))) else none)) := by
  kernel_rfl
theorem s_PathNet_ent : Entb Tryd.prog 130 := ⟨Tryd.f130, by kernel_rfl, by kernel_rfl, by kernel_rfl⟩
theorem s_PathNet_ok : CtrOk Tryd.prog 130 ⟨s_PathNet_sig, s_PathNet_f⟩ :=
  ctr_of (fn := Tryd.f130) (by kernel_rfl) (by kernel_rfl) (fun x : Ts s_PathNet_sig.pc => s_PathNet_E) (fun x => ⟨(fn_cons ⟨s_l1In_ok, s_l1In_ent⟩ fn_none), clo_none, wr_none⟩) (fun h => by cases h) follows_ (fun _ _ => trivial)
end FN
set_option linter.unusedVariables false
namespace FN
open Go Go.Proofs
/-! loop.example/firingnets/spec.RingNet -/
@[reducible] def s_RingNet_sig : Sig := { ps := [none], pc := [.int .i64], rs := [none], rc := [.row 3 .i64] }
noncomputable def s_RingNet_E : Env' := { fn := fun f => if f = 69 then some ⟨s_l1In_sig, s_l1In_f⟩ else none, ck := ckT, cuts := [(3, [0, 3, 4])], mine := fun i => false }
noncomputable def s_RingNet_f (x : Ts s_RingNet_sig.pc) : Option (Ts s_RingNet_sig.rc) := runFn Tryd.prog (s_RingNet_E) Tryd.f131 s_RingNet_sig x
noncomputable def s_RingNet_l0 (y0 : Int) (y1 : Int) (y2 : List (Int)) : Option ((List (Int))) := from_ Tryd.prog (s_RingNet_E) Tryd.f131 s_RingNet_sig [1, 1, 0, 1, 0] ⟨mkT 32 [(0, .int .i64 y0), (3, .own 0), (4, .int .i64 y1)], [some (.arr 3 true .i64 y2)]⟩
theorem s_RingNet_f_eq (x0 : (Int)) : s_RingNet_f x0 = (s_RingNet_l0 x0 0 ([] : List (Int))) := by
  kernel_rfl
theorem s_RingNet_l0_eq (y0 : Int) (y1 : Int) (y2 : List (Int)) : s_RingNet_l0 y0 y1 y2 = (cond ((decide (y1 < y0))) (Option.bind (s_l1In_f (y0, 3, 6)) fun r1 => (cond (r1) (if y0 = 0 then none else (if (Int.tmod (IntKind.i64.wrap (y1 + 1)) y0) < 0 then none else (if y0 = 0 then none else (if (Int.tmod (IntKind.i64.wrap ((IntKind.i64.wrap (y1 + y0)) - 1)) y0) < 0 then none else (if (List.length y2 + List.length ([(Go.bits .or IntKind.i64 (IntKind.i64.wrap (1 * 2 ^ min ((Int.tmod (IntKind.i64.wrap (y1 + 1)) y0) : Int).toNat IntKind.i64.bits)) (IntKind.i64.wrap (1 * 2 ^ min ((Int.tmod (IntKind.i64.wrap ((IntKind.i64.wrap (y1 + y0)) - 1)) y0) : Int).toNat IntKind.i64.bits)))] : List (Int))) * 8 ≤ 140737488355328 then (s_RingNet_l0 y0 (IntKind.i64.wrap (y1 + 1)) (y2 ++ ([(Go.bits .or IntKind.i64 (IntKind.i64.wrap (1 * 2 ^ min ((Int.tmod (IntKind.i64.wrap (y1 + 1)) y0) : Int).toNat IntKind.i64.bits)) (IntKind.i64.wrap (1 * 2 ^ min ((Int.tmod (IntKind.i64.wrap ((IntKind.i64.wrap (y1 + y0)) - 1)) y0) : Int).toNat IntKind.i64.bits)))] : List (Int)))) else none))))) (some y2))) (some y2)) := by
  refine (loopK_eq Tryd.prog (s_RingNet_E) (sub (Tryd.f131.body.getD .skip) [1, 1, 0, 1, 0, 0]) _ _).trans ?_
  kernel_rfl
theorem s_RingNet_ent : Entb Tryd.prog 131 := ⟨Tryd.f131, by kernel_rfl, by kernel_rfl, by kernel_rfl⟩
theorem s_RingNet_ok : CtrOk Tryd.prog 131 ⟨s_RingNet_sig, s_RingNet_f⟩ :=
  ctr_of (fn := Tryd.f131) (by kernel_rfl) (by kernel_rfl) (fun x : Ts s_RingNet_sig.pc => s_RingNet_E) (fun x => ⟨(fn_cons ⟨s_l1In_ok, s_l1In_ent⟩ fn_none), clo_none, wr_none⟩) (fun h => by cases h) follows_ (fun _ _ => trivial)
end FN
set_option linter.unusedVariables false
namespace FN
open Go Go.Proofs
/-! loop.example/firingnets/spec.l20Net -/
@[reducible] def s_l20Net_sig : Sig := { rd := some 118, ps := [none], pc := [.view .u8, .int .i64, .int .i64], rs := [none], rc := [.row 3 .i64, .int .i64] }
noncomputable def s_l20Net_E (b : List Int) : Env' := { keep := [0], rdb := b, fn := fun f => if f = 67 then some ⟨r_pick_sig, r_pick_f⟩ else if f = 94 then some ⟨r_odd_sig, r_odd_f⟩ else if f = 130 then some ⟨s_PathNet_sig, s_PathNet_f⟩ else if f = 131 then some ⟨s_RingNet_sig, s_RingNet_f⟩ else none, ck := ckT, cuts := [(9, [0, 1, 5, 6]), (10, [0, 1, 5, 6, 7]), (17, [0, 1, 5, 6])], mine := fun i => i == 11 || i == 14 || i == 16 || i == 22 || i == 28 || i == 35 || i == 38 || i == 64 || i == 66 }
noncomputable def s_l20Net_f (x : Ts s_l20Net_sig.pc) : Option (Ts s_l20Net_sig.rc) := runFn Tryd.prog (s_l20Net_E x.1) Tryd.f100 s_l20Net_sig x
noncomputable def s_l20Net_j0 (b : List Int) (y0 : Int) (y1 : Int) (y2 : List (Int)) (y3 : Int) (y4 : List (Int)) : Option ((List (Int)) × (Int)) := from_ Tryd.prog (s_l20Net_E b) Tryd.f100 s_l20Net_sig [1, 1, 1, 1] ⟨mkT 92 [(0, .ptr 0 0), (1, .int .i64 y0), (5, .int .i64 y1), (6, .own 1)], [some (.box 118 [.row false .u8 y2, .int .i64 y3]), some (.arr 3 true .i64 y4)]⟩
noncomputable def s_l20Net_l1 (b : List Int) (y0 : Int) (y1 : Int) (y2 : Int) (y3 : List (Int)) (y4 : Int) (y5 : List (Int)) : Option ((List (Int)) × (Int)) := from_ Tryd.prog (s_l20Net_E b) Tryd.f100 s_l20Net_sig [1, 1, 1, 1, 0, 1, 0] ⟨mkT 92 [(0, .ptr 0 0), (1, .int .i64 y0), (5, .int .i64 y1), (6, .own 1), (7, .int .i64 y2)], [some (.box 118 [.row false .u8 y3, .int .i64 y4]), some (.arr 3 true .i64 y5)]⟩
noncomputable def s_l20Net_j2 (b : List Int) (y0 : Int) (y1 : Int) (y2 : List (Int)) (y3 : Int) (y4 : List (Int)) : Option ((List (Int)) × (Int)) := from_ Tryd.prog (s_l20Net_E b) Tryd.f100 s_l20Net_sig [1, 1, 1, 1, 1] ⟨mkT 92 [(0, .ptr 0 0), (1, .int .i64 y0), (5, .int .i64 y1), (6, .own 1)], [some (.box 118 [.row false .u8 y2, .int .i64 y3]), some (.arr 3 true .i64 y4)]⟩
theorem s_l20Net_f_eq (x0 : (List (Int))) (x1 : (Int)) (x2 : (Int)) : s_l20Net_f (x0, x1, x2) = (Option.bind (r_pick_f (x0, x1, 6)) fun r1 => (Option.bind (s_PathNet_f (IntKind.i64.wrap (1 + r1.1))) fun r2 => (Option.bind (r_pick_f (x0, r1.2, 4)) fun r3 => (cond ((r3.1 == 0)) (cond ((decide (3 ≤ (IntKind.i64.wrap (1 + r1.1))))) (Option.bind (s_RingNet_f (IntKind.i64.wrap (1 + r1.1))) fun r4 => (s_l20Net_j0 x0 x2 (IntKind.i64.wrap (1 + r1.1)) x0 r3.2 r4)) (s_l20Net_j0 x0 x2 (IntKind.i64.wrap (1 + r1.1)) x0 r3.2 r2)) (cond ((r3.1 == 1)) (if (0 : Int) ≤ (IntKind.i64.wrap (1 + r1.1)) ∧ (IntKind.i64.wrap (1 + r1.1)) * 8 ≤ 140737488355328 ∧ (IntKind.i64.wrap (1 + r1.1)) ≤ 140737488355328 then (s_l20Net_j0 x0 x2 (IntKind.i64.wrap (1 + r1.1)) x0 r3.2 (List.replicate ((IntKind.i64.wrap (1 + r1.1)) : Int).toNat 0 : List (Int))) else none) (s_l20Net_j0 x0 x2 (IntKind.i64.wrap (1 + r1.1)) x0 r3.2 r2)))))) := by
  kernel_rfl
theorem s_l20Net_j0_eq (b : List Int) (y0 : Int) (y1 : Int) (y2 : List (Int)) (y3 : Int) (y4 : List (Int)) : s_l20Net_j0 b y0 y1 y2 y3 y4 = (Option.bind (r_pick_f (y2, y3, 6)) fun r1 => (s_l20Net_l1 b y0 y1 r1.1 y2 r1.2 y4)) := by
  kernel_rfl
theorem s_l20Net_l1_eq (b : List Int) (y0 : Int) (y1 : Int) (y2 : Int) (y3 : List (Int)) (y4 : Int) (y5 : List (Int)) : s_l20Net_l1 b y0 y1 y2 y3 y4 y5 = (cond ((decide (0 < y2))) (Option.bind (r_pick_f (y3, y4, y1)) fun r1 => (Option.bind (r_pick_f (y3, r1.2, y1)) fun r2 => (cond ((r1.1 != r2.1)) (if (0 : Int) ≤ r1.1 ∧ r1.1 < (List.length y5 : Int) then (if r2.1 < 0 then none else (if (0 : Int) ≤ r1.1 ∧ r1.1 < (List.length y5 : Int) then (if (0 : Int) ≤ r2.1 ∧ r2.1 < (List.length (List.set y5 (r1.1 : Int).toNat (Go.bits .or IntKind.i64 (List.getD y5 (r1.1 : Int).toNat 0) (IntKind.i64.wrap (1 * 2 ^ min (r2.1 : Int).toNat IntKind.i64.bits)))) : Int) then (if r1.1 < 0 then none else (if (0 : Int) ≤ r2.1 ∧ r2.1 < (List.length (List.set y5 (r1.1 : Int).toNat (Go.bits .or IntKind.i64 (List.getD y5 (r1.1 : Int).toNat 0) (IntKind.i64.wrap (1 * 2 ^ min (r2.1 : Int).toNat IntKind.i64.bits)))) : Int) then (s_l20Net_l1 b y0 y1 (IntKind.i64.wrap (y2 - 1)) y3 r2.2 (List.set (List.set y5 (r1.1 : Int).toNat (Go.bits .or IntKind.i64 (List.getD y5 (r1.1 : Int).toNat 0) (IntKind.i64.wrap (1 * 2 ^ min (r2.1 : Int).toNat IntKind.i64.bits)))) (r2.1 : Int).toNat (Go.bits .or IntKind.i64 (List.getD (List.set y5 (r1.1 : Int).toNat (Go.bits .or IntKind.i64 (List.getD y5 (r1.1 : Int).toNat 0) (IntKind.i64.wrap (1 * 2 ^ min (r2.1 : Int).toNat IntKind.i64.bits)))) (r2.1 : Int).toNat 0) (IntKind.i64.wrap (1 * 2 ^ min (r1.1 : Int).toNat IntKind.i64.bits))))) else none)) else none) else none)) else none) (s_l20Net_l1 b y0 y1 (IntKind.i64.wrap (y2 - 1)) y3 r2.2 y5)))) (s_l20Net_j2 b y0 y1 y3 y4 y5)) := by
  refine (loopK_eq Tryd.prog (s_l20Net_E b) (sub (Tryd.f100.body.getD .skip) [1, 1, 1, 1, 0, 1, 0, 0]) _ _).trans ?_
  kernel_rfl
theorem s_l20Net_j2_eq (b : List Int) (y0 : Int) (y1 : Int) (y2 : List (Int)) (y3 : Int) (y4 : List (Int)) : s_l20Net_j2 b y0 y1 y2 y3 y4 = (Option.bind (r_odd_f (y2, y3, y0)) fun r1 => (cond (r1.1) (Option.bind (r_pick_f (y2, r1.2, 3)) fun r2 => (cond ((r2.1 == 0)) (if 118 = 118 ∧ y2 = b then (some (([] : List (Int)), r2.2)) else none) (cond ((r2.1 == 1)) (if (0 : Int) ≤ 0 ∧ 0 < (List.length y4 : Int) then (if (0 : Int) ≤ 0 ∧ 0 < (List.length y4 : Int) then (if 118 = 118 ∧ y2 = b then (some ((List.set y4 (0 : Int).toNat (Go.bits .or IntKind.i64 (List.getD y4 (0 : Int).toNat 0) 1)), r2.2)) else none) else none) else none) (if (0 : Int) ≤ 0 ∧ 0 < (List.length y4 : Int) then (if (IntKind.i64.wrap (y1 - 1)) < 0 then none else (if (0 : Int) ≤ 0 ∧ 0 < (List.length y4 : Int) then (cond ((y1 == 1)) (if (0 : Int) ≤ 0 ∧ 0 < (List.length (List.set y4 (0 : Int).toNat (Go.bits .xor IntKind.i64 (List.getD y4 (0 : Int).toNat 0) (IntKind.i64.wrap (1 * 2 ^ min ((IntKind.i64.wrap (y1 - 1)) : Int).toNat IntKind.i64.bits)))) : Int) then (if 118 = 118 ∧ y2 = b then (some ((List.set (List.set y4 (0 : Int).toNat (Go.bits .xor IntKind.i64 (List.getD y4 (0 : Int).toNat 0) (IntKind.i64.wrap (1 * 2 ^ min ((IntKind.i64.wrap (y1 - 1)) : Int).toNat IntKind.i64.bits)))) (0 : Int).toNat (-1)), r2.2)) else none) else none) (if 118 = 118 ∧ y2 = b then (some ((List.set y4 (0 : Int).toNat (Go.bits .xor IntKind.i64 (List.getD y4 (0 : Int).toNat 0) (IntKind.i64.wrap (1 * 2 ^ min ((IntKind.i64.wrap (y1 - 1)) : Int).toNat IntKind.i64.bits)))), r2.2)) else none)) else none)) else none)))) (if 118 = 118 ∧ y2 = b then (some (y4, r1.2)) else none))) := by
  kernel_rfl
theorem s_l20Net_ent : Entb Tryd.prog 100 := ⟨Tryd.f100, by kernel_rfl, by kernel_rfl, by kernel_rfl⟩
theorem s_l20Net_ok : CtrOk Tryd.prog 100 ⟨s_l20Net_sig, s_l20Net_f⟩ :=
  ctr_of (fn := Tryd.f100) (by kernel_rfl) (by kernel_rfl) (fun x : Ts s_l20Net_sig.pc => s_l20Net_E x.1) (fun x => ⟨(fn_cons ⟨r_pick_ok, r_pick_ent⟩ (fn_cons ⟨r_odd_ok, r_odd_ent⟩ (fn_cons ⟨s_PathNet_ok, s_PathNet_ent⟩ (fn_cons ⟨s_RingNet_ok, s_RingNet_ent⟩ fn_none)))), clo_none, wr_none⟩) (fun _ x => ⟨rfl, fun b ps h => rd_head h⟩) follows_ (fun _ _ => trivial)
end FN
set_option linter.unusedVariables false
namespace FN
open Go Go.Proofs
/-! loop.example/firingnets/spec.l20State -/
@[reducible] def s_l20State_sig : Sig := { rd := some 118, ps := [none, none, none], pc := [.view .u8, .int .i64, .int .i64, .int .i64, .int .i64], rs := [none], rc := [.row 3 .i64, .int .i64] }
noncomputable def s_l20State_E (b : List Int) : Env' := { keep := [0], rdb := b, fn := fun f => if f = 67 then some ⟨r_pick_sig, r_pick_f⟩ else if f = 94 then some ⟨r_odd_sig, r_odd_f⟩ else none, ck := ckT, cuts := [(4, [0, 1, 2, 3, 9, 10, 11]), (9, [0, 2, 3, 9])], mine := fun i => false }
noncomputable def s_l20State_f (x : Ts s_l20State_sig.pc) : Option (Ts s_l20State_sig.rc) := runFn Tryd.prog (s_l20State_E x.1) Tryd.f101 s_l20State_sig x
noncomputable def s_l20State_l0 (b : List Int) (y0 : Int) (y1 : Int) (y2 : Int) (y3 : Int) (y4 : Int) (y5 : List (Int)) (y6 : Int) (y7 : List (Int)) : Option ((List (Int)) × (Int)) := from_ Tryd.prog (s_l20State_E b) Tryd.f101 s_l20State_sig [1, 1, 1, 0, 1, 0] ⟨mkT 52 [(0, .ptr 0 0), (1, .int .i64 y0), (2, .int .i64 y1), (3, .int .i64 y2), (9, .own 1), (10, .int .i64 y3), (11, .int .i64 y4)], [some (.box 118 [.row false .u8 y5, .int .i64 y6]), some (.arr 3 true .i64 y7)]⟩
noncomputable def s_l20State_j1 (b : List Int) (y0 : Int) (y1 : Int) (y2 : List (Int)) (y3 : Int) (y4 : List (Int)) : Option ((List (Int)) × (Int)) := from_ Tryd.prog (s_l20State_E b) Tryd.f101 s_l20State_sig [1, 1, 1, 1] ⟨mkT 52 [(0, .ptr 0 0), (2, .int .i64 y0), (3, .int .i64 y1), (9, .own 1)], [some (.box 118 [.row false .u8 y2, .int .i64 y3]), some (.arr 3 true .i64 y4)]⟩
theorem s_l20State_f_eq (x0 : (List (Int))) (x1 : (Int)) (x2 : (Int)) (x3 : (Int)) (x4 : (Int)) : s_l20State_f (x0, x1, x2, x3, x4) = (Option.bind (r_pick_f (x0, x1, 3)) fun r1 => (s_l20State_l0 x0 x2 x3 x4 r1.1 0 x0 r1.2 ([] : List (Int)))) := by
  kernel_rfl
theorem s_l20State_l0_eq (b : List Int) (y0 : Int) (y1 : Int) (y2 : Int) (y3 : Int) (y4 : Int) (y5 : List (Int)) (y6 : Int) (y7 : List (Int)) : s_l20State_l0 b y0 y1 y2 y3 y4 y5 y6 y7 = (cond ((decide (y4 < y0))) (cond ((decide (0 < y3))) (Option.bind (r_pick_f (y5, y6, 3)) fun r1 => (cond ((decide (r1.1 < y3))) (if (List.length y7 + List.length ([0] : List (Int))) * 8 ≤ 140737488355328 then (s_l20State_l0 b y0 y1 y2 y3 (IntKind.i64.wrap (y4 + 1)) y5 r1.2 (y7 ++ ([0] : List (Int)))) else none) (Option.bind (r_pick_f (y5, r1.2, y1)) fun r2 => (if (List.length y7 + List.length ([r2.1] : List (Int))) * 8 ≤ 140737488355328 then (s_l20State_l0 b y0 y1 y2 y3 (IntKind.i64.wrap (y4 + 1)) y5 r2.2 (y7 ++ ([r2.1] : List (Int)))) else none)))) (Option.bind (r_pick_f (y5, y6, y1)) fun r3 => (if (List.length y7 + List.length ([r3.1] : List (Int))) * 8 ≤ 140737488355328 then (s_l20State_l0 b y0 y1 y2 y3 (IntKind.i64.wrap (y4 + 1)) y5 r3.2 (y7 ++ ([r3.1] : List (Int)))) else none))) (s_l20State_j1 b y1 y2 y5 y6 y7)) := by
  refine (loopK_eq Tryd.prog (s_l20State_E b) (sub (Tryd.f101.body.getD .skip) [1, 1, 1, 0, 1, 0, 0]) _ _).trans ?_
  kernel_rfl
theorem s_l20State_j1_eq (b : List Int) (y0 : Int) (y1 : Int) (y2 : List (Int)) (y3 : Int) (y4 : List (Int)) : s_l20State_j1 b y0 y1 y2 y3 y4 = (Option.bind (r_odd_f (y2, y3, y1)) fun r1 => (cond (r1.1) (Option.bind (r_pick_f (y2, r1.2, 2)) fun r2 => (cond ((r2.1 == 0)) (if 118 = 118 ∧ y2 = b then (some (([] : List (Int)), r2.2)) else none) (if (0 : Int) ≤ (IntKind.i64.wrap ((List.length y4 : Int) - 1)) ∧ (IntKind.i64.wrap ((List.length y4 : Int) - 1)) < (List.length y4 : Int) then (if 118 = 118 ∧ y2 = b then (some ((List.set y4 ((IntKind.i64.wrap ((List.length y4 : Int) - 1)) : Int).toNat y0), r2.2)) else none) else none))) (if 118 = 118 ∧ y2 = b then (some (y4, r1.2)) else none))) := by
  kernel_rfl
theorem s_l20State_ent : Entb Tryd.prog 101 := ⟨Tryd.f101, by kernel_rfl, by kernel_rfl, by kernel_rfl⟩
theorem s_l20State_ok : CtrOk Tryd.prog 101 ⟨s_l20State_sig, s_l20State_f⟩ :=
  ctr_of (fn := Tryd.f101) (by kernel_rfl) (by kernel_rfl) (fun x : Ts s_l20State_sig.pc => s_l20State_E x.1) (fun x => ⟨(fn_cons ⟨r_pick_ok, r_pick_ent⟩ (fn_cons ⟨r_odd_ok, r_odd_ent⟩ fn_none)), clo_none, wr_none⟩) (fun _ x => ⟨rfl, fun b ps h => rd_head h⟩) follows_ (fun _ _ => trivial)
end FN
set_option linter.unusedVariables false
namespace FN
open Go Go.Proofs
/-! loop.example/firingnets/spec.l20Place -/
@[reducible] def s_l20Place_sig : Sig := { rd := some 118, ps := [none], pc := [.view .u8, .int .i64, .int .i64], rs := [some 3], rc := [.row 3 .i64, .int .i64, .row 3 .i64, .int .i64] }
noncomputable def s_l20Place_E (b : List Int) : Env' := { keep := [0], rdb := b, fn := fun f => if f = 67 then some ⟨r_pick_sig, r_pick_f⟩ else if f = 94 then some ⟨r_odd_sig, r_odd_f⟩ else if f = 100 then some ⟨s_l20Net_sig, s_l20Net_f⟩ else if f = 101 then some ⟨s_l20State_sig, s_l20State_f⟩ else none, ck := ckT, cuts := [], mine := fun i => i == 7 || i == 9 || i == 11 || i == 21 || i == 25 || i == 27 || i == 40 }
noncomputable def s_l20Place_f (x : Ts s_l20Place_sig.pc) : Option (Ts s_l20Place_sig.rc) := runFn Tryd.prog (s_l20Place_E x.1) Tryd.f66 s_l20Place_sig x
theorem s_l20Place_f_eq (x0 : (List (Int))) (x1 : (Int)) (x2 : (Int)) : s_l20Place_f (x0, x1, x2) = (Option.bind (s_l20Net_f (x0, x1, 0)) fun r1 => (Option.bind (r_pick_f (x0, r1.2, 3)) fun r2 => (Option.bind (r_pick_f (x0, r2.2, 2)) fun r3 => (Option.bind (s_l20State_f (x0, r3.2, (List.length r1.1 : Int), (IntKind.i64.wrap (3 + (IntKind.i64.wrap (r2.1 * r3.1)))), 0)) fun r4 => (Option.bind (r_odd_f (x0, r4.2, x2)) fun r5 => (cond (r5.1) (Option.bind (r_pick_f (x0, r5.2, 3)) fun r6 => (cond ((r6.1 == 0)) (if (List.length r4.1 + List.length ([0] : List (Int))) * 8 ≤ 140737488355328 then (if 118 = 118 ∧ x0 = x0 then (some (r1.1, (IntKind.i64.wrap (3 + (IntKind.i64.wrap (r2.1 * r3.1)))), (r4.1 ++ ([0] : List (Int))), r6.2)) else none) else none) (cond ((r6.1 == 1)) (Option.bind (r_pick_f (x0, r6.2, 2)) fun r7 => (if (0 : Int) ≤ r7.1 ∧ r7.1 < (List.length ([2, 6] : List (Int)) : Int) then (if 118 = 118 ∧ x0 = x0 then (some (r1.1, (List.getD ([2, 6] : List (Int)) (r7.1 : Int).toNat 0), r4.1, r7.2)) else none) else none)) (if 118 = 118 ∧ x0 = x0 then (some ([], 0, [], r6.2)) else none)))) (if 118 = 118 ∧ x0 = x0 then (some (r1.1, (IntKind.i64.wrap (3 + (IntKind.i64.wrap (r2.1 * r3.1)))), r4.1, r5.2)) else none))))))) := by
  kernel_rfl
theorem s_l20Place_ent : Entb Tryd.prog 66 := ⟨Tryd.f66, by kernel_rfl, by kernel_rfl, by kernel_rfl⟩
theorem s_l20Place_ok : CtrOk Tryd.prog 66 ⟨s_l20Place_sig, s_l20Place_f⟩ :=
  ctr_of (fn := Tryd.f66) (by kernel_rfl) (by kernel_rfl) (fun x : Ts s_l20Place_sig.pc => s_l20Place_E x.1) (fun x => ⟨(fn_cons ⟨r_pick_ok, r_pick_ent⟩ (fn_cons ⟨r_odd_ok, r_odd_ent⟩ (fn_cons ⟨s_l20Net_ok, s_l20Net_ent⟩ (fn_cons ⟨s_l20State_ok, s_l20State_ent⟩ fn_none)))), clo_none, wr_none⟩) (fun _ x => ⟨rfl, fun b ps h => rd_head h⟩) follows_ (fun _ _ => trivial)
end FN
set_option linter.unusedVariables false
namespace FN
open Go Go.Proofs
/-! loop.example/firingnets/laws.sameInts -/
@[reducible] def w_sameInts_sig : Sig := { ps := [none, none], pc := [.view .i64, .view .i64], rs := [none], rc := [.bool] }
noncomputable def w_sameInts_E : Env' := { fn := fun f => none, ck := ckT, cuts := [(4, [0, 1, 5])], mine := fun i => false }
noncomputable def w_sameInts_f (x : Ts w_sameInts_sig.pc) : Option (Ts w_sameInts_sig.rc) := runFn Tryd.prog (w_sameInts_E) Tryd.f70 w_sameInts_sig x
noncomputable def w_sameInts_l0 (y0 : List (Int)) (y1 : List (Int)) (y2 : Int) : Option ((Bool)) := from_ Tryd.prog (w_sameInts_E) Tryd.f70 w_sameInts_sig [1, 1, 0, 1, 0] ⟨mkT 26 [(0, .row false .i64 y0), (1, .row false .i64 y1), (5, .int .i64 y2)], []⟩
theorem w_sameInts_f_eq (x0 : (List (Int))) (x1 : (List (Int))) : w_sameInts_f (x0, x1) = (cond (((List.length x0 : Int) != (List.length x1 : Int))) (some false) (w_sameInts_l0 x0 x1 0)) := by
  kernel_rfl
theorem w_sameInts_l0_eq (y0 : List (Int)) (y1 : List (Int)) (y2 : Int) : w_sameInts_l0 y0 y1 y2 = (cond ((decide (y2 < (List.length y0 : Int)))) (if (0 : Int) ≤ y2 ∧ y2 < (List.length y0 : Int) then (if (0 : Int) ≤ y2 ∧ y2 < (List.length y1 : Int) then (cond (((List.getD y0 (y2 : Int).toNat 0) != (List.getD y1 (y2 : Int).toNat 0))) (some false) (w_sameInts_l0 y0 y1 (IntKind.i64.wrap (y2 + 1)))) else none) else none) (some true)) := by
  refine (loopK_eq Tryd.prog (w_sameInts_E) (sub (Tryd.f70.body.getD .skip) [1, 1, 0, 1, 0, 0]) _ _).trans ?_
  kernel_rfl
theorem w_sameInts_ent : Entb Tryd.prog 70 := ⟨Tryd.f70, by kernel_rfl, by kernel_rfl, by kernel_rfl⟩
theorem w_sameInts_ok : CtrOk Tryd.prog 70 ⟨w_sameInts_sig, w_sameInts_f⟩ :=
  ctr_of (fn := Tryd.f70) (by kernel_rfl) (by kernel_rfl) (fun x : Ts w_sameInts_sig.pc => w_sameInts_E) (fun x => ⟨fn_none, clo_none, wr_none⟩) (fun h => by cases h) follows_ (fun _ _ => trivial)
end FN
set_option linter.unusedVariables false
namespace FN
open Go Go.Proofs
/-! loop.example/firingnets/laws.samePlace -/
@[reducible] def w_samePlace_sig : Sig := { ps := [some 3, some 3], pc := [.view .i64, .int .i64, .view .i64, .view .i64, .int .i64, .view .i64], rs := [none], rc := [.bool] }
noncomputable def w_samePlace_E : Env' := { fn := fun f => if f = 70 then some ⟨w_sameInts_sig, w_sameInts_f⟩ else none, ck := ckT, cuts := [], mine := fun i => false }
noncomputable def w_samePlace_f (x : Ts w_samePlace_sig.pc) : Option (Ts w_samePlace_sig.rc) := runFn Tryd.prog (w_samePlace_E) Tryd.f20 w_samePlace_sig x
theorem w_samePlace_f_eq (x0 : (List (Int))) (x1 : (Int)) (x2 : (List (Int))) (x3 : (List (Int))) (x4 : (Int)) (x5 : (List (Int))) : w_samePlace_f (x0, x1, x2, x3, x4, x5) = (Option.bind (w_sameInts_f (x0, x3)) fun r1 => (cond (r1) (cond ((x1 == x4)) (Option.bind (w_sameInts_f (x2, x5)) fun r2 => (some r2)) (some false)) (some false))) := by
  kernel_rfl
theorem w_samePlace_ent : Entb Tryd.prog 20 := ⟨Tryd.f20, by kernel_rfl, by kernel_rfl, by kernel_rfl⟩
theorem w_samePlace_ok : CtrOk Tryd.prog 20 ⟨w_samePlace_sig, w_samePlace_f⟩ :=
  ctr_of (fn := Tryd.f20) (by kernel_rfl) (by kernel_rfl) (fun x : Ts w_samePlace_sig.pc => w_samePlace_E) (fun x => ⟨(fn_cons ⟨w_sameInts_ok, w_sameInts_ent⟩ fn_none), clo_none, wr_none⟩) (fun h => by cases h) follows_ (fun _ _ => trivial)
end FN
set_option linter.unusedVariables false
namespace FN
open Go Go.Proofs
/-! loop.example/firingnets/laws.alive -/
@[reducible] def w_alive_sig : Sig := { ps := [], pc := [], rs := [none], rc := [.bool] }
noncomputable def w_alive_E : Env' := { fn := fun f => if f = 71 then some ⟨i_NetOk_sig, i_NetOk_f⟩ else none, ck := ckT, cuts := [], mine := fun i => false }
noncomputable def w_alive_f (x : Ts w_alive_sig.pc) : Option (Ts w_alive_sig.rc) := runFn Tryd.prog (w_alive_E) Tryd.f21 w_alive_sig x
theorem w_alive_f_eq  : w_alive_f () = (Option.bind (i_NetOk_f ([2, 1] : List (Int))) fun r1 => (cond (r1) (Option.bind (i_NetOk_f ([1] : List (Int))) fun r2 => (some (!r2))) (some false))) := by
  kernel_rfl
theorem w_alive_ent : Entb Tryd.prog 21 := ⟨Tryd.f21, by kernel_rfl, by kernel_rfl, by kernel_rfl⟩
theorem w_alive_ok : CtrOk Tryd.prog 21 ⟨w_alive_sig, w_alive_f⟩ :=
  ctr_of (fn := Tryd.f21) (by kernel_rfl) (by kernel_rfl) (fun x : Ts w_alive_sig.pc => w_alive_E) (fun x => ⟨(fn_cons ⟨i_NetOk_ok, i_NetOk_ent⟩ fn_none), clo_none, wr_none⟩) (fun h => by cases h) follows_ (fun _ _ => trivial)
end FN
set_option linter.unusedVariables false
namespace FN
open Go Go.Proofs
/-! loop.example/firingnets/spec.l20Spoil -/
@[reducible] def s_l20Spoil_sig : Sig := { rd := some 118, ps := [none], pc := [.view .u8, .int .i64, .str], rs := [none], rc := [.str, .int .i64] }
noncomputable def s_l20Spoil_E (b : List Int) : Env' := { keep := [0], rdb := b, fn := fun f => if f = 67 then some ⟨r_pick_sig, r_pick_f⟩ else none, ck := ckT, cuts := [], mine := fun i => false }
noncomputable def s_l20Spoil_f (x : Ts s_l20Spoil_sig.pc) : Option (Ts s_l20Spoil_sig.rc) := runFn Tryd.prog (s_l20Spoil_E x.1) Tryd.f68 s_l20Spoil_sig x
theorem s_l20Spoil_f_eq (x0 : (List (Int))) (x1 : (Int)) (x2 : (ByteArray)) : s_l20Spoil_f (x0, x1, x2) = (cond (((ByteArray.size x2 : Int) == 0)) (if 118 = 118 ∧ x0 = x0 then (some (str13, x1)) else none) (Option.bind (r_pick_f (x0, x1, (ByteArray.size x2 : Int))) fun r1 => (if (0 : Int) ≤ r1.1 ∧ r1.1 ≤ (ByteArray.size x2 : Int) then (if (0 : Int) ≤ (IntKind.i64.wrap (r1.1 + 1)) ∧ (IntKind.i64.wrap (r1.1 + 1)) ≤ (ByteArray.size x2 : Int) then (Option.bind (r_pick_f (x0, r1.2, 6)) fun r2 => (if (0 : Int) ≤ r2.1 ∧ r2.1 < (List.length ([ByteArray.empty, str16, str1, str13, str17, str5] : List (ByteArray)) : Int) then (if ByteArray.size (ByteArray.extract x2 0 (r1.1 : Int).toNat) + ByteArray.size (List.getD ([ByteArray.empty, str16, str1, str13, str17, str5] : List (ByteArray)) (r2.1 : Int).toNat ByteArray.empty) ≤ 9223372036854775807 then (if ByteArray.size ((ByteArray.extract x2 0 (r1.1 : Int).toNat) ++ (List.getD ([ByteArray.empty, str16, str1, str13, str17, str5] : List (ByteArray)) (r2.1 : Int).toNat ByteArray.empty)) + ByteArray.size (ByteArray.extract x2 ((IntKind.i64.wrap (r1.1 + 1)) : Int).toNat (ByteArray.size x2)) ≤ 9223372036854775807 then (if 118 = 118 ∧ x0 = x0 then (some ((((ByteArray.extract x2 0 (r1.1 : Int).toNat) ++ (List.getD ([ByteArray.empty, str16, str1, str13, str17, str5] : List (ByteArray)) (r2.1 : Int).toNat ByteArray.empty)) ++ (ByteArray.extract x2 ((IntKind.i64.wrap (r1.1 + 1)) : Int).toNat (ByteArray.size x2))), r2.2)) else none) else none) else none) else none)) else none) else none))) := by
  refine Eq.trans (b := (cond (((ByteArray.size x2 : Int) == 0)) (if 118 = 118 ∧ x0 = x0 then (some (str13, x1)) else none) (Option.bind (r_pick_f (x0, x1, (ByteArray.size x2 : Int))) fun r1 => (if (0 : Int) ≤ r1.1 ∧ r1.1 ≤ (ByteArray.size x2 : Int) then (if (0 : Int) ≤ (IntKind.i64.wrap (r1.1 + 1)) ∧ (IntKind.i64.wrap (r1.1 + 1)) ≤ (ByteArray.size x2 : Int) then (same [(Option.bind (r_pick_f (x0, r1.2, 6)) fun r2 => (if (0 : Int) ≤ r2.1 ∧ r2.1 < (List.length ([ByteArray.empty, str16, str1, str13, str17, str5] : List (ByteArray)) : Int) then (if ByteArray.size (ByteArray.extract x2 0 (r1.1 : Int).toNat) + ByteArray.size (List.getD ([ByteArray.empty, str16, str1, str13, str17, str5] : List (ByteArray)) (r2.1 : Int).toNat ByteArray.empty) ≤ 9223372036854775807 then (if ByteArray.size ((ByteArray.extract x2 0 (r1.1 : Int).toNat) ++ (List.getD ([ByteArray.empty, str16, str1, str13, str17, str5] : List (ByteArray)) (r2.1 : Int).toNat ByteArray.empty)) + ByteArray.size (ByteArray.extract x2 ((IntKind.i64.wrap (r1.1 + 1)) : Int).toNat (ByteArray.size x2)) ≤ 9223372036854775807 then (if 118 = 118 ∧ x0 = x0 then (some ((((ByteArray.extract x2 0 (r1.1 : Int).toNat) ++ (List.getD ([ByteArray.empty, str16, str1, str13, str17, str5] : List (ByteArray)) (r2.1 : Int).toNat ByteArray.empty)) ++ (ByteArray.extract x2 ((IntKind.i64.wrap (r1.1 + 1)) : Int).toNat (ByteArray.size x2))), r2.2)) else none) else none) else none) else none)), (Option.bind (r_pick_f (x0, r1.2, 6)) fun r2 => (if (0 : Int) ≤ r2.1 ∧ r2.1 < (List.length ([ByteArray.empty, str16, str1, str13, str17, str5] : List (ByteArray)) : Int) then (if ByteArray.size (ByteArray.extract x2 0 (r1.1 : Int).toNat) + ByteArray.size (List.getD ([ByteArray.empty, str16, str1, str13, str17, str5] : List (ByteArray)) (r2.1 : Int).toNat ByteArray.empty) ≤ 9223372036854775807 then (if ByteArray.size ((ByteArray.extract x2 0 (r1.1 : Int).toNat) ++ (List.getD ([ByteArray.empty, str16, str1, str13, str17, str5] : List (ByteArray)) (r2.1 : Int).toNat ByteArray.empty)) + ByteArray.size (ByteArray.extract x2 ((IntKind.i64.wrap (r1.1 + 1)) : Int).toNat (ByteArray.size x2)) ≤ 9223372036854775807 then (if 118 = 118 ∧ x0 = x0 then (some ((((ByteArray.extract x2 0 (r1.1 : Int).toNat) ++ (List.getD ([ByteArray.empty, str16, str1, str13, str17, str5] : List (ByteArray)) (r2.1 : Int).toNat ByteArray.empty)) ++ (ByteArray.extract x2 ((IntKind.i64.wrap (r1.1 + 1)) : Int).toNat (ByteArray.size x2))), r2.2)) else none) else none) else none) else none))]) else none) else none)))) (by kernel_rfl) ?_
  simp only [same2, same3, same4, same5, same6, obind_ite]
theorem s_l20Spoil_ent : Entb Tryd.prog 68 := ⟨Tryd.f68, by kernel_rfl, by kernel_rfl, by kernel_rfl⟩
theorem s_l20Spoil_ok : CtrOk Tryd.prog 68 ⟨s_l20Spoil_sig, s_l20Spoil_f⟩ :=
  ctr_of (fn := Tryd.f68) (by kernel_rfl) (by kernel_rfl) (fun x : Ts s_l20Spoil_sig.pc => s_l20Spoil_E x.1) (fun x => ⟨(fn_cons ⟨r_pick_ok, r_pick_ent⟩ fn_none), clo_none, wr_none⟩) (fun _ x => ⟨rfl, fun b ps h => rd_head h⟩) follows_ (fun _ _ => trivial)
end FN
set_option linter.unusedVariables false
namespace FN
open Go Go.Proofs
/-! loop.example/firingnets/spec.DrawReadPlace -/
@[reducible] def s_DrawReadPlace_sig : Sig := { ps := [none], pc := [.view .u8], rs := [none], rc := [.str] }
noncomputable def s_DrawReadPlace_E : Env' := { fn := fun f => if f = 64 then some ⟨s_l20Open_sig, s_l20Open_f⟩ else if f = 65 then some ⟨s_PlaceText_sig, s_PlaceText_f⟩ else if f = 66 then some ⟨s_l20Place_sig, s_l20Place_f⟩ else if f = 67 then some ⟨r_pick_sig, r_pick_f⟩ else if f = 68 then some ⟨s_l20Spoil_sig, s_l20Spoil_f⟩ else none, ck := ckT, cuts := [], mine := fun i => false }
noncomputable def s_DrawReadPlace_f (x : Ts s_DrawReadPlace_sig.pc) : Option (Ts s_DrawReadPlace_sig.rc) := runFn Tryd.prog (s_DrawReadPlace_E) Tryd.f17 s_DrawReadPlace_sig x
theorem s_DrawReadPlace_f_eq (x0 : (List (Int))) : s_DrawReadPlace_f x0 = (Option.bind (s_l20Open_f x0) fun r1 => (Option.bind (s_l20Place_f (r1.1, r1.2, 0)) fun r2 => (Option.bind (s_PlaceText_f (r2.1, r2.2.1, r2.2.2.1)) fun r3 => (Option.bind (r_pick_f (r1.1, r2.2.2.2, 3)) fun r4 => (cond ((r4.1 == 0)) (Option.bind (s_l20Spoil_f (r1.1, r4.2, r3)) fun r5 => (some r5.1)) (some r3)))))) := by
  kernel_rfl
theorem s_DrawReadPlace_ent : Entb Tryd.prog 17 := ⟨Tryd.f17, by kernel_rfl, by kernel_rfl, by kernel_rfl⟩
theorem s_DrawReadPlace_ok : CtrOk Tryd.prog 17 ⟨s_DrawReadPlace_sig, s_DrawReadPlace_f⟩ :=
  ctr_of (fn := Tryd.f17) (by kernel_rfl) (by kernel_rfl) (fun x : Ts s_DrawReadPlace_sig.pc => s_DrawReadPlace_E) (fun x => ⟨(fn_cons ⟨s_l20Open_ok, s_l20Open_ent⟩ (fn_cons ⟨s_PlaceText_ok, s_PlaceText_ent⟩ (fn_cons ⟨s_l20Place_ok, s_l20Place_ent⟩ (fn_cons ⟨r_pick_ok, r_pick_ent⟩ (fn_cons ⟨s_l20Spoil_ok, s_l20Spoil_ent⟩ fn_none))))), clo_none, wr_none⟩) (fun h => by cases h) follows_ (fun _ _ => trivial)
end FN
set_option linter.unusedVariables false
namespace FN
open Go Go.Proofs
/-! loop.example/firingnets/laws.FnReadPlace -/
@[reducible] def w_FnReadPlace_sig : Sig := { ps := [none], pc := [.view .u8], rs := [none], rc := [.bool] }
noncomputable def w_FnReadPlace_E : Env' := { fn := fun f => if f = 17 then some ⟨s_DrawReadPlace_sig, s_DrawReadPlace_f⟩ else if f = 18 then some ⟨i_ReadPlace_sig, i_ReadPlace_f⟩ else if f = 19 then some ⟨s_ReadPlace_sig, s_ReadPlace_f⟩ else if f = 20 then some ⟨w_samePlace_sig, w_samePlace_f⟩ else if f = 21 then some ⟨w_alive_sig, w_alive_f⟩ else if f = 22 then some ⟨i_PlaceText_sig, i_PlaceText_f⟩ else none, ck := ckT, cuts := [], mine := fun i => false }
noncomputable def w_FnReadPlace_f (x : Ts w_FnReadPlace_sig.pc) : Option (Ts w_FnReadPlace_sig.rc) := runFn Tryd.prog (w_FnReadPlace_E) Tryd.f4 w_FnReadPlace_sig x
theorem w_FnReadPlace_f_eq (x0 : (List (Int))) : w_FnReadPlace_f x0 = (cond ((decide (1048576 < (List.length x0 : Int)))) (some true) (Option.bind (s_DrawReadPlace_f x0) fun r1 => (Option.bind (i_ReadPlace_f r1) fun r2 => (Option.bind (s_ReadPlace_f r1) fun r3 => (Option.bind (w_samePlace_f (r2.1, r2.2.1, r2.2.2.1, r3.1, r3.2.1, r3.2.2.1)) fun r4 => (cond ((!r4)) (some false) (cond ((!(r2.2.2.2 == r3.2.2.2))) (some false) (cond ((!r2.2.2.2)) (Option.bind (w_samePlace_f (r2.1, r2.2.1, r2.2.2.1, [], 0, [])) fun r5 => (cond (r5) (Option.bind (w_alive_f ()) fun r6 => (some r6)) (some false))) (if ByteArray.size r1 + ByteArray.size str1 ≤ 9223372036854775807 then (Option.bind (i_ReadPlace_f (r1 ++ str1)) fun r7 => (Option.bind (i_PlaceText_f (r2.1, r2.2.1, r2.2.2.1)) fun r8 => (cond ((ByteArray.toList r8 == ByteArray.toList r1)) (some (!r7.2.2.2)) (some false)))) else none))))))))) := by
  kernel_rfl
theorem w_FnReadPlace_ent : Entb Tryd.prog 4 := ⟨Tryd.f4, by kernel_rfl, by kernel_rfl, by kernel_rfl⟩
theorem w_FnReadPlace_ok : CtrOk Tryd.prog 4 ⟨w_FnReadPlace_sig, w_FnReadPlace_f⟩ :=
  ctr_of (fn := Tryd.f4) (by kernel_rfl) (by kernel_rfl) (fun x : Ts w_FnReadPlace_sig.pc => w_FnReadPlace_E) (fun x => ⟨(fn_cons ⟨s_DrawReadPlace_ok, s_DrawReadPlace_ent⟩ (fn_cons ⟨i_ReadPlace_ok, i_ReadPlace_ent⟩ (fn_cons ⟨s_ReadPlace_ok, s_ReadPlace_ent⟩ (fn_cons ⟨w_samePlace_ok, w_samePlace_ent⟩ (fn_cons ⟨w_alive_ok, w_alive_ent⟩ (fn_cons ⟨i_PlaceText_ok, i_PlaceText_ent⟩ fn_none)))))), clo_none, wr_none⟩) (fun h => by cases h) follows_ (fun _ _ => trivial)
end FN
