/- Texts of the proof, joined: The functions, their equations and contracts. -/
import Derived.Test.YtmmngjppgkefhabDoorG0
set_option linter.unusedVariables false
set_option linter.unusedSimpArgs false
set_option linter.unusedSectionVars false
/-! markDeedS: it writes one number behind the other into a row of deeds. -/
namespace FN
open Go Go.Proofs
noncomputable def E0 : Env' := { fn := fun _ => none, ck := ckT, cuts := [], mine := fun _ => false }
theorem E0c : E0.cuts = [] := rfl
theorem E0_ok : EnvOk Tryd.prog E0 := ⟨fn_none, clo_none, wr_none⟩
noncomputable def mB : Code := sub (Tryd.f32.body.getD .skip) [1, 0, 1, 0, 0]
theorem m_el : elemT Tryd.prog 52 = some 23 := by kernel_rfl
theorem m_sz : szOf Tryd.prog 3 = 1 := by kernel_rfl
theorem m_sz3 : szOf Tryd.prog 23 = 3 := by kernel_rfl
theorem m_info : (Tryd.prog.info? 3).isSome = true := by kernel_rfl
theorem m_o0 : offOf Tryd.prog 23 0 = some (0, 3) := by kernel_rfl
theorem m_o1 : offOf Tryd.prog 23 1 = some (1, 3) := by kernel_rfl
theorem m_o2 : offOf Tryd.prog 23 2 = some (2, 3) := by kernel_rfl
abbrev Dm := Int × Int × Int
section
variable {R : Type} {id : Nat} {e : TypeId} {f : Bool}
theorem m_store0 {h : Hp} {xs : List Dm} (hg : h.get id = some (.arr e f .deed xs)) (n : Nat) (k : Int) (K : Hp → Option R) :
    storeK Tryd.prog 3 (.ep id .deed n 0) (.int .i64 k) h K = K (h.set id (some (.arr e f .deed (xs.set n (k, (xs.getD n (0, 0, 0)).2.1, (xs.getD n (0, 0, 0)).2.2))))) := by
  simp only [storeK, cellsOf, frzs, frz, hg, m_sz, m_info]
  simp [CK.sz, oneP, CK.flds, decE, CK.dflt]
theorem m_store1 {h : Hp} {xs : List Dm} (hg : h.get id = some (.arr e f .deed xs)) (n : Nat) (k : Int) (K : Hp → Option R) :
    storeK Tryd.prog 3 (.ep id .deed n 1) (.int .i64 k) h K = K (h.set id (some (.arr e f .deed (xs.set n ((xs.getD n (0, 0, 0)).1, k, (xs.getD n (0, 0, 0)).2.2))))) := by
  simp only [storeK, cellsOf, frzs, frz, hg, m_sz, m_info]
  simp [CK.sz, oneP, CK.flds, decE, CK.dflt]
theorem m_store2 {h : Hp} {xs : List Dm} (hg : h.get id = some (.arr e f .deed xs)) (n : Nat) (k : Int) (K : Hp → Option R) :
    storeK Tryd.prog 3 (.ep id .deed n 2) (.int .i64 k) h K = K (h.set id (some (.arr e f .deed (xs.set n ((xs.getD n (0, 0, 0)).1, (xs.getD n (0, 0, 0)).2.1, k))))) := by
  simp only [storeK, cellsOf, frzs, frz, hg, m_sz, m_info]
  simp [CK.sz, oneP, CK.flds, decE, CK.dflt]
theorem get_set {h : Hp} {b b' : Blk} (hg : h.get id = some b) : Hp.get (h.set id (some b')) id = some b' := by
  have hl : id < h.length := by
    rcases Nat.lt_or_ge id h.length with hh | hh
    · exact hh
    · simp [Hp.get, List.getElem?_eq_none hh] at hg
  simp [Hp.get, hl]
theorem getD_set {xs : List Dm} {n : Nat} (h : n < xs.length) (d : Dm) : (xs.set n d).getD n (0, 0, 0) = d := by
  rw [List.getD_eq_getElem?_getD, List.getElem?_set_self h]; rfl
theorem exSeq {x y : Code} {s : St} {K : AX → St → Option R} : exCode Tryd.prog E0 (.seq x y) s K = exCode Tryd.prog E0 x s (fun e s' => match e with | .norm => exCode Tryd.prog E0 y s' K | e => K e s') := by
  rw [exCode]
  congr 1
  funext e s'
  cases e <;> first | rfl | exact cutS0 E0c
theorem exBlock {i : Nat} {b : Code} {s : St} {K : AX → St → Option R} : exCode Tryd.prog E0 (.block i b) s K = exCode Tryd.prog E0 b s (fun e s' => match e with | .ex j => if j = i then K .norm s' else K (.ex j) s' | e => K e s') := by
  rw [exCode]
  congr 1
noncomputable def q2 : Code := sub mB [0]
noncomputable def q4 : Code := sub mB [1, 0, 0, 0]
noncomputable def q5 : Code := sub mB [1, 0, 0, 1, 0]
noncomputable def q6 : Code := sub mB [1, 0, 0, 1, 1, 0]
noncomputable def q7 : Code := sub mB [1, 0, 0, 1, 1, 1, 0]
noncomputable def q8 : Code := sub mB [1, 0, 0, 1, 1, 1, 1, 0]
noncomputable def q9 : Code := sub mB [1, 0, 0, 1, 1, 1, 1, 1]
noncomputable def q3 : Code := sub mB [1, 1]
theorem q_body : mB = .seq q2 (.seq (.block 1 (.seq q4 (.seq q5 (.seq q6 (.seq q7 (.seq q8 q9)))))) q3) := by kernel_rfl
theorem q2_run {h : Hp} {xs : List Dm} (hg : h.get id = some (.arr e f .deed xs)) {i : Int} (p1 p2 p3 p4 p6 p7 p8 p9 p10 p11 p12 p13 p14 p15 p16 p17 p18 p19 p20 p21 p22 p23 p24 p25 p26 p27 p28 p29 p30 p31 p32 p33 : PV) (K : AX → St → Option R) :
    exCode Tryd.prog E0 q2 ⟨[.own id, p1, p2, p3, p4, .int .i64 i, p6, p7, p8, p9, p10, p11, p12, p13, p14, p15, p16, p17, p18, p19, p20, p21, p22, p23, p24, p25, p26, p27, p28, p29, p30, p31, p32, p33], h⟩ K = if i < xs.length then K .norm ⟨[.own id, p1, p2, p3, p4, .int .i64 i, .int .i64 i, .own id, .int .i64 xs.length, .bool true, p10, p11, p12, p13, p14, p15, p16, p17, p18, p19, p20, p21, p22, p23, p24, p25, p26, p27, p28, p29, p30, p31, p32, p33], h⟩ else K (.ex 0) ⟨[.own id, p1, p2, p3, p4, .int .i64 i, .int .i64 i, .own id, .int .i64 xs.length, .bool false, p10, p11, p12, p13, p14, p15, p16, p17, p18, p19, p20, p21, p22, p23, p24, p25, p26, p27, p28, p29, p30, p31, p32, p33], h⟩ := by
  simp only [q2, mB, sub, Tryd.f32, Option.getD_some, exCode, cutS0 E0c]
  simp only [regOrd, Bool.false_eq_true, if_false, exOps, opK, ev, ofVal, List.getD_cons_zero, List.getD_cons_succ, putT, List.set_cons_zero, List.set_cons_succ]
  simp only [lenK, hg, m_el, Option.isSome_some, if_true, binK]
  by_cases c : i < xs.length
  · rw [if_pos c]; simp only [decide_eq_true c, cond_true]
  · rw [if_neg c]; simp only [decide_eq_false c, cond_false]
theorem q4_run {h : Hp} {xs : List Dm} (hg : h.get id = some (.arr e f .deed xs)) {i k : Int} (hi : 0 ≤ i) (c : i < xs.length) (p2 p3 p4 p6 p7 p8 p9 p10 p11 p12 p13 p14 p15 p16 p17 p18 p19 p20 p21 p22 p23 p24 p25 p26 p27 p28 p29 p30 p31 p32 p33 : PV) (K : AX → St → Option R) :
    exCode Tryd.prog E0 q4 ⟨[.own id, .int .i64 k, p2, p3, p4, .int .i64 i, p6, p7, p8, p9, p10, p11, p12, p13, p14, p15, p16, p17, p18, p19, p20, p21, p22, p23, p24, p25, p26, p27, p28, p29, p30, p31, p32, p33], h⟩ K = K .norm ⟨[.own id, .int .i64 k, p2, p3, p4, .int .i64 i, p6, p7, p8, p9, p10, p11, .own id, .int .i64 i, .int .i64 k, .ep id .deed i.toNat 0, .ep id .deed i.toNat 0, p17, p18, p19, p20, p21, p22, p23, p24, p25, p26, p27, p28, p29, p30, p31, p32, p33], h.set id (some (.arr e f .deed (xs.set i.toNat (k, (xs.getD i.toNat (0, 0, 0)).2.1, (xs.getD i.toNat (0, 0, 0)).2.2))))⟩ := by
  simp only [q4, mB, sub, Tryd.f32, Option.getD_some, exCode]
  simp only [regOrd, Bool.false_eq_true, if_false, exOps, opK, ev, ofVal, List.getD_cons_zero, List.getD_cons_succ, putT, List.set_cons_zero, List.set_cons_succ]
  simp only [hg, m_el, m_sz, m_sz3, CK.sz, if_true, m_o0, Nat.one_ne_zero, if_false, Nat.zero_add]
  rw [if_pos ⟨hi, c⟩, m_store0 hg]
theorem q6_run {h : Hp} {xs : List Dm} (hg : h.get id = some (.arr e f .deed xs)) {i k : Int} (hi : 0 ≤ i) (c : i < xs.length) (p2 p3 p4 p6 p7 p8 p9 p10 p11 p12 p13 p14 p15 p16 p17 p18 p19 p20 p21 p22 p23 p24 p25 p26 p27 p28 p29 p30 p31 p32 p33 : PV) (K : AX → St → Option R) :
    exCode Tryd.prog E0 q6 ⟨[.own id, .int .i64 k, p2, p3, p4, .int .i64 i, p6, p7, p8, p9, p10, p11, p12, p13, p14, p15, p16, p17, p18, p19, p20, p21, p22, p23, p24, p25, p26, p27, p28, p29, p30, p31, p32, p33], h⟩ K = K .norm ⟨[.own id, .int .i64 k, p2, p3, p4, .int .i64 i, p6, p7, p8, p9, p10, p11, p12, p13, p14, p15, p16, p17, p18, .own id, .int .i64 i, .int .i64 k, .ep id .deed i.toNat 0, .ep id .deed i.toNat 1, p24, p25, p26, p27, p28, p29, p30, p31, p32, p33], h.set id (some (.arr e f .deed (xs.set i.toNat ((xs.getD i.toNat (0, 0, 0)).1, k, (xs.getD i.toNat (0, 0, 0)).2.2))))⟩ := by
  simp only [q6, mB, sub, Tryd.f32, Option.getD_some, exCode]
  simp only [regOrd, Bool.false_eq_true, if_false, exOps, opK, ev, ofVal, List.getD_cons_zero, List.getD_cons_succ, putT, List.set_cons_zero, List.set_cons_succ]
  simp only [hg, m_el, m_sz, m_sz3, CK.sz, if_true, m_o1, Nat.one_ne_zero, if_false, Nat.zero_add]
  rw [if_pos ⟨hi, c⟩, m_store1 hg]
theorem q8_run {h : Hp} {xs : List Dm} (hg : h.get id = some (.arr e f .deed xs)) {i k : Int} (hi : 0 ≤ i) (c : i < xs.length) (p2 p3 p4 p6 p7 p8 p9 p10 p11 p12 p13 p14 p15 p16 p17 p18 p19 p20 p21 p22 p23 p24 p25 p26 p27 p28 p29 p30 p31 p32 p33 : PV) (K : AX → St → Option R) :
    exCode Tryd.prog E0 q8 ⟨[.own id, .int .i64 k, p2, p3, p4, .int .i64 i, p6, p7, p8, p9, p10, p11, p12, p13, p14, p15, p16, p17, p18, p19, p20, p21, p22, p23, p24, p25, p26, p27, p28, p29, p30, p31, p32, p33], h⟩ K = K .norm ⟨[.own id, .int .i64 k, p2, p3, p4, .int .i64 i, p6, p7, p8, p9, p10, p11, p12, p13, p14, p15, p16, p17, p18, p19, p20, p21, p22, p23, p24, p25, .own id, .int .i64 i, .int .i64 k, .ep id .deed i.toNat 0, .ep id .deed i.toNat 2, p31, p32, p33], h.set id (some (.arr e f .deed (xs.set i.toNat ((xs.getD i.toNat (0, 0, 0)).1, (xs.getD i.toNat (0, 0, 0)).2.1, k))))⟩ := by
  simp only [q8, mB, sub, Tryd.f32, Option.getD_some, exCode]
  simp only [regOrd, Bool.false_eq_true, if_false, exOps, opK, ev, ofVal, List.getD_cons_zero, List.getD_cons_succ, putT, List.set_cons_zero, List.set_cons_succ]
  simp only [hg, m_el, m_sz, m_sz3, CK.sz, if_true, m_o2, Nat.one_ne_zero, if_false, Nat.zero_add]
  rw [if_pos ⟨hi, c⟩, m_store2 hg]
theorem q5_run {h : Hp} {k : Int} (p0 p2 p3 p4 p5 p6 p7 p8 p9 p10 p11 p12 p13 p14 p15 p16 p17 p18 p19 p20 p21 p22 p23 p24 p25 p26 p27 p28 p29 p30 p31 p32 p33 : PV) (K : AX → St → Option R) : exCode Tryd.prog E0 q5 ⟨[p0, .int .i64 k, p2, p3, p4, p5, p6, p7, p8, p9, p10, p11, p12, p13, p14, p15, p16, p17, p18, p19, p20, p21, p22, p23, p24, p25, p26, p27, p28, p29, p30, p31, p32, p33], h⟩ K = K .norm ⟨[p0, .int .i64 (IntKind.i64.wrap (k + 1)), p2, p3, p4, p5, p6, p7, p8, p9, p10, p11, p12, p13, p14, p15, p16, .int .i64 k, .int .i64 (IntKind.i64.wrap (k + 1)), p19, p20, p21, p22, p23, p24, p25, p26, p27, p28, p29, p30, p31, p32, p33], h⟩ := by kernel_rfl
theorem q7_run {h : Hp} {k : Int} (p0 p2 p3 p4 p5 p6 p7 p8 p9 p10 p11 p12 p13 p14 p15 p16 p17 p18 p19 p20 p21 p22 p23 p24 p25 p26 p27 p28 p29 p30 p31 p32 p33 : PV) (K : AX → St → Option R) : exCode Tryd.prog E0 q7 ⟨[p0, .int .i64 k, p2, p3, p4, p5, p6, p7, p8, p9, p10, p11, p12, p13, p14, p15, p16, p17, p18, p19, p20, p21, p22, p23, p24, p25, p26, p27, p28, p29, p30, p31, p32, p33], h⟩ K = K .norm ⟨[p0, .int .i64 (IntKind.i64.wrap (k + 1)), p2, p3, p4, p5, p6, p7, p8, p9, p10, p11, p12, p13, p14, p15, p16, p17, p18, p19, p20, p21, p22, p23, .int .i64 k, .int .i64 (IntKind.i64.wrap (k + 1)), p26, p27, p28, p29, p30, p31, p32, p33], h⟩ := by kernel_rfl
theorem q9_run {h : Hp} {k : Int} (p0 p2 p3 p4 p5 p6 p7 p8 p9 p10 p11 p12 p13 p14 p15 p16 p17 p18 p19 p20 p21 p22 p23 p24 p25 p26 p27 p28 p29 p30 p31 p32 p33 : PV) (K : AX → St → Option R) : exCode Tryd.prog E0 q9 ⟨[p0, .int .i64 k, p2, p3, p4, p5, p6, p7, p8, p9, p10, p11, p12, p13, p14, p15, p16, p17, p18, p19, p20, p21, p22, p23, p24, p25, p26, p27, p28, p29, p30, p31, p32, p33], h⟩ K = K .norm ⟨[p0, .int .i64 (IntKind.i64.wrap (k + 1)), p2, p3, p4, p5, p6, p7, p8, p9, p10, p11, p12, p13, p14, p15, p16, p17, p18, p19, p20, p21, p22, p23, p24, p25, p26, p27, p28, p29, p30, .int .i64 k, .int .i64 (IntKind.i64.wrap (k + 1)), p33], h⟩ := by kernel_rfl
theorem q3_run {h : Hp} {i : Int} (p0 p1 p2 p3 p4 p6 p7 p8 p9 p10 p11 p12 p13 p14 p15 p16 p17 p18 p19 p20 p21 p22 p23 p24 p25 p26 p27 p28 p29 p30 p31 p32 p33 : PV) (K : AX → St → Option R) : exCode Tryd.prog E0 q3 ⟨[p0, p1, p2, p3, p4, .int .i64 i, p6, p7, p8, p9, p10, p11, p12, p13, p14, p15, p16, p17, p18, p19, p20, p21, p22, p23, p24, p25, p26, p27, p28, p29, p30, p31, p32, p33], h⟩ K = K .norm ⟨[p0, p1, p2, p3, p4, .int .i64 (IntKind.i64.wrap (i + 1)), p6, p7, p8, p9, .int .i64 i, .int .i64 (IntKind.i64.wrap (i + 1)), p12, p13, p14, p15, p16, p17, p18, p19, p20, p21, p22, p23, p24, p25, p26, p27, p28, p29, p30, p31, p32, p33], h⟩ := by kernel_rfl
theorem m_iter {h : Hp} {xs : List Dm} (hg : h.get id = some (.arr e f .deed xs)) (hl : xs.length ≤ 2000000000000000000) {i k : Int} (hi : 0 ≤ i) (hi' : i ≤ xs.length) (hk : 0 ≤ k) (hk' : k ≤ 4611686018427387904) (a2 a3 a4 a6 a7 a8 a9 a10 a11 a12 a13 a14 a15 a16 a17 a18 a19 a20 a21 a22 a23 a24 a25 a26 a27 a28 a29 a30 a31 a32 a33 : PV) (K : AX → St → Option R) :
    exCode Tryd.prog E0 mB ⟨[.own id, .int .i64 k, a2, a3, a4, .int .i64 i, a6, a7, a8, a9, a10, a11, a12, a13, a14, a15, a16, a17, a18, a19, a20, a21, a22, a23, a24, a25, a26, a27, a28, a29, a30, a31, a32, a33], h⟩ K =
      if i < xs.length then K .norm ⟨[.own id, .int .i64 (k + 1 + 1 + 1), a2, a3, a4, .int .i64 (i + 1), .int .i64 i, .own id, .int .i64 xs.length, .bool true, .int .i64 i, .int .i64 (i + 1), .own id, .int .i64 i, .int .i64 k, .ep id .deed i.toNat 0, .ep id .deed i.toNat 0, .int .i64 k, .int .i64 (k + 1), .own id, .int .i64 i, .int .i64 (k + 1), .ep id .deed i.toNat 0, .ep id .deed i.toNat 1, .int .i64 (k + 1), .int .i64 (k + 1 + 1), .own id, .int .i64 i, .int .i64 (k + 1 + 1), .ep id .deed i.toNat 0, .ep id .deed i.toNat 2, .int .i64 (k + 1 + 1), .int .i64 (k + 1 + 1 + 1), a33], h.set id (some (.arr e f .deed (xs.set i.toNat (k, k + 1, k + 1 + 1))))⟩
      else K (.ex 0) ⟨[.own id, .int .i64 k, a2, a3, a4, .int .i64 i, .int .i64 i, .own id, .int .i64 xs.length, .bool false, a10, a11, a12, a13, a14, a15, a16, a17, a18, a19, a20, a21, a22, a23, a24, a25, a26, a27, a28, a29, a30, a31, a32, a33], h⟩ := by
  have w1 : IntKind.i64.wrap (k + 1) = k + 1 := by simp [IntKind.wrap, IntKind.bits, IntKind.signed]; split <;> omega
  have w3 : IntKind.i64.wrap (k + 1 + 1) = k + 1 + 1 := by simp [IntKind.wrap, IntKind.bits, IntKind.signed]; split <;> omega
  have w4 : IntKind.i64.wrap (k + 1 + 1 + 1) = k + 1 + 1 + 1 := by simp [IntKind.wrap, IntKind.bits, IntKind.signed]; split <;> omega
  have w2 : IntKind.i64.wrap (i + 1) = i + 1 := by simp [IntKind.wrap, IntKind.bits, IntKind.signed]; split <;> omega
  rw [q_body, exSeq, q2_run hg]
  by_cases c : i < xs.length
  · have hn : i.toNat < xs.length := by omega
    rw [if_pos c, if_pos c]
    simp only
    rw [exSeq, exBlock, exSeq, q4_run hg hi c]
    simp only
    rw [exSeq, q5_run, w1]
    simp only
    rw [exSeq, q6_run (get_set hg) hi (by rw [List.length_set]; exact c)]
    simp only
    rw [exSeq, q7_run, w3]
    simp only
    rw [exSeq, q8_run (get_set (get_set hg)) hi (by rw [List.length_set, List.length_set]; exact c)]
    simp only
    rw [q9_run, w4]
    simp only
    rw [q3_run, w2, List.set_set, List.set_set, List.set_set, List.set_set, getD_set hn, getD_set (by rw [List.length_set]; exact hn)]
  · rw [if_neg c, if_neg c]
theorem hset_same {h : Hp} {b : Blk} (hg : h.get id = some b) : h.set id (some b) = h := by
  apply List.ext_getElem?
  intro j
  rw [List.getElem?_set]
  split
  · rename_i e
    subst e
    split
    · rename_i hl
      simp only [Hp.get] at hg
      rw [List.getElem?_eq_getElem hl] at hg ⊢
      simp only [Option.getD_some] at hg
      rw [hg]
    · rename_i hl
      rw [List.getElem?_eq_none (by omega)]
  · rfl
theorem m_loop (r : Option R) (K : AX → St → Option R) : ∀ (n : Nat) {h : Hp} {xs : List Dm} (_ : h.get id = some (.arr e f .deed xs)) (_ : xs.length ≤ 2000000000000000000) {i k : Int} (_ : 0 ≤ i) (_ : i + n = xs.length) (_ : 0 ≤ k) (_ : k + 3 * n ≤ 4611686018427387904) (a2 a3 a4 a6 a7 a8 a9 a10 a11 a12 a13 a14 a15 a16 a17 a18 a19 a20 a21 a22 a23 a24 a25 a26 a27 a28 a29 a30 a31 a32 a33 : PV),
    (∀ c6 c7 c8 c9 c10 c11 c12 c13 c14 c15 c16 c17 c18 c19 c20 c21 c22 c23 c24 c25 c26 c27 c28 c29 c30 c31 c32 : PV, K (.ex 0) ⟨[.own id, .int .i64 (k + 3 * n), a2, a3, a4, .int .i64 (i + n), c6, c7, c8, c9, c10, c11, c12, c13, c14, c15, c16, c17, c18, c19, c20, c21, c22, c23, c24, c25, c26, c27, c28, c29, c30, c31, c32, a33], h.set id (some (.arr e f .deed (xs.take i.toNat ++ markD k (xs.drop i.toNat))))⟩ = r) →
    loopK E0 (exCode Tryd.prog E0 mB) mB ⟨[.own id, .int .i64 k, a2, a3, a4, .int .i64 i, a6, a7, a8, a9, a10, a11, a12, a13, a14, a15, a16, a17, a18, a19, a20, a21, a22, a23, a24, a25, a26, a27, a28, a29, a30, a31, a32, a33], h⟩ K = r := by
  intro n
  induction n with
  | zero =>
    intro h xs hg hl i k hi hn hk hk' a2 a3 a4 a6 a7 a8 a9 a10 a11 a12 a13 a14 a15 a16 a17 a18 a19 a20 a21 a22 a23 a24 a25 a26 a27 a28 a29 a30 a31 a32 a33 hr
    rw [loopK_eq, m_iter hg hl hi (by omega) hk (by omega), if_neg (by omega)]
    simp only
    have e1 : xs.take i.toNat ++ markD k (xs.drop i.toNat) = xs := by
      rw [List.drop_eq_nil_of_le (by omega), List.take_of_length_le (by omega)]
      simp [markD]
    rw [e1, hset_same hg] at hr
    have := hr (.int .i64 i) (.own id) (.int .i64 xs.length) (.bool false) a10 a11 a12 a13 a14 a15 a16 a17 a18 a19 a20 a21 a22 a23 a24 a25 a26 a27 a28 a29 a30 a31 a32
    simpa using this
  | succ n ih =>
    intro h xs hg hl i k hi hn hk hk' a2 a3 a4 a6 a7 a8 a9 a10 a11 a12 a13 a14 a15 a16 a17 a18 a19 a20 a21 a22 a23 a24 a25 a26 a27 a28 a29 a30 a31 a32 a33 hr
    rw [loopK_eq, m_iter hg hl hi (by omega) hk (by omega), if_pos (by omega)]
    simp only
    rw [cutK0 E0c]
    refine ih (get_set hg) (by rw [List.length_set]; exact hl) (by omega) (by rw [List.length_set]; omega) (by omega) (by omega) a2 a3 a4 _ _ _ _ _ _ _ _ _ _ _ _ _ _ _ _ _ _ _ _ _ _ _ _ _ _ _ a33 fun c6 c7 c8 c9 c10 c11 c12 c13 c14 c15 c16 c17 c18 c19 c20 c21 c22 c23 c24 c25 c26 c27 c28 c29 c30 c31 c32 => ?_
    have := hr c6 c7 c8 c9 c10 c11 c12 c13 c14 c15 c16 c17 c18 c19 c20 c21 c22 c23 c24 c25 c26 c27 c28 c29 c30 c31 c32
    rw [List.set_set]
    have hlt : i.toNat < xs.length := by omega
    have e1 : (xs.set i.toNat (k, k + 1, k + 1 + 1)).take (i + 1).toNat ++ markD (k + 1 + 1 + 1) ((xs.set i.toNat (k, k + 1, k + 1 + 1)).drop (i + 1).toNat) = xs.take i.toNat ++ markD k (xs.drop i.toNat) := by
      rw [show (i + 1).toNat = i.toNat + 1 by omega, List.drop_eq_getElem_cons hlt, markD, List.take_succ_eq_append_getElem (by simpa using hlt), List.append_assoc]
      congr 1
      · rw [List.take_set_of_le (Nat.le_refl _)]
      · rw [List.getElem_set_self, List.drop_set_of_lt (Nat.lt_succ_self _), show k + 1 + 1 + 1 = k + 3 by omega, show k + 1 + 1 = k + 2 by omega]
        rfl
    rw [e1, show k + 1 + 1 + 1 + 3 * (n : Int) = k + 3 * ((n + 1 : Nat) : Int) by omega, show i + 1 + (n : Int) = i + ((n + 1 : Nat) : Int) by omega]
    exact this
end
noncomputable def mR0 : Code := sub (Tryd.f32.body.getD .skip) [0]
noncomputable def mR1 : Code := sub (Tryd.f32.body.getD .skip) [1, 0, 0]
noncomputable def mR6 : Code := sub (Tryd.f32.body.getD .skip) [1, 1, 0]
theorem m_body : Tryd.f32.body.getD .skip = .seq mR0 (.seq (.seq mR1 (.block 0 (.loop mB))) (.seq mR6 .ret)) := by kernel_rfl
theorem m_r0 {R : Type} (p0 p1 p2 p3 p4 p5 p6 p7 p8 p9 p10 p11 p12 p13 p14 p15 p16 p17 p18 p19 p20 p21 p22 p23 p24 p25 p26 p27 p28 p29 p30 p31 p32 p33 : PV) (h : Hp) (K : AX → St → Option R) :
    exCode Tryd.prog E0 mR0 ⟨[p0, p1, p2, p3, p4, p5, p6, p7, p8, p9, p10, p11, p12, p13, p14, p15, p16, p17, p18, p19, p20, p21, p22, p23, p24, p25, p26, p27, p28, p29, p30, p31, p32, p33], h⟩ K = K .norm ⟨[p0, p1, p2, p3, .int .i64 0, p5, p6, p7, p8, p9, p10, p11, p12, p13, p14, p15, p16, p17, p18, p19, p20, p21, p22, p23, p24, p25, p26, p27, p28, p29, p30, p31, p32, p33], h⟩ := by kernel_rfl
theorem m_r1 {R : Type} (p0 p1 p2 p3 p4 p5 p6 p7 p8 p9 p10 p11 p12 p13 p14 p15 p16 p17 p18 p19 p20 p21 p22 p23 p24 p25 p26 p27 p28 p29 p30 p31 p32 p33 : PV) (h : Hp) (K : AX → St → Option R) :
    exCode Tryd.prog E0 mR1 ⟨[p0, p1, p2, p3, p4, p5, p6, p7, p8, p9, p10, p11, p12, p13, p14, p15, p16, p17, p18, p19, p20, p21, p22, p23, p24, p25, p26, p27, p28, p29, p30, p31, p32, p33], h⟩ K = K .norm ⟨[p0, p1, p2, p3, p4, .int .i64 0, p6, p7, p8, p9, p10, p11, p12, p13, p14, p15, p16, p17, p18, p19, p20, p21, p22, p23, p24, p25, p26, p27, p28, p29, p30, p31, p32, p33], h⟩ := by kernel_rfl
theorem m_r6 {R : Type} (p0 p1 p2 p3 p4 p5 p6 p7 p8 p9 p10 p11 p12 p13 p14 p15 p16 p17 p18 p19 p20 p21 p22 p23 p24 p25 p26 p27 p28 p29 p30 p31 p32 p33 : PV) (h : Hp) (K : AX → St → Option R) :
    exCode Tryd.prog E0 mR6 ⟨[p0, p1, p2, p3, p4, p5, p6, p7, p8, p9, p10, p11, p12, p13, p14, p15, p16, p17, p18, p19, p20, p21, p22, p23, p24, p25, p26, p27, p28, p29, p30, p31, p32, p33], h⟩ K = K .norm ⟨[p0, p1, p2, p3, p1, p5, p6, p7, p8, p9, p10, p11, p12, p13, p14, p15, p16, p17, p18, p19, p20, p21, p22, p23, p24, p25, p26, p27, p28, p29, p30, p31, p32, p1], h⟩ := by kernel_rfl
theorem m_end (p0 p1 p2 p3 p4 p5 p6 p7 p8 p9 p10 p11 p12 p13 p14 p15 p16 p17 p18 p19 p20 p21 p22 p23 p24 p25 p26 p27 p28 p29 p30 p31 p32 p33 : PV) (h : Hp) : endW Tryd.prog Tryd.f32 .ret ⟨[p0, p1, p2, p3, p4, p5, p6, p7, p8, p9, p10, p11, p12, p13, p14, p15, p16, p17, p18, p19, p20, p21, p22, p23, p24, p25, p26, p27, p28, p29, p30, p31, p32, p33], h⟩ = some (p4, h) := by kernel_rfl
theorem exLoop {R : Type} {b : Code} {s : St} {K : AX → St → Option R} : exCode Tryd.prog E0 (.loop b) s K = loopK E0 (exCode Tryd.prog E0 b) b s K := by
  rw [exCode, cutK0 E0c]
theorem exRet {R : Type} {s : St} {K : AX → St → Option R} : exCode Tryd.prog E0 .ret s K = K .ret s := by rw [exCode]
theorem m_whole {p0 p1 : PV} {h : Hp} {r : Option (PV × Hp)} (hl : ∀ K : AX → St → Option (PV × Hp), (∀ c2 c3 c4 c6 c7 c8 c9 c10 c11 c12 c13 c14 c15 c16 c17 c18 c19 c20 c21 c22 c23 c24 c25 c26 c27 c28 c29 c30 c31 c32 c33 k i q g, K (.ex 0) ⟨[q, k, c2, c3, c4, i, c6, c7, c8, c9, c10, c11, c12, c13, c14, c15, c16, c17, c18, c19, c20, c21, c22, c23, c24, c25, c26, c27, c28, c29, c30, c31, c32, c33], g⟩ = some (k, g)) → loopK E0 (exCode Tryd.prog E0 mB) mB ⟨[p0, p1, .junk, .junk, .int .i64 0, .int .i64 0, .junk, .junk, .junk, .junk, .junk, .junk, .junk, .junk, .junk, .junk, .junk, .junk, .junk, .junk, .junk, .junk, .junk, .junk, .junk, .junk, .junk, .junk, .junk, .junk, .junk, .junk, .junk, .junk], h⟩ K = r) :
    exCode Tryd.prog E0 (Tryd.f32.body.getD .skip) ⟨[p0, p1] ++ List.replicate (Tryd.f32.ntmps - 2) .junk, h⟩ (endW Tryd.prog Tryd.f32) = r := by
  have e : List.replicate (Tryd.f32.ntmps - 2) PV.junk = [.junk, .junk, .junk, .junk, .junk, .junk, .junk, .junk, .junk, .junk, .junk, .junk, .junk, .junk, .junk, .junk, .junk, .junk, .junk, .junk, .junk, .junk, .junk, .junk, .junk, .junk, .junk, .junk, .junk, .junk, .junk, .junk] := by kernel_rfl
  rw [m_body, e, exSeq, List.cons_append, List.cons_append, List.nil_append, m_r0]
  simp only
  rw [exSeq, exSeq, m_r1]
  simp only
  rw [exBlock, exLoop]
  refine hl _ fun c2 c3 c4 c6 c7 c8 c9 c10 c11 c12 c13 c14 c15 c16 c17 c18 c19 c20 c21 c22 c23 c24 c25 c26 c27 c28 c29 c30 c31 c32 c33 k i q g => ?_
  simp only [if_true]
  rw [exSeq, m_r6]
  simp only
  rw [exRet]
  exact m_end _ _ _ _ _ _ _ _ _ _ _ _ _ _ _ _ _ _ _ _ _ _ _ _ _ _ _ _ _ _ _ _ _ _ g
theorem deeds_run {id : Nat} {e : TypeId} {f : Bool} {h : Hp} {xs : List Dm} (hg : h.get id = some (.arr e f .deed xs)) {k : Int} (hk : 0 ≤ k) (hk' : k + 3 * xs.length ≤ 4611686018427387904) :
    exCode Tryd.prog E0 (Tryd.f32.body.getD .skip) ⟨[.own id, .int .i64 k] ++ List.replicate (Tryd.f32.ntmps - 2) .junk, h⟩ (endW Tryd.prog Tryd.f32) = some (.int .i64 (k + 3 * xs.length), h.set id (some (.arr e f .deed (markD k xs)))) :=
  m_whole fun K hK => m_loop _ K xs.length hg (by omega) (by omega) (by omega) hk hk' _ _ _ _ _ _ _ _ _ _ _ _ _ _ _ _ _ _ _ _ _ _ _ _ _ _ _ _ _ _ _ fun c6 c7 c8 c9 c10 c11 c12 c13 c14 c15 c16 c17 c18 c19 c20 c21 c22 c23 c24 c25 c26 c27 c28 c29 c30 c31 c32 => hK _ _ _ _ _ _ _ _ _ _ _ _ _ _ _ _ _ _ _ _ _ _ _ _ _ _ _ _ _ _ _ _ _ _ _
theorem m_nil {R : Type} (h : Hp) (p1 : PV) (K : AX → St → Option R) : exCode Tryd.prog E0 mB ⟨[.nilS, p1, .junk, .junk, .int .i64 0, .int .i64 0, .junk, .junk, .junk, .junk, .junk, .junk, .junk, .junk, .junk, .junk, .junk, .junk, .junk, .junk, .junk, .junk, .junk, .junk, .junk, .junk, .junk, .junk, .junk, .junk, .junk, .junk, .junk, .junk], h⟩ K = K (.ex 0) ⟨[.nilS, p1, .junk, .junk, .int .i64 0, .int .i64 0, .int .i64 0, .nilS, .int .i64 0, .bool false, .junk, .junk, .junk, .junk, .junk, .junk, .junk, .junk, .junk, .junk, .junk, .junk, .junk, .junk, .junk, .junk, .junk, .junk, .junk, .junk, .junk, .junk, .junk, .junk], h⟩ := by kernel_rfl
theorem deeds_nil {h : Hp} {k : Int} : exCode Tryd.prog E0 (Tryd.f32.body.getD .skip) ⟨[.nilS, .int .i64 k] ++ List.replicate (Tryd.f32.ntmps - 2) .junk, h⟩ (endW Tryd.prog Tryd.f32) = some (.int .i64 k, h) :=
  m_whole fun K hK => by
    rw [loopK_eq, m_nil]
    exact hK _ _ _ _ _ _ _ _ _ _ _ _ _ _ _ _ _ _ _ _ _ _ _ _ _ _ _ _ _ _ _ _ _ _ _
theorem w_markDeedS_mk : MkOk Tryd.prog 32 .deeds := by
  intro ps h h' p pin base w ρ us hk hI hH hus
  have fin : exCode Tryd.prog E0 (Tryd.f32.body.getD .skip) ⟨ps ++ List.replicate (Tryd.f32.ntmps - ps.length) .junk, h⟩ (endW Tryd.prog Tryd.f32) = some (p, h') := by
    unfold markK at hk
    split at hk
    case h_5 q k he =>
      unfold markDs at hk
      split at hk
      · injection hk with hk; injection hk with h1 h2; subst h1; subst h2; exact deeds_nil
      · split at hk
        · rename_i id e f xs hg
          split at hk
          · rename_i hc
            injection hk with hk; injection hk with h1 h2; subst h1; subst h2
            exact deeds_run hg hc.1 hc.2
          · cases hk
        · cases hk
      · cases hk
    all_goals first | (cases hk; done) | (rename_i he; cases he; done) | (rename_i he _; cases he; done) | contradiction
  exact wr_of (E := E0) E0_ok E0c follows_ (fn := Tryd.f32) (c := Tryd.f32.body.getD .skip) (by kernel_rfl) (by kernel_rfl) rfl fin hI hH hus
end FN
set_option linter.unusedVariables false
namespace FN
open Go Go.Proofs
/-! loop.example/firingnets/laws.FnExactReadJournal -/
@[reducible] def w_FnExactReadJournal_sig : Sig := { ps := [none], pc := [.str], rs := [none], rc := [.bool] }
noncomputable def w_FnExactReadJournal_E : Env' := withWr { fn := fun f => if f = 30 then some ⟨w_eqDeedS_sig, w_eqDeedS_f⟩ else if f = 34 then some ⟨s_ReadJournal_sig, s_ReadJournal_f⟩ else if f = 35 then some ⟨i_ReadJournal_sig, i_ReadJournal_f⟩ else if f = 36 then some ⟨w_heldDeedS_sig, w_heldDeedS_f⟩ else none, ck := ckT, cuts := [], mine := fun i => i == 16 || i == 21 || i == 26 || i == 35 || i == 38 || i == 46 || i == 51 || i == 60 } (fun f => if f = 32 then some (.deeds) else none)
noncomputable def w_FnExactReadJournal_f (x : Ts w_FnExactReadJournal_sig.pc) : Option (Ts w_FnExactReadJournal_sig.rc) := runFn Tryd.prog (w_FnExactReadJournal_E) Tryd.f6 w_FnExactReadJournal_sig x
theorem w_FnExactReadJournal_f_eq (x0 : (ByteArray)) : w_FnExactReadJournal_f x0 = (cond ((decide (1048576 < (ByteArray.size x0 : Int)))) (some true) (Option.bind (s_ReadJournal_f x0) fun r1 => (Option.bind (i_ReadJournal_f x0) fun r2 => (Option.bind (w_eqDeedS_f (r2.1, r1.1)) fun r3 => (cond ((!r3)) (some false) (cond ((r2.2 != r1.2)) (some false) (if (0 : Int) ≤ 1 ∧ 1 + 3 * (List.length r2.1 : Int) ≤ 4611686018427387904 then (Option.bind (w_heldDeedS_f ((markD 1 r2.1), 1)) fun r4 => (cond ((decide (r4 < 0))) (some false) (cond ((r4 != (1 + 3 * (List.length r2.1 : Int)))) (some false) (Option.bind (i_ReadJournal_f x0) fun r5 => (Option.bind (w_eqDeedS_f (r5.1, r1.1)) fun r6 => (cond ((!r6)) (some false) (cond ((r5.2 != r1.2)) (some false) (Option.bind (w_heldDeedS_f ((markD 1 r2.1), 1)) fun r7 => (cond ((decide (r7 < 0))) (some false) (cond ((r7 != (1 + 3 * (List.length r2.1 : Int)))) (some false) (some true))))))))))) else none))))))) := by
  kernel_rfl
theorem w_FnExactReadJournal_ent : Entb Tryd.prog 6 := ⟨Tryd.f6, by kernel_rfl, by kernel_rfl, by kernel_rfl⟩
theorem w_FnExactReadJournal_ok : CtrOk Tryd.prog 6 ⟨w_FnExactReadJournal_sig, w_FnExactReadJournal_f⟩ :=
  ctr_of (fn := Tryd.f6) (by kernel_rfl) (by kernel_rfl) (fun x : Ts w_FnExactReadJournal_sig.pc => w_FnExactReadJournal_E) (fun x => withWr_ok ⟨(fn_cons ⟨w_eqDeedS_ok, w_eqDeedS_ent⟩ (fn_cons ⟨s_ReadJournal_ok, s_ReadJournal_ent⟩ (fn_cons ⟨i_ReadJournal_ok, i_ReadJournal_ent⟩ (fn_cons ⟨w_heldDeedS_ok, w_heldDeedS_ent⟩ fn_none)))), clo_none, wr_none⟩ (tab_cons w_markDeedS_mk (tab_none))) (fun h => by cases h) follows_ (fun _ _ => trivial)
end FN
set_option linter.unusedVariables false
namespace FN
open Go Go.Proofs
/-! loop.example/firingnets/impl.JournalText -/
@[reducible] def i_JournalText_sig : Sig := { ps := [none], pc := [.view .deed], rs := [none], rc := [.str] }
noncomputable def i_JournalText_E : Env' := { fn := fun f => if f = 38 then some ⟨i_DeedText_sig, i_DeedText_f⟩ else none, ck := ckT, cuts := [(3, [3, 7, 8, 9])], mine := fun i => false }
noncomputable def i_JournalText_f (x : Ts i_JournalText_sig.pc) : Option (Ts i_JournalText_sig.rc) := runFn Tryd.prog (i_JournalText_E) Tryd.f42 i_JournalText_sig x
noncomputable def i_JournalText_l0 (y0 : ByteArray) (y1 : List (Int × Int × Int)) (y2 : Int) (y3 : Int) : Option ((ByteArray)) := from_ Tryd.prog (i_JournalText_E) Tryd.f42 i_JournalText_sig [1, 1, 0, 1, 0] ⟨mkT 23 [(3, .str y0), (7, .row false .deed y1), (8, .int .i64 y2), (9, .int .i64 y3)], []⟩
theorem i_JournalText_f_eq (x0 : (List (Int × Int × Int))) : i_JournalText_f x0 = (i_JournalText_l0 ByteArray.empty x0 (List.length x0 : Int) 0) := by
  kernel_rfl
theorem i_JournalText_l0_eq (y0 : ByteArray) (y1 : List (Int × Int × Int)) (y2 : Int) (y3 : Int) : i_JournalText_l0 y0 y1 y2 y3 = (cond ((decide (y3 < y2))) (if (0 : Int) ≤ y3 ∧ y3 < (List.length y1 : Int) then (Option.bind (i_DeedText_f ((List.getD y1 (y3 : Int).toNat (0, 0, 0)).1, (List.getD y1 (y3 : Int).toNat (0, 0, 0)).2.1, (List.getD y1 (y3 : Int).toNat (0, 0, 0)).2.2)) fun r1 => (cond ((ByteArray.toList r1 == ByteArray.toList ByteArray.empty)) (some ByteArray.empty) (if ByteArray.size r1 + ByteArray.size str13 ≤ 9223372036854775807 then (if ByteArray.size y0 + ByteArray.size (r1 ++ str13) ≤ 9223372036854775807 then (i_JournalText_l0 (y0 ++ (r1 ++ str13)) y1 y2 (IntKind.i64.wrap (y3 + 1))) else none) else none))) else none) (some y0)) := by
  refine (loopK_eq Tryd.prog (i_JournalText_E) (sub (Tryd.f42.body.getD .skip) [1, 1, 0, 1, 0, 0]) _ _).trans ?_
  kernel_rfl
theorem i_JournalText_ent : Entb Tryd.prog 42 := ⟨Tryd.f42, by kernel_rfl, by kernel_rfl, by kernel_rfl⟩
theorem i_JournalText_ok : CtrOk Tryd.prog 42 ⟨i_JournalText_sig, i_JournalText_f⟩ :=
  ctr_of (fn := Tryd.f42) (by kernel_rfl) (by kernel_rfl) (fun x : Ts i_JournalText_sig.pc => i_JournalText_E) (fun x => ⟨(fn_cons ⟨i_DeedText_ok, i_DeedText_ent⟩ fn_none), clo_none, wr_none⟩) (fun h => by cases h) follows_ (fun _ _ => trivial)
end FN
set_option linter.unusedVariables false
namespace FN
open Go Go.Proofs
/-! loop.example/firingnets/spec.JournalText -/
@[reducible] def s_JournalText_sig : Sig := { ps := [none], pc := [.view .deed], rs := [none], rc := [.str] }
noncomputable def s_JournalText_E : Env' := { fn := fun f => if f = 39 then some ⟨s_DeedText_sig, s_DeedText_f⟩ else none, ck := ckT, cuts := [(3, [0, 3, 4])], mine := fun i => false }
noncomputable def s_JournalText_f (x : Ts s_JournalText_sig.pc) : Option (Ts s_JournalText_sig.rc) := runFn Tryd.prog (s_JournalText_E) Tryd.f43 s_JournalText_sig x
noncomputable def s_JournalText_l0 (y0 : List (Int × Int × Int)) (y1 : ByteArray) (y2 : Int) : Option ((ByteArray)) := from_ Tryd.prog (s_JournalText_E) Tryd.f43 s_JournalText_sig [1, 1, 0, 1, 0] ⟨mkT 26 [(0, .row false .deed y0), (3, .str y1), (4, .int .i64 y2)], []⟩
theorem s_JournalText_f_eq (x0 : (List (Int × Int × Int))) : s_JournalText_f x0 = (s_JournalText_l0 x0 ByteArray.empty 0) := by
  kernel_rfl
theorem s_JournalText_l0_eq (y0 : List (Int × Int × Int)) (y1 : ByteArray) (y2 : Int) : s_JournalText_l0 y0 y1 y2 = (cond ((decide (y2 < (List.length y0 : Int)))) (if (0 : Int) ≤ y2 ∧ y2 < (List.length y0 : Int) then (Option.bind (s_DeedText_f ((List.getD y0 (y2 : Int).toNat (0, 0, 0)).1, (List.getD y0 (y2 : Int).toNat (0, 0, 0)).2.1, (List.getD y0 (y2 : Int).toNat (0, 0, 0)).2.2)) fun r1 => (cond ((ByteArray.toList r1 == ByteArray.toList ByteArray.empty)) (some ByteArray.empty) (if (0 : Int) ≤ y2 ∧ y2 < (List.length y0 : Int) then (Option.bind (s_DeedText_f ((List.getD y0 (y2 : Int).toNat (0, 0, 0)).1, (List.getD y0 (y2 : Int).toNat (0, 0, 0)).2.1, (List.getD y0 (y2 : Int).toNat (0, 0, 0)).2.2)) fun r2 => (if ByteArray.size y1 + ByteArray.size r2 ≤ 9223372036854775807 then (if ByteArray.size (y1 ++ r2) + ByteArray.size str13 ≤ 9223372036854775807 then (s_JournalText_l0 y0 ((y1 ++ r2) ++ str13) (IntKind.i64.wrap (y2 + 1))) else none) else none)) else none))) else none) (some y1)) := by
  refine (loopK_eq Tryd.prog (s_JournalText_E) (sub (Tryd.f43.body.getD .skip) [1, 1, 0, 1, 0, 0]) _ _).trans ?_
  kernel_rfl
theorem s_JournalText_ent : Entb Tryd.prog 43 := ⟨Tryd.f43, by kernel_rfl, by kernel_rfl, by kernel_rfl⟩
theorem s_JournalText_ok : CtrOk Tryd.prog 43 ⟨s_JournalText_sig, s_JournalText_f⟩ :=
  ctr_of (fn := Tryd.f43) (by kernel_rfl) (by kernel_rfl) (fun x : Ts s_JournalText_sig.pc => s_JournalText_E) (fun x => ⟨(fn_cons ⟨s_DeedText_ok, s_DeedText_ent⟩ fn_none), clo_none, wr_none⟩) (fun h => by cases h) follows_ (fun _ _ => trivial)
end FN
set_option linter.unusedVariables false
namespace FN
open Go Go.Proofs
/-! loop.example/firingnets/spec.l20Deeds -/
@[reducible] def s_l20Deeds_sig : Sig := { rd := some 118, ps := [some 3], pc := [.view .u8, .int .i64, .view .i64, .int .i64, .view .i64], rs := [none], rc := [.row 23 .deed, .int .i64] }
noncomputable def s_l20Deeds_E (b : List Int) : Env' := { keep := [0], rdb := b, fn := fun f => if f = 67 then some ⟨r_pick_sig, r_pick_f⟩ else if f = 91 then some ⟨s_l20Deed_sig, s_l20Deed_f⟩ else none, ck := ckT, cuts := [(3, [0, 3, 5, 6])], mine := fun i => false }
noncomputable def s_l20Deeds_f (x : Ts s_l20Deeds_sig.pc) : Option (Ts s_l20Deeds_sig.rc) := runFn Tryd.prog (s_l20Deeds_E x.1) Tryd.f117 s_l20Deeds_sig x
noncomputable def s_l20Deeds_l0 (b : List Int) (y0 : Int) (y1 : List (Int)) (y2 : Int) (y3 : List (Int)) (y4 : Int) (y5 : List (Int)) (y6 : List (Int × Int × Int)) : Option ((List (Int × Int × Int)) × (Int)) := from_ Tryd.prog (s_l20Deeds_E b) Tryd.f117 s_l20Deeds_sig [1, 1, 0, 1, 0] ⟨mkT 21 [(0, .ptr 0 0), (3, .ptr 1 0), (5, .own 2), (6, .int .i64 y0)], [some (.box 118 [.row false .u8 y1, .int .i64 y2]), some (.box 32 [.row false .i64 y3, .int .i64 y4, .row false .i64 y5]), some (.arr 23 true .deed y6)]⟩
theorem s_l20Deeds_f_eq (x0 : (List (Int))) (x1 : (Int)) (x2 : (List (Int))) (x3 : (Int)) (x4 : (List (Int))) : s_l20Deeds_f (x0, x1, x2, x3, x4) = (Option.bind (r_pick_f (x0, x1, 6)) fun r1 => (s_l20Deeds_l0 x0 r1.1 x0 r1.2 x2 x3 x4 ([] : List (Int × Int × Int)))) := by
  kernel_rfl
theorem s_l20Deeds_l0_eq (b : List Int) (y0 : Int) (y1 : List (Int)) (y2 : Int) (y3 : List (Int)) (y4 : Int) (y5 : List (Int)) (y6 : List (Int × Int × Int)) : s_l20Deeds_l0 b y0 y1 y2 y3 y4 y5 y6 = (cond ((decide (0 < y0))) (Option.bind (s_l20Deed_f (y1, y2, y3, y4, y5)) fun r1 => (if (List.length y6 + List.length ([(r1.1, r1.2.1, r1.2.2.1)] : List (Int × Int × Int))) * 24 ≤ 140737488355328 then (s_l20Deeds_l0 b (IntKind.i64.wrap (y0 - 1)) y1 r1.2.2.2 y3 y4 y5 (y6 ++ ([(r1.1, r1.2.1, r1.2.2.1)] : List (Int × Int × Int)))) else none)) (if 118 = 118 ∧ y1 = b then (some (y6, y2)) else none)) := by
  refine (loopK_eq Tryd.prog (s_l20Deeds_E b) (sub (Tryd.f117.body.getD .skip) [1, 1, 0, 1, 0, 0]) _ _).trans ?_
  kernel_rfl
theorem s_l20Deeds_ent : Entb Tryd.prog 117 := ⟨Tryd.f117, by kernel_rfl, by kernel_rfl, by kernel_rfl⟩
theorem s_l20Deeds_ok : CtrOk Tryd.prog 117 ⟨s_l20Deeds_sig, s_l20Deeds_f⟩ :=
  ctr_of (fn := Tryd.f117) (by kernel_rfl) (by kernel_rfl) (fun x : Ts s_l20Deeds_sig.pc => s_l20Deeds_E x.1) (fun x => ⟨(fn_cons ⟨r_pick_ok, r_pick_ent⟩ (fn_cons ⟨s_l20Deed_ok, s_l20Deed_ent⟩ fn_none)), clo_none, wr_none⟩) (fun _ x => ⟨rfl, fun b ps h => rd_head h⟩) follows_ (fun _ _ => trivial)
end FN
set_option linter.unusedVariables false
namespace FN
open Go Go.Proofs
/-! loop.example/firingnets/spec.l20Written -/
@[reducible] def s_l20Written_sig : Sig := { rd := some 118, ps := [], pc := [.view .u8, .int .i64], rs := [none], rc := [.row 23 .deed, .int .i64] }
noncomputable def s_l20Written_E (b : List Int) : Env' := { keep := [0], rdb := b, fn := fun f => if f = 39 then some ⟨s_DeedText_sig, s_DeedText_f⟩ else if f = 66 then some ⟨s_l20Place_sig, s_l20Place_f⟩ else if f = 117 then some ⟨s_l20Deeds_sig, s_l20Deeds_f⟩ else none, ck := ckT, cuts := [(4, [0, 3, 4, 5])], mine := fun i => false }
noncomputable def s_l20Written_f (x : Ts s_l20Written_sig.pc) : Option (Ts s_l20Written_sig.rc) := runFn Tryd.prog (s_l20Written_E x.1) Tryd.f93 s_l20Written_sig x
noncomputable def s_l20Written_l0 (b : List Int) (y0 : List (Int × Int × Int)) (y1 : Int) (y2 : List (Int)) (y3 : Int) (y4 : List (Int × Int × Int)) : Option ((List (Int × Int × Int)) × (Int)) := from_ Tryd.prog (s_l20Written_E b) Tryd.f93 s_l20Written_sig [1, 1, 1, 0, 1, 0] ⟨mkT 31 [(0, .ptr 0 0), (3, .own 1), (4, .row true .deed y0), (5, .int .i64 y1)], [some (.box 118 [.row false .u8 y2, .int .i64 y3]), some (.arr 23 true .deed y4)]⟩
theorem s_l20Written_f_eq (x0 : (List (Int))) (x1 : (Int)) : s_l20Written_f (x0, x1) = (Option.bind (s_l20Place_f (x0, x1, 0)) fun r1 => (Option.bind (s_l20Deeds_f (x0, r1.2.2.2, r1.1, r1.2.1, r1.2.2.1)) fun r2 => (s_l20Written_l0 x0 r2.1 0 x0 r2.2 ([] : List (Int × Int × Int))))) := by
  kernel_rfl
theorem s_l20Written_l0_eq (b : List Int) (y0 : List (Int × Int × Int)) (y1 : Int) (y2 : List (Int)) (y3 : Int) (y4 : List (Int × Int × Int)) : s_l20Written_l0 b y0 y1 y2 y3 y4 = (cond ((decide (y1 < (List.length y0 : Int)))) (if (0 : Int) ≤ y1 ∧ y1 < (List.length y0 : Int) then (Option.bind (s_DeedText_f ((List.getD y0 (y1 : Int).toNat (0, 0, 0)).1, (List.getD y0 (y1 : Int).toNat (0, 0, 0)).2.1, (List.getD y0 (y1 : Int).toNat (0, 0, 0)).2.2)) fun r1 => (cond ((!(ByteArray.toList r1 == ByteArray.toList ByteArray.empty))) (if (0 : Int) ≤ y1 ∧ y1 < (List.length y0 : Int) then (if (List.length y4 + List.length ([((List.getD y0 (y1 : Int).toNat (0, 0, 0)).1, (List.getD y0 (y1 : Int).toNat (0, 0, 0)).2.1, (List.getD y0 (y1 : Int).toNat (0, 0, 0)).2.2)] : List (Int × Int × Int))) * 24 ≤ 140737488355328 then (s_l20Written_l0 b y0 (IntKind.i64.wrap (y1 + 1)) y2 y3 (y4 ++ ([((List.getD y0 (y1 : Int).toNat (0, 0, 0)).1, (List.getD y0 (y1 : Int).toNat (0, 0, 0)).2.1, (List.getD y0 (y1 : Int).toNat (0, 0, 0)).2.2)] : List (Int × Int × Int)))) else none) else none) (s_l20Written_l0 b y0 (IntKind.i64.wrap (y1 + 1)) y2 y3 y4))) else none) (if 118 = 118 ∧ y2 = b then (some (y4, y3)) else none)) := by
  refine (loopK_eq Tryd.prog (s_l20Written_E b) (sub (Tryd.f93.body.getD .skip) [1, 1, 1, 0, 1, 0, 0]) _ _).trans ?_
  kernel_rfl
theorem s_l20Written_ent : Entb Tryd.prog 93 := ⟨Tryd.f93, by kernel_rfl, by kernel_rfl, by kernel_rfl⟩
theorem s_l20Written_ok : CtrOk Tryd.prog 93 ⟨s_l20Written_sig, s_l20Written_f⟩ :=
  ctr_of (fn := Tryd.f93) (by kernel_rfl) (by kernel_rfl) (fun x : Ts s_l20Written_sig.pc => s_l20Written_E x.1) (fun x => ⟨(fn_cons ⟨s_DeedText_ok, s_DeedText_ent⟩ (fn_cons ⟨s_l20Place_ok, s_l20Place_ent⟩ (fn_cons ⟨s_l20Deeds_ok, s_l20Deeds_ent⟩ fn_none))), clo_none, wr_none⟩) (fun _ x => ⟨rfl, fun b ps h => rd_head h⟩) follows_ (fun _ _ => trivial)
end FN
set_option linter.unusedVariables false
namespace FN
open Go Go.Proofs
/-! loop.example/firingnets/spec.DrawJournalText -/
@[reducible] def s_DrawJournalText_sig : Sig := { ps := [none], pc := [.view .u8], rs := [none], rc := [.row 23 .deed] }
noncomputable def s_DrawJournalText_E : Env' := { fn := fun f => if f = 64 then some ⟨s_l20Open_sig, s_l20Open_f⟩ else if f = 93 then some ⟨s_l20Written_sig, s_l20Written_f⟩ else if f = 94 then some ⟨r_odd_sig, r_odd_f⟩ else none, ck := ckT, cuts := [], mine := fun i => i == 6 || i == 8 || i == 10 }
noncomputable def s_DrawJournalText_f (x : Ts s_DrawJournalText_sig.pc) : Option (Ts s_DrawJournalText_sig.rc) := runFn Tryd.prog (s_DrawJournalText_E) Tryd.f41 s_DrawJournalText_sig x
theorem s_DrawJournalText_f_eq (x0 : (List (Int))) : s_DrawJournalText_f x0 = (Option.bind (s_l20Open_f x0) fun r1 => (Option.bind (s_l20Written_f (r1.1, r1.2)) fun r2 => (Option.bind (r_odd_f (r1.1, r2.2, 12)) fun r3 => (cond (r3.1) (if (List.length r2.1 + List.length ([(9, 0, 0)] : List (Int × Int × Int))) * 24 ≤ 140737488355328 then (some (r2.1 ++ ([(9, 0, 0)] : List (Int × Int × Int)))) else none) (some r2.1))))) := by
  kernel_rfl
theorem s_DrawJournalText_ent : Entb Tryd.prog 41 := ⟨Tryd.f41, by kernel_rfl, by kernel_rfl, by kernel_rfl⟩
theorem s_DrawJournalText_ok : CtrOk Tryd.prog 41 ⟨s_DrawJournalText_sig, s_DrawJournalText_f⟩ :=
  ctr_of (fn := Tryd.f41) (by kernel_rfl) (by kernel_rfl) (fun x : Ts s_DrawJournalText_sig.pc => s_DrawJournalText_E) (fun x => ⟨(fn_cons ⟨s_l20Open_ok, s_l20Open_ent⟩ (fn_cons ⟨s_l20Written_ok, s_l20Written_ent⟩ (fn_cons ⟨r_odd_ok, r_odd_ent⟩ fn_none))), clo_none, wr_none⟩) (fun h => by cases h) follows_ (fun _ _ => trivial)
end FN
set_option linter.unusedVariables false
namespace FN
open Go Go.Proofs
/-! loop.example/firingnets/laws.sameDeeds -/
@[reducible] def w_sameDeeds_sig : Sig := { ps := [none, none], pc := [.view .deed, .view .deed], rs := [none], rc := [.bool] }
noncomputable def w_sameDeeds_E : Env' := { fn := fun f => none, ck := ckT, cuts := [(4, [0, 1, 5])], mine := fun i => false }
noncomputable def w_sameDeeds_f (x : Ts w_sameDeeds_sig.pc) : Option (Ts w_sameDeeds_sig.rc) := runFn Tryd.prog (w_sameDeeds_E) Tryd.f44 w_sameDeeds_sig x
noncomputable def w_sameDeeds_l0 (y0 : List (Int × Int × Int)) (y1 : List (Int × Int × Int)) (y2 : Int) : Option ((Bool)) := from_ Tryd.prog (w_sameDeeds_E) Tryd.f44 w_sameDeeds_sig [1, 1, 0, 1, 0] ⟨mkT 26 [(0, .row false .deed y0), (1, .row false .deed y1), (5, .int .i64 y2)], []⟩
theorem w_sameDeeds_f_eq (x0 : (List (Int × Int × Int))) (x1 : (List (Int × Int × Int))) : w_sameDeeds_f (x0, x1) = (cond (((List.length x0 : Int) != (List.length x1 : Int))) (some false) (w_sameDeeds_l0 x0 x1 0)) := by
  kernel_rfl
theorem w_sameDeeds_l0_eq (y0 : List (Int × Int × Int)) (y1 : List (Int × Int × Int)) (y2 : Int) : w_sameDeeds_l0 y0 y1 y2 = (cond ((decide (y2 < (List.length y0 : Int)))) (if (0 : Int) ≤ y2 ∧ y2 < (List.length y0 : Int) then (if (0 : Int) ≤ y2 ∧ y2 < (List.length y1 : Int) then (cond ((!(((List.getD y0 (y2 : Int).toNat (0, 0, 0)).1 == (List.getD y1 (y2 : Int).toNat (0, 0, 0)).1) && (((List.getD y0 (y2 : Int).toNat (0, 0, 0)).2.1 == (List.getD y1 (y2 : Int).toNat (0, 0, 0)).2.1) && (((List.getD y0 (y2 : Int).toNat (0, 0, 0)).2.2 == (List.getD y1 (y2 : Int).toNat (0, 0, 0)).2.2) && true))))) (some false) (w_sameDeeds_l0 y0 y1 (IntKind.i64.wrap (y2 + 1)))) else none) else none) (some true)) := by
  refine (loopK_eq Tryd.prog (w_sameDeeds_E) (sub (Tryd.f44.body.getD .skip) [1, 1, 0, 1, 0, 0]) _ _).trans ?_
  kernel_rfl
theorem w_sameDeeds_ent : Entb Tryd.prog 44 := ⟨Tryd.f44, by kernel_rfl, by kernel_rfl, by kernel_rfl⟩
theorem w_sameDeeds_ok : CtrOk Tryd.prog 44 ⟨w_sameDeeds_sig, w_sameDeeds_f⟩ :=
  ctr_of (fn := Tryd.f44) (by kernel_rfl) (by kernel_rfl) (fun x : Ts w_sameDeeds_sig.pc => w_sameDeeds_E) (fun x => ⟨fn_none, clo_none, wr_none⟩) (fun h => by cases h) follows_ (fun _ _ => trivial)
end FN
set_option linter.unusedVariables false
namespace FN
open Go Go.Proofs
/-! loop.example/firingnets/laws.FnJournalText -/
@[reducible] def w_FnJournalText_sig : Sig := { ps := [none], pc := [.view .u8], rs := [none], rc := [.bool] }
noncomputable def w_FnJournalText_E : Env' := { fn := fun f => if f = 21 then some ⟨w_alive_sig, w_alive_f⟩ else if f = 35 then some ⟨i_ReadJournal_sig, i_ReadJournal_f⟩ else if f = 41 then some ⟨s_DrawJournalText_sig, s_DrawJournalText_f⟩ else if f = 42 then some ⟨i_JournalText_sig, i_JournalText_f⟩ else if f = 43 then some ⟨s_JournalText_sig, s_JournalText_f⟩ else if f = 44 then some ⟨w_sameDeeds_sig, w_sameDeeds_f⟩ else none, ck := ckT, cuts := [], mine := fun i => false }
noncomputable def w_FnJournalText_f (x : Ts w_FnJournalText_sig.pc) : Option (Ts w_FnJournalText_sig.rc) := runFn Tryd.prog (w_FnJournalText_E) Tryd.f9 w_FnJournalText_sig x
theorem w_FnJournalText_f_eq (x0 : (List (Int))) : w_FnJournalText_f x0 = (cond ((decide (1048576 < (List.length x0 : Int)))) (some true) (Option.bind (s_DrawJournalText_f x0) fun r1 => (Option.bind (i_JournalText_f r1) fun r2 => (Option.bind (s_JournalText_f r1) fun r3 => (cond ((!(ByteArray.toList r2 == ByteArray.toList r3))) (some false) (cond ((ByteArray.toList r2 == ByteArray.toList ByteArray.empty)) (Option.bind (w_alive_f ()) fun r4 => (some r4)) (Option.bind (i_ReadJournal_f r2) fun r5 => (Option.bind (w_sameDeeds_f (r5.1, r1)) fun r6 => (cond (r6) (some (r5.2 == (ByteArray.size r2 : Int))) (some false)))))))))) := by
  kernel_rfl
theorem w_FnJournalText_ent : Entb Tryd.prog 9 := ⟨Tryd.f9, by kernel_rfl, by kernel_rfl, by kernel_rfl⟩
theorem w_FnJournalText_ok : CtrOk Tryd.prog 9 ⟨w_FnJournalText_sig, w_FnJournalText_f⟩ :=
  ctr_of (fn := Tryd.f9) (by kernel_rfl) (by kernel_rfl) (fun x : Ts w_FnJournalText_sig.pc => w_FnJournalText_E) (fun x => ⟨(fn_cons ⟨w_alive_ok, w_alive_ent⟩ (fn_cons ⟨i_ReadJournal_ok, i_ReadJournal_ent⟩ (fn_cons ⟨s_DrawJournalText_ok, s_DrawJournalText_ent⟩ (fn_cons ⟨i_JournalText_ok, i_JournalText_ent⟩ (fn_cons ⟨s_JournalText_ok, s_JournalText_ent⟩ (fn_cons ⟨w_sameDeeds_ok, w_sameDeeds_ent⟩ fn_none)))))), clo_none, wr_none⟩) (fun h => by cases h) follows_ (fun _ _ => trivial)
end FN
