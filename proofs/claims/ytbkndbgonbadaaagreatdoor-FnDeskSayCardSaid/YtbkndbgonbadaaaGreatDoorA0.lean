/- Texts of the proof, joined: The interpreter, and that it is sound. -/
import Derived.Orders
import Derived.Laws.AppendOwn
import Derived.Below
import Derived.Laws.BytesArg
import GoSem.ClaimKeys
import Derived.Tactics
import Derived.WalkKit
import Derived.Maps.AppendAt
import Derived.Laws.MakeOwn
import Derived.Laws.OwnMore
import Derived.Laws.Cover3
import Derived.Laws.Small
import Derived.Laws.StructEq
import Derived.ChangeKeysEq
import Derived.Laws.Tables
import Derived.Laws.Slices
set_option linter.unusedVariables false
set_option linter.unusedSimpArgs false
set_option linter.unusedSectionVars false
namespace FN
open Go
inductive CK | i64 | u8 | str | intss | place | deed | bool | pair
  deriving DecidableEq
@[reducible] def CK.T : CK → Type
  | .i64 | .u8 => Int
  | .str => ByteArray
  | .intss => List Int
  | .place => List Int × Int × List Int
  | .deed => Int × Int × Int
  | .bool => Bool
  | .pair => Int × Int
def CK.sz : CK → Nat
  | .place | .deed => 3
  | .pair => 2
  | _ => 1

/-- Both ways of a test. An abbreviation: the kernel unfolds it ahead of a join's name. -/
abbrev condA {α : Type} (c : Bool) (x y : α) : α := match c with | true => x | false => y
theorem condA_true {α : Type} (x y : α) : condA true x y = x := rfl
theorem condA_false {α : Type} (x y : α) : condA false x y = y := rfl
inductive PV where
  | int (k : IntKind) (n : Int)
  | bool (b : Bool)
  | str (s : ByteArray)
  | nilS
  | row (f : Bool) (c : CK) (xs : List c.T)
  | rp (f : Bool) (c : CK) (xs : List c.T) (i off : Nat)
  | own (id : Nat)
  | ep (id : Nat) (c : CK) (i off : Nat)
  | ptr (id off : Nat)
  | agg (ps : List PV)
  | tup (ps : List PV)
  | fn (f : FuncId) (caps : List PV)
  | emp      -- a slice of no length and no capacity
  | junk

def CK.dflt : (c : CK) → c.T
  | .i64 | .u8 => (0 : Int)
  | .str => ByteArray.empty
  | .intss => ([] : List Int)
  | .place => (([] : List Int), (0 : Int), ([] : List Int))
  | .deed => ((0 : Int), (0 : Int), (0 : Int))
  | .bool => false
  | .pair => ((0 : Int), (0 : Int))
/-- Its elements hold no rows. -/
def CK.flat : CK → Bool
  | .intss | .place => false
  | _ => true
/-- An element's cells. -/
def CK.flds (f : Bool) : (c : CK) → c.T → List PV
  | .i64, x => [.int .i64 x]
  | .u8, x => [.int .u8 x]
  | .str, x => [.str x]
  | .intss, x => [.row f .i64 x]
  | .place, x => [.row f .i64 x.1, .int .i64 x.2.1, .row f .i64 x.2.2]
  | .deed, x => [.int .i64 x.1, .int .i64 x.2.1, .int .i64 x.2.2]
  | .bool, x => [.bool x]
  | .pair, x => [.int .i64 x.1, .int .i64 x.2]

inductive Blk where
  | box (t : TypeId) (cells : List PV)
  | arr (e : TypeId) (f : Bool) (c : CK) (xs : List c.T)

abbrev Hp := List (Option Blk)
structure St where
  t : List PV
  h : Hp

def ofVal : Value → PV
  | .int k n => .int k n
  | .bool b => .bool b
  | .string s => .str s
  | .slice none 0 0 => .nilS
  | _ => .junk
def ev (t : List PV) : Operand → PV
  | .tmp i => t.getD i .junk
  | .const v => ofVal v
  | .func f => .fn f []
  | .global _ => .junk

def Hp.get (h : Hp) (i : Nat) : Option Blk := (h[i]?).getD none

/-- A contract: what a function answers, over pure values. -/
structure Ctr where
  α : Type
  run : Nat → List PV → Option α
  out : α → List Blk × List PV    -- fresh blocks, results

structure Env where
  fn : FuncId → Option Ctr
  ck : TypeId → Option CK

section
variable {R : Type} (P : Program) (E : Env)
/-- Two cells of a struct that is compared: 0 a number, 1 a truth, 2 a string. -/
def eqCell : Nat → PV → PV → Option Bool
  | 0, .int k a, .int k' b => if k = k' then some (a == b) else none
  | 1, .bool a, .bool b => some (a == b)
  | 2, .str a, .str b => some (a.toList == b.toList)
  | _, _, _ => none
def eqCells : List Nat → List PV → List PV → Option Bool
  | [], [], [] => some true
  | k :: ks, p :: ps, q :: qs => match eqCell k p q, eqCells ks ps qs with
    | some a, some b => some (a && b)
    | _, _ => none
  | _, _, _ => none
def binK (tb ts : Bool) (st : Option (List Nat)) (op : BinOp) (x y : PV) (K : PV → Option R) : Option R :=
  match op, x, y with
  | .shl, .int k a, .int _ b => if b < 0 then none else K (.int k (k.wrap (a * 2 ^ min b.toNat k.bits)))
  | .shr, .int k a, .int _ b => if b < 0 then none else K (.int k (a.fdiv (2 ^ min b.toNat k.bits)))
  | .add, .int k a, .int k' b => if k = k' then K (.int k (k.wrap (a + b))) else none
  | .sub, .int k a, .int k' b => if k = k' then K (.int k (k.wrap (a - b))) else none
  | .mul, .int k a, .int k' b => if k = k' then K (.int k (k.wrap (a * b))) else none
  | .quo, .int k a, .int k' b => if k = k' then if b = 0 then none else K (.int k (k.wrap (a.tdiv b))) else none
  | .rem, .int k a, .int k' b => if k = k' then if b = 0 then none else K (.int k (a.tmod b)) else none
  | .and, .int k a, .int k' b => if k = k' then K (.int k (Go.bits .and k a b)) else none
  | .or, .int k a, .int k' b => if k = k' then K (.int k (Go.bits .or k a b)) else none
  | .xor, .int k a, .int k' b => if k = k' then K (.int k (Go.bits .xor k a b)) else none
  | .andNot, .int k a, .int k' b => if k = k' then K (.int k (Go.bits .andNot k a b)) else none
  | .eql, .int k a, .int k' b => if k = k' then K (.bool (a == b)) else none
  | .neq, .int k a, .int k' b => if k = k' then K (.bool (a != b)) else none
  | .lss, .int k a, .int k' b => if k = k' then K (.bool (decide (a < b))) else none
  | .leq, .int k a, .int k' b => if k = k' then K (.bool (decide (a ≤ b))) else none
  | .gtr, .int k a, .int k' b => if k = k' then K (.bool (decide (b < a))) else none
  | .geq, .int k a, .int k' b => if k = k' then K (.bool (decide (b ≤ a))) else none
  | .eql, .bool a, .bool b => if tb = true then K (.bool (a == b)) else none
  | .neq, .bool a, .bool b => if tb = true then K (.bool (!(a == b))) else none
  | .eql, .nilS, .nilS => if ts = true then K (.bool true) else none
  | .neq, .nilS, .nilS => if ts = true then K (.bool false) else none
  | .eql, .row _ _ xs, .nilS => if ts = true ∧ xs.length ≠ 0 then K (.bool false) else none
  | .neq, .row _ _ xs, .nilS => if ts = true ∧ xs.length ≠ 0 then K (.bool true) else none
  | .add, .str a, .str b => if a.size + b.size ≤ 9223372036854775807 then K (.str (a ++ b)) else none
  | .eql, .str a, .str b => K (.bool (a.toList == b.toList))
  | .neq, .str a, .str b => K (.bool (!(a.toList == b.toList)))
  | .eql, .agg ps, .agg qs => match st with | some ks => (match eqCells ks ps qs with | some b => K (.bool b) | none => none) | none => none
  | .neq, .agg ps, .agg qs => match st with | some ks => (match eqCells ks ps qs with | some b => K (.bool (!b)) | none => none) | none => none
  | _, _, _ => none
end
end FN

namespace FN
open Go
/-! Shapes of arguments and results. -/
inductive RS where
  | int (k : IntKind) | bool | str | row (e : TypeId) (c : CK) | view (c : CK) | any
  | fview (c : CK)     -- as a result: nobody's own, but new memory alone
  | nil                -- as a result: the literal nil slice
@[reducible] def RS.T : RS → Type
  | .int _ => Int
  | .bool => Bool
  | .str => ByteArray
  | .row _ c => List c.T
  | .view c => List c.T
  | .any => Unit
  | .fview c => List c.T
  | .nil => Unit
@[reducible] def Ts : List RS → Type
  | [] => Unit
  | [a] => a.T
  | a :: b :: as => a.T × Ts (b :: as)
def castRow {c c' : CK} (xs : List c'.T) : Option (List c.T) :=
  if h : c' = c then some (h ▸ xs) else none
/-- A cell as an argument: read alone. -/
def inC : (r : RS) → PV → Option r.T
  | .int k, .int k' n => if k' = k then some n else none
  | .bool, .bool b => some b
  | .str, .str s => some s
  | .view _, .nilS => some []
  | .any, .nilS => some ()
  | .view c, .row _ c' xs => castRow (c := c) xs
  | _, _ => none
def inCs : (rs : List RS) → List PV → Option (Ts rs)
  | [], [] => some ()
  | [a], [p] => inC a p
  | a :: b :: as, p :: q :: ps => (inC a p).bind fun x => (inCs (b :: as) (q :: ps)).bind fun y => some (x, y)
  | _, _ => none
/-- An argument's cell as the called function sees it. -/
def inP : (r : RS) → r.T → PV
  | .int k, n => .int k n
  | .bool, b => .bool b
  | .str, s => .str s
  | .row _ c, xs => .row false c xs
  | .view c, xs => .row false c xs
  | .any, _ => .nilS
  | .fview c, xs => .row false c xs
  | .nil, _ => .nilS
def inPs : (rs : List RS) → Ts rs → List PV
  | [], _ => []
  | [a], x => [inP a x]
  | a :: b :: as, x => inP a x.1 :: inPs (b :: as) x.2
/-- A function's outer shape. -/
structure Sig where
  rd : Option TypeId := none    -- the first parameter is a pointer to a reader: a box of a row of bytes and a place
  ps : List (Option Nat)        -- the other parameters; some n: a struct of n cells
  pc : List RS                  -- their cells, the reader's two ahead
  nw : Option TypeId := none    -- the result is a pointer to a new reader
  rs : List (Option Nat)
  rc : List RS                  -- the results' cells, the reader's place behind them
  nn : Bool := false            -- the result is one row, and nil if it is empty
def isView : RS → Bool
  | .view _ => true
  | _ => false
/-- As a result it is frozen. -/
def fzB : RS → Bool
  | .view _ | .fview _ => true
  | _ => false
/-- It may hand on its arguments' memory. -/
def Sig.sh (s : Sig) : Bool := s.rc.any isView
def Sig.fz (s : Sig) : Bool := s.rc.any fzB
def flat : List (Option Nat) → List PV → Option (List PV)
  | [], [] => some []
  | none :: as, p :: ps => (flat as ps).map (p :: ·)
  | some n :: as, .agg cs :: ps => if cs.length = n then (flat as ps).map (cs ++ ·) else none
  | _, _ => none
/-- Results: the cells' values with their blocks, from id b on. -/
def outC (b : Nat) : (r : RS) → r.T → List Blk × PV
  | .int k, n => ([], .int k n)
  | .bool, x => ([], .bool x)
  | .str, s => ([], .str s)
  | .row e c, xs => ([.arr e true c xs], .own b)
  | .view c, xs => ([], .row false c xs)
  | .any, _ => ([], .junk)
  | .fview c, xs => ([], .row true c xs)
  | .nil, _ => ([], .nilS)
def outCs (b : Nat) : (rs : List RS) → Ts rs → List Blk × List PV
  | [], _ => ([], [])
  | [a], x => let y := outC b a x; (y.1, [y.2])
  | a :: c :: as, x => let y := outC b a x.1; let z := outCs (b + y.1.length) (c :: as) x.2; (y.1 ++ z.1, y.2 :: z.2)
def unflat : List (Option Nat) → List PV → List PV
  | [], _ => []
  | none :: as, p :: ps => p :: unflat as ps
  | some n :: as, ps => .agg (ps.take n) :: unflat as (ps.drop n)
  | _, [] => []
/-- An empty row that is nil. -/
def emptyB : (rs : List RS) → Ts rs → Bool
  | [.row _ _], xs => List.isEmpty xs
  | _, _ => false
def nnB (sig : Sig) (r : Ts sig.rc) : Bool := sig.nn && (match sig.rs with | [none] => true | _ => false) && emptyB sig.rc r
structure Ctr' where
  sig : Sig
  run : Ts sig.pc → Option (Ts sig.rc)
/-- A cell as a result: what is the call's own, or nothing in memory. -/
def resC (h : Hp) : (r : RS) → PV → Option r.T
  | .int k, .int k' n => if k' = k then some n else none
  | .bool, .bool b => some b
  | .str, .str s => some s
  | .row _ _, .nilS => some []
  | .row e c, .own id => match h.get id with
    | some (.arr e' f c' xs) => if e' = e ∧ f = true then castRow (c := c) xs else none
    | _ => none
  | .view c, .row _ c' xs => castRow (c := c) xs
  | .view _, .nilS => some []
  | .view _, .emp => some []
  | .fview c, .row f c' xs => if f = true then castRow (c := c) xs else none
  | .fview _, .nilS => some []
  | .fview _, .emp => some []
  | .nil, .nilS => some ()
  | _, _ => none
def resCs (h : Hp) : (rs : List RS) → List PV → Option (Ts rs)
  | [], [] => some ()
  | [a], [p] => resC h a p
  | a :: b :: as, p :: q :: ps => (resC h a p).bind fun x => (resCs h (b :: as) (q :: ps)).bind fun y => some (x, y)
  | _, _ => none

/-- It goes on with one answer, or not at all. -/
def D {A : Type} (F : (R : Type) → (A → Option R) → Option R) : Prop := ∀ (R : Type) (K : A → Option R) (r : R), F R K = some r → ∃ a, K a = some r ∧ ∀ (R' : Type) (K' : A → Option R'), F R' K' = K' a
structure Env' where
  keep : List Nat := []   -- [0]: the reader that was handed in
  rdb : List Int := []    -- its bytes
  fn : FuncId → Option Ctr'
  ck : TypeId → Option CK
  cuts : List (Nat × List Nat)
  mine : Nat → Bool     -- at these slots a call's rows are the caller's own
  clo : (R : Type) → FuncId → List PV → Hp → (Hp → Option R) → Option R := fun _ _ _ _ _ => none   -- a closure without results, entered in place
  cloD : ∀ f ps h, D fun R K => clo R f ps h K := by intro _ _ _ _ _ _ h; cases h
  wr : (R : Type) → FuncId → List PV → Hp → (PV → Hp → Option R) → Option R := fun _ _ _ _ _ => none   -- a function that writes into what it is handed
  wrD : ∀ f ps h, D fun R (K : PV × Hp → Option R) => wr R f ps h fun p h' => K (p, h') := by intro _ _ _ _ _ _ h; cases h

section
variable {R : Type} (P : Program) (E : Env')
def szOf (t : TypeId) : Nat := ((P.info? t).map (·.size)).getD 0
def isAggB (t : TypeId) : Bool := match P.underlying t with
  | some (.struct _) | some (.array _ _) => true
  | _ => false
def zeroPs (t : TypeId) : Option (List PV) := ((P.info? t).bind (·.zero)).map fun v => v.cells.toList.map ofVal
def elemT (t : TypeId) : Option TypeId := match P.underlying t with
  | some (.slice e) => some e
  | _ => none
def offOf (t : TypeId) (f : Nat) : Option (Nat × TypeId) := match P.underlying t with
  | some (.struct fs) => (fs[f]?).map fun x => (x.offset, x.type)
  | _ => none
def cellsOf : PV → List PV
  | .agg ps => ps
  | p => [p]
def strTy (ty : TypeId) : Bool := match P.underlying ty with | some .string => true | _ => false
def readK (t : TypeId) (cells : List PV) (off : Nat) (K : PV → Option R) : Option R :=
  match P.underlying t with
  | none => none
  | some _ => if isAggB P t then (if off + szOf P t ≤ cells.length then K (.agg ((cells.drop off).take (szOf P t))) else none)
    else match cells[off]? with | some p => K p | none => none
def loadK (t : TypeId) (p : PV) (h : Hp) (K : PV → Option R) : Option R :=
  match p with
  | .ptr id off => match h.get id with | some (.box _ cells) => readK P t cells off K | _ => none
  | .rp f c xs i off => readK P t (c.flds f (xs.getD i c.dflt)) off K
  | .ep id c' i off => match h.get id with | some (.arr _ f c xs) => if c = c' then readK P t (c.flds f (xs.getD i c.dflt)) off K else none | _ => none
  | _ => none
def frz (h : Hp) (p : PV) : PV × Hp :=
  match p with
  | .own id => match h.get id with | some (.arr _ f c xs) => (.row f c xs, h.set id none) | _ => (p, h)
  | p => (p, h)
def frzs (h : Hp) : List PV → List PV × Hp
  | [] => ([], h)
  | p :: ps => let a := frz h p; let b := frzs a.2 ps; (a.1 :: b.1, b.2)
/-- The results that are frozen. -/
def frzR (h : Hp) : List RS → List PV → List PV × Hp
  | r :: rs, p :: ps => let a := if fzB r = true then frz h p else (p, h); let b := frzR a.2 rs ps; (a.1 :: b.1, b.2)
  | _, ps => (ps, h)
def seen1 (h : Hp) : PV → PV
  | .own id => match h.get id with | some (.arr _ f c xs) => .row f c xs | _ => .junk
  | .int k n => .int k n
  | .bool b => .bool b
  | .str s => .str s
  | .nilS => .nilS
  | .row f c xs => .row f c xs
  | _ => .junk
def seen (h : Hp) : PV → PV
  | .agg ps => .agg (ps.map (seen1 h))
  | p => seen1 h p
def decI (f : Bool) : PV → Option (List Int)
  | .nilS => some []
  | .row f' c xs => if f && !f' then none else castRow (c := .i64) xs
  | _ => none
def decE (f : Bool) : (c : CK) → List PV → Option c.T
  | .i64, [.int .i64 x] => some x
  | .u8, [.int .u8 x] => some x
  | .str, [.str s] => some s
  | .intss, [p] => decI f p
  | .place, [a, .int .i64 k, b] => (decI f a).bind fun x => (decI f b).bind fun y => some (x, k, y)
  | .deed, [.int .i64 a, .int .i64 b, .int .i64 c] => some (a, b, c)
  | .bool, [.bool x] => some x
  | .pair, [.int .i64 a, .int .i64 b] => some (a, b)
  | _, _ => none
def decEs (f : Bool) (c : CK) : Nat → List PV → Option (List c.T)
  | 0, [] => some []
  | n + 1, ps => (decE f c (ps.take c.sz)).bind fun x => (decEs f c n (ps.drop c.sz)).bind fun xs => some (x :: xs)
  | _, _ => none
def oneP : PV → Bool
  | .agg _ | .tup _ | .junk | .fn _ (_ :: _) => false
  | _ => true
def storeK (t : TypeId) (p v : PV) (h : Hp) (K : Hp → Option R) : Option R :=
  match p with
  | .ptr id off => match h.get id with
    | some (.box bt cells) => if (cellsOf v).length = szOf P t ∧ off + szOf P t ≤ cells.length ∧ (cellsOf v).all oneP = true ∧ (P.info? t).isSome then K (h.set id (some (.box bt (cells.take off ++ cellsOf v ++ cells.drop (off + szOf P t))))) else none
    | _ => none
  | .ep id c' i off =>
    let z := frzs h (cellsOf v)
    match z.2.get id with
    | some (.arr e f c xs) =>
      if c = c' then
        if z.1.length = szOf P t ∧ off + szOf P t ≤ c.sz ∧ (cellsOf v).all oneP = true ∧ (P.info? t).isSome then
          match decE f c (((c.flds f (xs.getD i c.dflt)).take off) ++ z.1 ++ (c.flds f (xs.getD i c.dflt)).drop (off + szOf P t)) with
          | some x => K (z.2.set id (some (.arr e f c (xs.set i x))))
          | none => none
        else none
      else none
    | _ => none
  | _ => none
def placesOk (t : TypeId) : Bool := match P.underlying t with
  | some (.struct fs) => fs.toList.all fun f => (P.info? f.type).isSome
  | _ => false
def fillK (ty : TypeId) (t : List PV) : List (Nat × Operand) → List PV → Option (List PV)
  | [], cells => some cells
  | x :: rest, cells => match offOf P ty x.1 with
    | some (o, ft) => if (cellsOf (ev t x.2)).length = szOf P ft ∧ o + (cellsOf (ev t x.2)).length ≤ cells.length ∧ (cellsOf (ev t x.2)).all oneP = true then fillK ty t rest (cells.take o ++ cellsOf (ev t x.2) ++ cells.drop (o + (cellsOf (ev t x.2)).length)) else none
    | none => none
def isZ : CK → List Value → Bool
  | .i64, [.int .i64 n] => n == 0
  | .u8, [.int .u8 n] => n == 0
  | .str, [.string s] => s.size == 0
  | .intss, [.slice none 0 0] => true
  | .place, [.slice none 0 0, .int .i64 n, .slice none 0 0] => n == 0
  | .deed, [.int .i64 a, .int .i64 b, .int .i64 c] => a == 0 && b == 0 && c == 0
  | .bool, [.bool x] => !x
  | .pair, [.int .i64 a, .int .i64 b] => a == 0 && b == 0
  | _, _ => false
def zOk (e : TypeId) (c : CK) : Bool := szOf P e == c.sz && match (P.info? e).bind (·.zero) with
  | some z => isZ c z.cells.toList
  | none => false
def sliceK (ty : TypeId) (x : PV) (lo hi : Option PV) (h : Hp) (K : PV → Hp → Option R) : Option R :=
  let go (n : Nat) (k : Nat → Nat → Option R) : Option R :=
    match lo, hi with
    | none, none => k 0 n
    | some (.int _ a), none => if 0 ≤ a ∧ a ≤ n then k a.toNat n else none
    | none, some (.int _ b) => if 0 ≤ b ∧ b ≤ n then k 0 b.toNat else none
    | some (.int _ a), some (.int _ b) => if 0 ≤ b ∧ b ≤ n then (if 0 ≤ a ∧ a ≤ b then k a.toNat b.toNat else none) else none
    | _, _ => none
  match x with
  | .str s => if strTy P ty = true then go s.size fun a b => K (.str (s.extract a b)) h else none
  | .row f c xs => if (elemT P ty).map (szOf P) = some c.sz then go xs.length fun a b => K (.row f c ((xs.take b).drop a)) h else none
  | .own id => match h.get id with
    | some (.arr _ f c xs) => if (elemT P ty).map (szOf P) = some c.sz then go xs.length fun a b => K (.row f c ((xs.take b).drop a)) (h.set id none) else none
    | _ => none
  | _ => none
/-- What a prefix of an own row leaves is own, if it is asked for. -/
def sliceO (ty : TypeId) (x : PV) (lo hi : Option PV) (h : Hp) (K : PV → Hp → Option R) : Option R :=
  match x, lo, hi with
  | .own id, none, some (.int _ b) => match h.get id with
    | some (.arr e f c xs) => if (elemT P ty).map (szOf P) = some c.sz then (if 0 ≤ b ∧ b ≤ (xs.length : Int) then K (.own h.length) (h.set id none ++ [some (.arr e f c (xs.take b.toNat))]) else none) else none
    | _ => none
  | x, lo, hi => sliceK P ty x lo hi h K
/-- s[:0:0], or s[lo:hi:max] within the length. -/
def slice3K (ty : TypeId) (x : PV) (lo : Option PV) (hi mx : PV) (h : Hp) (K : PV → Hp → Option R) : Option R :=
  match x, lo, hi, mx with
  | .row f c xs, none, .int _ b, .int _ m => if (elemT P ty).map (szOf P) = some c.sz then (if 0 ≤ b ∧ b ≤ m ∧ m ≤ (xs.length : Int) then (if m = 0 then K .emp h else K (.row f c (xs.take b.toNat)) h) else none) else none
  | _, _, _, _ => none
def bytesOfE (e : TypeId) : Nat := ((P.info? e).map (·.bytes)).getD 0
def app2K (el e : TypeId) (f : Bool) (c : CK) (xs : List c.T) (y : PV) (h : Hp) (K : PV → Hp → Option R) : Option R :=
  if e = el ∧ zOk P el c = true ∧ 0 < bytesOfE P el then
    match y with
    | .nilS => K (.own h.length) (h ++ [some (.arr e f c xs)])
    | .row f' _ ys => match castRow (c := c) ys with
      | some ys => if (xs.length + ys.length) * bytesOfE P el ≤ 140737488355328 then K (.own h.length) (h ++ [some (.arr e (f && (f' || c.flat)) c (xs ++ ys))]) else none
      | none => none
    | _ => none
  else none
def appendK (ty : TypeId) (s x : PV) (h : Hp) (K : PV → Hp → Option R) : Option R :=
  match elemT P ty with
  | none => none
  | some el => match s with
    | .own id => match h.get id with
      | some (.arr e f c xs) => app2K P el e f c xs (seen1 (h.set id none) x) (h.set id none) K
      | _ => none
    | .nilS => match E.ck el with
      | some c => app2K P el el true c [] (seen1 h x) h K
      | none => none
    | .emp => match E.ck el, seen1 h x with
      | some c, .row f' c' ys => if 0 < ys.length then app2K P el el true c [] (.row f' c' ys) h K else none
      | _, _ => none
    | _ => none
def lenK (ty : TypeId) (x : PV) (h : Hp) (K : PV → Option R) : Option R :=
  match x with
  | .str s => if strTy P ty = true then K (.int .i64 s.size) else none
  | .row _ _ xs => if (elemT P ty).isSome then K (.int .i64 xs.length) else none
  | .nilS => if (elemT P ty).isSome then K (.int .i64 0) else none
  | .own id => match h.get id with | some (.arr _ _ _ xs) => if (elemT P ty).isSome then K (.int .i64 xs.length) else none | _ => none
  | _ => none
def plain1 : PV → PV
  | .int k n => .int k n
  | .bool b => .bool b
  | .str s => .str s
  | .nilS => .nilS
  | .row f c xs => .row f c xs
  | _ => .junk
def plain : PV → PV
  | .agg ps => .agg (ps.map plain1)
  | p => plain1 p
def frzD (h : Hp) : PV → PV × Hp
  | .agg ps => let z := frzs h ps; (.agg z.1, z.2)
  | p => frz h p
def frzDs (h : Hp) : List PV → List PV × Hp
  | [] => ([], h)
  | p :: ps => let a := frzD h p; let b := frzDs a.2 ps; (a.1 :: b.1, b.2)
/-- The handed reader: its handle and its cells. -/
def rdOf (t : TypeId) (h : Hp) : List PV → Option (Nat × List PV × List PV)
  | .ptr id 0 :: rest => match h.get id with
    | some (.box t' cells) => if t' = t then some (id, cells, rest) else none
    | _ => none
  | _ => none
def resK (sig : Sig) (mine : Bool) (res : List PV) (h : Hp) (K : PV → Hp → Option R) : Option R :=
  let q := if mine then (res, h) else frzs h res
  match unflat sig.rs q.1 with
  | [p] => K p q.2
  | ps => K (.tup ps) q.2
def callG (c : Ctr') (args : List PV) (mine : Bool) (h : Hp) (K : PV → Hp → Option R) : Option R :=
  match c.sig.rd with
  | none =>
    let z := if c.sig.sh then frzDs h args else (args, h)
    match flat c.sig.ps (z.1.map (if c.sig.sh then plain else seen z.2)) with
    | none => none
    | some fl => match inCs c.sig.pc fl with
      | none => none
      | some x => (c.run x).bind fun r =>
        let o := outCs z.2.length c.sig.rc r
        condA (nnB c.sig r) (K .nilS z.2) <| match c.sig.nw with
        | none => resK c.sig mine o.2 (z.2 ++ o.1.map some) K
        | some t => match o with
          | ([], [p, q]) => K (.ptr z.2.length 0) (z.2 ++ [some (.box t [p, q])])
          | _ => none
  | some t => match rdOf t h args with
    | none => none
    | some (id, cells, rest) =>
      let z := frzDs h rest
      match flat c.sig.ps (z.1.map plain) with
      | none => none
      | some fl => match inCs c.sig.pc (cells.map plain1 ++ fl) with
        | none => none
        | some x => (c.run x).bind fun r =>
          let o := outCs z.2.length c.sig.rc r
          match cells, inPs c.sig.pc x, o.2.getLast? with
          | [_, _], .row false .u8 b :: _, some q => resK c.sig mine o.2.dropLast ((z.2 ++ o.1.map some).set id (some (.box t [.row false .u8 b, q]))) K
          | _, _, _ => none
def callK (f : FuncId) (args : List PV) (mine : Bool) (h : Hp) (K : PV → Hp → Option R) : Option R :=
  match E.fn f with
  | none => E.wr R f args h K
  | some c => callG c args mine h K
def unK (op : UnOp) (x : PV) (K : PV → Option R) : Option R :=
  match op, x with
  | .not, .bool b => K (.bool (!b))
  | .neg, .int k n => K (.int k (k.wrap (0 - n)))
  | _, _ => none
def isSame : Operand → Operand → Bool
  | .tmp a, .tmp b => a == b
  | .const (.int _ a), .const (.int _ b) => a == b
  | _, _ => false
def boolTy (ty : TypeId) : Bool := match P.underlying ty with | some .bool => true | _ => false
/-- A struct of cells that are compared one by one. -/
def cellK (t : TypeId) : Option Nat := match P.underlying t with
  | some (.int _) => some 0
  | some .bool => some 1
  | some .string => some 2
  | _ => none
def structK (ty : TypeId) : Option (List Nat) := match P.underlying ty with
  | some (.struct fs) => if (!P.stoodInHeld ty && !P.eqGuardType P.depth ty && (fs.toList.all fun f => f.name != "_") && fs.toList.map (·.offset) == List.range fs.toList.length) = true then fs.toList.mapM fun f => cellK P f.type else none
  | _ => none
def bytesTy (ty : TypeId) : Bool := match P.underlying ty with
  | some (.slice e) => match P.underlying e with
    | some (.int .u8) => true
    | _ => false
  | _ => false
def sliceTy (ty : TypeId) : Bool := match P.underlying ty with | some (.slice _) => true | _ => false
def cloK (p : PV) (args : List PV) (h : Hp) (K : PV → Hp → Option R) : Option R :=
  match p with
  | .fn f (c :: cs) => if (args.all oneP) = true then E.clo R f (args ++ c :: cs) h fun h' => K (.tup []) h' else none
  | _ => none
def opK (o : Oper) (t : List PV) (h : Hp) (K : PV → Hp → Option R) : Option R :=
  match o.op with
  | .move x | .assign x => K (ev t x) h
  | .pick c a b => match ev t c with
    | .bool d => condA d (K (ev t a) h) (K (ev t b) h)
    | _ => none
  | .binOp op ty x y _ => binK (boolTy P ty) (sliceTy P ty) (structK P ty) op (ev t x) (ev t y) fun p => K p h
  | .unOp op _ x => unK op (ev t x) fun p => K p h
  | .load ty a => loadK P ty (ev t a) h fun p => K p h
  | .store ty a v => storeK P ty (ev t a) (ev t v) h fun h' => K .junk h'
  | .nilCheck x => match ev t x with
    | .ptr a b => K (.ptr a b) h
    | .rp f c xs i o => K (.rp f c xs i o) h
    | .ep a b c d => K (.ep a b c d) h
    | _ => none
  | .fieldAddr ty x f => match offOf P ty f with
    | some (o, ft) => if szOf P ft = 0 then none else match ev t x with
      | .ptr id off => K (.ptr id (off + o)) h
      | .rp fl c xs i off => K (.rp fl c xs i (off + o)) h
      | .ep id c i off => K (.ep id c i (off + o)) h
      | _ => none
    | none => none
  | .indexAddr ty x i => match elemT P ty, ev t i with
    | some el, .int _ n => match ev t x with
      | .row f c xs => if szOf P el = c.sz then (if 0 ≤ n ∧ n < (xs.length : Int) then K (.rp f c xs n.toNat 0) h else none) else none
      | .own id => match h.get id with
        | some (.arr _ _ c xs) => if szOf P el = c.sz then (if 0 ≤ n ∧ n < (xs.length : Int) then K (.ep id c n.toNat 0) h else none) else none
        | _ => none
      | _ => none
    | _, _ => none
  | .index ty x i => match ev t x, ev t i with
    | .str s, .int _ n => if strTy P ty = true then if 0 ≤ n ∧ n < (s.size : Int) then K (.int .u8 ((s.data.toList.getD n.toNat 0).toNat : Int)) h else none else none
    | _, _ => none
  | .alloc ty => match zeroPs P ty with
    | some cs => K (.ptr h.length 0) (h ++ [some (.box ty cs)])
    | none => none
  | .box ty v => if (cellsOf (ev t v)).all oneP = true then K (.ptr h.length 0) (h ++ [some (.box ty (cellsOf (ev t v)))]) else none
  | .build ty parts => match zeroPs P ty with
    | some cs => if placesOk P ty = true then match fillK P ty t parts.toList cs with
      | some ps => K (.agg ps) h
      | none => none
      else none
    | none => none
  | .buildSlice ty n parts => match elemT P ty with
    | some el => match E.ck el with
      | some c =>
        if zOk P el c = true ∧ parts.toList.map (·.1) = List.range n ∧ n ≤ 1000 ∧ (parts.toList.all fun x => (cellsOf (ev t x.2)).length == c.sz && (cellsOf (ev t x.2)).all oneP) = true then
          let z := frzs h (parts.toList.flatMap fun x => cellsOf (ev t x.2))
          match decEs true c n z.1 with
          | some xs => K (.own z.2.length) (z.2 ++ [some (.arr el true c xs)])
          | none => match decEs false c n z.1 with
            | some xs => K (.own z.2.length) (z.2 ++ [some (.arr el false c xs)])
            | none => none
        else none
      | none => none
    | none => none
  | .makeSlice ty l c => match elemT P ty, ev t l with
    | some el, .int _ n => match E.ck el with
      | some ck => if zOk P el ck = true ∧ isSame l c = true then (if 0 ≤ n ∧ n * bytesOfE P el ≤ 140737488355328 ∧ n ≤ 140737488355328 then K (.own h.length) (h ++ [some (.arr el true ck (List.replicate n.toNat ck.dflt))]) else none) else none
      | none => none
    | _, _ => none
  | .slice ty x lo hi none => match (o.dst.map E.mine).getD false with
    | true => sliceO P ty (ev t x) (lo.map (ev t)) (hi.map (ev t)) h K
    | false => sliceK P ty (ev t x) (lo.map (ev t)) (hi.map (ev t)) h K
  | .slice ty x lo (some hi) (some mx) => slice3K P ty (ev t x) (lo.map (ev t)) (ev t hi) (ev t mx) h K
  | .extract x i => match ev t x with
    | .tup ps => match ps[i]? with | some p => K p h | none => none
    | _ => none
  | .convert src dst x => if (P.underlying src).isSome then match P.underlying dst, ev t x with
    | some (.int kk), .int _ n => K (.int kk (kk.wrap n)) h
    | some .string, .str s => K (.str s) h
    | some .string, .row f .u8 xs => if bytesTy P src = true then K (.str (strOfNums xs)) h else none
    | some .string, .own id => match h.get id with
      | some (.arr _ _ .u8 xs) => if bytesTy P src = true then K (.str (strOfNums xs)) h else none
      | _ => none
    | _, _ => none
    else none
  | .makeFunc (.func f) fs cs => if fs.size = 0 ∧ (cs.toList.map (ev t)).all oneP = true then K (.fn f (cs.toList.map (ev t))) h else none
  | .call { callee := .builtin .len, args := as, argTypes := ts } => match as.toList, ts.toList with
    | [x], [ty] => lenK P ty (ev t x) h fun p => K p h
    | _, _ => none
  | .call { callee := .builtin .max, args := as, .. } => match as.toList.map (ev t) with
    | [.int k a, .int _ b] => K (.int k (if b > a then b else a)) h
    | _ => none
  | .call { callee := .builtin .min, args := as, .. } => match as.toList.map (ev t) with
    | [.int k a, .int _ b] => K (.int k (if b < a then b else a)) h
    | _ => none
  | .call { callee := .builtin .append, args := as, argTypes := ts } => match as.toList, ts.toList with
    | [s, x], [ty, ty'] => if ty = ty' then appendK P E ty (ev t s) (ev t x) h K else none
    | _, _ => none
  | .call { callee := .value (.tmp j), args := as, .. } => cloK E (ev t (.tmp j)) (as.toList.map (ev t)) h K
  | .call { callee := .value (.func f), args := as, .. } => callK E f (as.toList.map (ev t)) ((o.dst.map E.mine).getD false) h K
  | .field ty x f => match offOf P ty f with
    | some (oo, ft) => match ev t x with
      | .agg ps => readK P ft ps oo fun p => K p h
      | _ => none
    | none => none
  | _ => none
def putT (t : List PV) (d : Option Tmp) (p : PV) : List PV := match d with | some d => t.set d p | none => t
def exOps (all : Array Oper) : List Oper → List PV → Hp → (List PV → Hp → Option R) → Option R
  | [], t, h, K => K t h
  | o :: rest, t, h, K => match o.guard with
    | none => opK P E o t h fun p h' => exOps all rest (putT t o.dst p) h' K
    | some (j, want) => match (all[j]?).bind (·.dst) with
      | none => none
      | some d => match t.getD d .junk with
        | .bool b =>
          let go (bv : Bool) : Option R :=
            let t' := t.set d (.bool bv)
            if bv == want then opK P E o t' h fun p h' => exOps all rest (putT t' o.dst p) h' K
            else exOps all rest (putT t' o.dst (.tup [])) h K
          condA b (go true) (go false)
        | .tup [] => exOps all rest (putT t o.dst (.tup [])) h K
        | _ => none
inductive AX where | norm | ex (id : Nat) | ret
/-- It asks nothing of the memory, and changes nothing. -/
def mvOp : Op → Bool
  | .field .. => true
  | .move _ | .assign _ | .pick .. | .binOp .. | .unOp .. | .nilCheck _ | .fieldAddr .. | .indexAddr .. | .index .. | .extract .. | .slice .. | .build .. => true
  | .call { callee := .builtin .len, .. } | .call { callee := .builtin .max, .. } | .call { callee := .builtin .min, .. } => true
  | _ => false
def isMove (o : Oper) : Bool := mvOp o.op
def loadOp : Op → Bool
  | .load .. | .convert .. => true
  | _ => false
/-- All that stood in memory stands behind it as it was. -/
def growB (E : Env') (op : Op) : Bool := match op with
  | .call { callee := .value (.func f), .. } => match E.fn f with
    | some c => c.sig.rd.isNone
    | none => false
  | .load .. | .convert .. | .alloc .. | .box .. | .makeSlice .. | .buildSlice .. | .makeFunc .. => true
  | op => mvOp op
/-- It reads alone. -/
def quiet : Op → Bool
  | .field .. => true
  | .move _ | .assign _ | .pick .. | .binOp .. | .unOp .. | .load .. | .nilCheck _ | .fieldAddr .. | .indexAddr .. | .index .. | .extract .. | .convert .. => true
  | .call { callee := .builtin .len, .. } => true
  | _ => false
/-- All operations read alone; each slot is set once; who looks at a slot comes behind who sets it, by an edge. -/
def quietB (ops : Array Oper) : Bool :=
  (List.range ops.size).all fun i => match ops[i]? with
    | none => true
    | some o => quiet o.op && o.dst.isSome && o.after.all (fun e => !Region.binds .any e || decide (e.on < i)) && (List.range ops.size).all fun j => match ops[j]? with
      | none => true
      | some q => (j == i || q.dst != o.dst) && match q.dst with
        | some x => !(o.looksAt ops).contains x || (decide (j < i) && o.after.any fun e => Region.binds .any e && e.on == j)
        | none => true
/-- Whoever may come up ahead of it leaves what stands in memory. -/
def calmB (gb : Nat → Bool) (ops : Array Oper) (listed : Array Bool) (i : Nat) : Bool :=
  (List.range ops.size).all fun j => j == i || listed.getD j true || gb j || match ops[j]? with
    | some oj => oj.after.any fun e => Region.binds .any e && e.on == i
    | none => true
/-- A region that draws its order: one order, in which each operation is the only one that is ready, or a mere move that nothing looks at. -/
def drawnGo (gb : Nat → Bool) (ops : Array Oper) : Nat → Array Bool → Option (List Oper)
  | 0, listed => if Region.ready .any ops listed = [] then some [] else none
  | n + 1, listed => match Region.ready .any ops listed with
    | [] => some []
    | [i] => (ops[i]?).bind fun o => (drawnGo gb ops n (listed.setIfInBounds i true)).map (o :: ·)
    | is => (is.find? fun i => ((ops[i]?).map fun o => isMove o || (loadOp o.op && calmB gb ops listed i)).getD false && Region.free .any ops listed i).bind fun i => (ops[i]?).bind fun o => (drawnGo gb ops n (listed.setIfInBounds i true)).map (o :: ·)
def gbOf (E : Env') (ops : Array Oper) (j : Nat) : Bool := ((ops[j]?).map fun o => growB E o.op).getD true
def regOrd (E : Env') (ops : Array Oper) (d : Bool) : Option (List Oper) :=
  if d then (if quietB ops = true then some ops.toList else if Region.noSelect ops = true then drawnGo (gbOf E ops) ops ops.size (Array.replicate ops.size false) else none) else some ops.toList
/-- One answer for all of them. -/
noncomputable def same {R : Type} : List (Option R) → Option R
  | [] => none
  | [x] => x
  | x :: y :: l => open Classical in if ∀ z ∈ y :: l, z = x then x else none
/-- It asks nothing of the memory but a box's or a given row's cell. -/
def easyB (t : List PV) : Op → Bool
  | .field .. | .move _ | .assign _ | .fieldAddr .. | .nilCheck _ | .extract .. | .build .. | .binOp .. | .unOp .. | .index .. => true
  | .load _ a => match ev t a with | .ptr .. | .rp .. | .ep .. => true | _ => false
  | .indexAddr _ x _ => match ev t x with | .row .. | .own _ => true | _ => false
  | .convert _ _ x => match ev t x with | .int .. => true | _ => false
  | .slice _ x _ _ none => match ev t x with | .str _ => true | _ => false
  | .call { callee := .builtin .max, .. } | .call { callee := .builtin .min, .. } => true
  | _ => false
/-- It looks at an own row. -/
def ownB (t : List PV) : Op → Bool
  | .load _ a => match ev t a with | .ep .. => true | _ => false
  | .indexAddr _ x _ => match ev t x with | .own _ => true | _ => false
  | _ => false
/-- All blocks stand behind it as they were. -/
def stayB : Op → Bool
  | .call { callee := .builtin .len, .. } | .call { callee := .builtin .max, .. } | .call { callee := .builtin .min, .. } => true
  | .field .. | .convert .. | .alloc .. | .box .. | .makeSlice .. | .move _ | .assign _ | .fieldAddr .. | .nilCheck _ | .extract .. | .build .. | .binOp .. | .unOp .. | .index .. | .load .. | .indexAddr .. => true
  | _ => false
/-- All boxes stand behind it as they were. -/
def boxB (E : Env') : Op → Bool
  | .call { callee := .value (.func f), .. } => match E.fn f with
    | some c => c.sig.rd.isNone
    | none => false
  | .call { callee := .builtin .append, .. } => true
  | .call { callee := .builtin .len, .. } | .call { callee := .builtin .max, .. } | .call { callee := .builtin .min, .. } => true
  | .field .. | .convert .. | .alloc .. | .box .. | .makeSlice .. | .buildSlice .. | .move _ | .assign _ | .fieldAddr .. | .nilCheck _ | .extract .. | .build .. | .binOp .. | .unOp .. | .index .. | .load .. | .indexAddr .. => true
  | _ => false
/-- The box that a load reads. -/
def boxOf (t : List PV) : Op → Option Nat
  | .load _ a => match ev t a with | .ptr id _ => some id | _ => none
  | _ => none
/-- Nobody who is still to come sets the slot. -/
def fixedT (ops : Array Oper) (listed : Array Bool) (x : Nat) : Bool := (List.range ops.size).all fun k => listed.getD k true || (ops[k]?).bind (·.dst) != some x
def otherPtr (id : Nat) : PV → Bool
  | .ptr id' 0 => id' != id
  | _ => false
/-- It leaves this box alone, since it is handed another one. -/
def keepT (E : Env') (ops : Array Oper) (listed : Array Bool) (t : List PV) (id : Nat) : Op → Bool
  | .call { callee := .value (.func f), args := as, .. } => (E.fn f).isSome && match as.toList with
    | .tmp x :: _ => fixedT ops listed x && otherPtr id (t.getD x .junk)
    | _ => false
  | .store _ (.tmp x) _ => fixedT ops listed x && otherPtr id (t.getD x .junk)
  | _ => false
def boxKept (E : Env') (ops : Array Oper) (listed : Array Bool) (t : List PV) (op : Op) : Option Nat → Bool
  | none => true
  | some id => boxB E op || keepT E ops listed t id op
/-- Those that come behind it. -/
def behind (ops : Array Oper) (listed : Array Bool) : Nat → List Nat → List Nat
  | 0, b => b
  | n + 1, b => behind ops listed n (b ++ (List.range ops.size).filter fun j => !b.contains j && !listed.getD j true && match ops[j]? with
    | some o => o.after.any fun e => Region.binds .any e && b.contains e.on
    | none => false)
def behindOk (ops : Array Oper) (listed : Array Bool) (i : Nat) (b : List Nat) : Bool :=
  b.all fun j => !listed.getD j true && (j == i || match ops[j]? with
    | some o => o.after.any fun e => Region.binds .any e && b.contains e.on
    | none => false)
def easyAt (E : Env') (ops : Array Oper) (listed : Array Bool) (t : List PV) (i : Nat) : Bool := match ops[i]? with
  | none => false
  | some o => easyB t o.op && Region.free .any ops listed i && (!((boxOf t o.op).isSome || ownB t o.op) ||
    let b := behind ops listed 6 [i]
    behindOk ops listed i b && (List.range ops.size).all fun j => j == i || listed.getD j true || b.contains j || match ops[j]? with
      | some oj => boxKept E ops listed t oj.op (boxOf t o.op) && (!ownB t o.op || stayB oj.op)
      | none => true)
/-- A region that draws its order: easy operations first, else each order that may come, and all with one answer. -/
noncomputable def exTree (ops : Array Oper) : Nat → Array Bool → List PV → Hp → (List PV → Hp → Option R) → Option R
  | 0, listed, t, h, K => if Region.ready .any ops listed = [] then K t h else none
  | n + 1, listed, t, h, K => match Region.ready .any ops listed with
    | [] => K t h
    | is => match is.find? (easyAt E ops listed t) with
      | some i => match ops[i]? with
        | some o => exOps P E ops [o] t h fun t h => exTree ops n (listed.setIfInBounds i true) t h K
        | none => none
      | none => same (is.map fun i => match ops[i]? with
        | some o => exOps P E ops [o] t h fun t h => exTree ops n (listed.setIfInBounds i true) t h K
        | none => none)
/-- All orders of a region that draws. -/
noncomputable def exReg (ops : Array Oper) (d : Bool) (t : List PV) (h : Hp) (K : List PV → Hp → Option R) : Option R :=
  if d = true then exTree P E ops ops.size (Array.replicate ops.size false) t h K else none
def idsOf : PV → List Nat
  | .own i | .ep i _ _ _ | .ptr i _ => [i]
  | .agg ps => ps.flatMap fun p => match p with | .own i | .ep i _ _ _ | .ptr i _ => [i] | _ => []
  | .tup ps => ps.flatMap fun p => match p with | .own i | .ep i _ _ _ | .ptr i _ => [i] | _ => []
  | .fn _ ps => ps.flatMap fun p => match p with | .own i | .ep i _ _ _ | .ptr i _ => [i] | _ => []
  | _ => []
def addIds (h : Hp) (acc : List Nat) : List Nat → List Nat
  | [] => acc
  | i :: is => if acc.contains i then addIds h acc is else match h.get i with
    | none => addIds h acc is
    | some _ => addIds h (acc ++ [i]) is
def reach (h : Hp) : Nat → List Nat → List Nat
  | 0, acc => acc
  | n + 1, acc => reach h n (acc.foldl (fun a i => match h.get i with | some (.box _ cs) => addIds h a (cs.flatMap idsOf) | _ => a) acc)
def ren1 (m : List Nat) : PV → PV
  | .own i => if m.contains i then .own (m.idxOf i) else .junk
  | .ep i c a b => if m.contains i then .ep (m.idxOf i) c a b else .junk
  | .ptr i a => if m.contains i then .ptr (m.idxOf i) a else .junk
  | .agg _ => .junk
  | .tup _ => .junk
  | .fn _ (_ :: _) => .junk
  | p => p
def ren2 (m : List Nat) : PV → PV
  | .agg ps => .agg (ps.map (ren1 m))
  | .fn f cs => .fn f (cs.map (ren1 m))
  | p => ren1 m p
def ren (m : List Nat) : PV → PV
  | .tup ps => .tup (ps.map (ren2 m))
  | p => ren2 m p
def canon (keep live : List Nat) (s : St) : St :=
  let t1 := s.t.mapIdx fun i p => if live.contains i then p else .junk
  let m := reach s.h 2 (addIds s.h [] (keep ++ t1.flatMap idsOf))
  ⟨t1.map (ren m), m.map fun i => (s.h.get i).map fun b => match b with | .box ty cs => .box ty (cs.map (ren m)) | b => b⟩
def keepB (keep : List Nat) (h : Hp) : Bool := keep.all fun i => (h.get i).isSome
def headId : Code → Option Nat
  | .region id _ _ => some id
  | .seq x _ => headId x
  | .block _ b => headId b
  | .loop b => headId b
  | _ => none
def cutK (c : Code) (s : St) (K : St → Option R) : Option R :=
  match headId c with
  | none => K s
  | some i => match E.cuts.lookup i with
    | none => K s
    | some live => if keepB E.keep s.h = true then K (canon E.keep live s) else none
/-- From a cut on: a name, so that two such places are told alike by their parts. -/
def joinK (f : St → (AX → St → Option R) → Option R) (s : St) (K : AX → St → Option R) : Option R := f s K
def leadsB : Code → Bool
  | .loop _ => true
  | .block _ b => leadsB b
  | .seq x _ => leadsB x
  | _ => false
/-- The cut at a sequence's second part. -/
def cutS (c : Code) (f : St → (AX → St → Option R) → Option R) (s : St) (K : AX → St → Option R) : Option R :=
  match leadsB c with
  | true => f s K
  | false => match headId c with
    | none => f s K
    | some i => match E.cuts.lookup i with
      | none => f s K
      | some live => if keepB E.keep s.h = true then joinK f (canon E.keep live s) K else none
def loopN (body : St → (AX → St → Option R) → Option R) (b : Code) : Nat → St → (AX → St → Option R) → Option R
  | 0, _, _ => none
  | n + 1, s, K => body s fun e s' => match e with
    | .norm => cutK E b s' fun s'' => loopN body b n s'' K
    | e => K e s'
open Classical in
/-- What it comes to from some number of rounds on. -/
noncomputable def lim (g : Nat → Option R) : Option R := if h : ∃ n r, g n = some r then g h.choose else none
noncomputable def loopK (body : St → (AX → St → Option R) → Option R) (b : Code) (s : St) (K : AX → St → Option R) : Option R := lim fun n => loopN E body b n s K
noncomputable def exCode : Code → St → (AX → St → Option R) → Option R
  | .skip, s, K => K .norm s
  | .region _ ops d, s, K => match regOrd E ops d with
    | some l => exOps P E ops l s.t s.h fun t h => K .norm ⟨t, h⟩
    | none => exReg P E ops d s.t s.h fun t h => K .norm ⟨t, h⟩
  | .seq x y, s, K => exCode x s fun e s' => match e with
    | .norm => cutS E y (exCode y) s' K
    | e => K e s'
  | .cond c x y, s, K => match ev s.t c with
    | .bool b => condA b (exCode x s K) (exCode y s K)
    | _ => none
  | .block id b, s, K => exCode b s fun e s' => match e with
    | .ex i => if i = id then K .norm s' else K (.ex i) s'
    | e => K e s'
  | .loop b, s, K => cutK E b s fun s' => loopK E (exCode b) b s' K
  | .exit id, s, K => K (.ex id) s
  | .ret, s, K => K .ret s
  | _, _, _ => none
def resPs (s : St) : List ResultVar → Option (List PV)
  | [] => some []
  | .tmp t :: r => (resPs s r).map (s.t.getD t .junk :: ·)
  | .cell a ty :: r => loadK P ty (s.t.getD a .junk) s.h fun p => (resPs s r).map (p :: ·)
def ownsOf : PV → List Nat
  | .own i => [i]
  | _ => []
def apartB : List Nat → Bool
  | [] => true
  | i :: is => !is.contains i && apartB is
def retK (fn : Func) (sig : Sig) (e : AX) (s : St) : Option (Ts sig.rc) :=
  match e with
  | .ex _ => none
  | _ => (resPs P s fn.results.toList).bind fun ps => match sig.rd, sig.nw with
    | none, none => (flat sig.rs ps).bind fun cs => if sig.nn = true then (match cs with | [.nilS] => resCs s.h sig.rc [.nilS] | cs => if apartB (cs.flatMap ownsOf) = true then (resCs s.h sig.rc cs).bind fun r => condA (nnB sig r) none (some r) else none) else if sig.fz = true then (if cs.all oneP = true ∧ apartB ((frzR s.h sig.rc cs).1.flatMap ownsOf) = true then resCs (frzR s.h sig.rc cs).2 sig.rc (frzR s.h sig.rc cs).1 else none) else if apartB (cs.flatMap ownsOf) then resCs s.h sig.rc cs else none
    | none, some t => match ps with
      | [.ptr id 0] => match s.h.get id with
        | some (.box t' [p, q]) => if t' = t ∧ apartB ([p, q].flatMap ownsOf) = true then resCs s.h sig.rc [p, q] else none
        | _ => none
      | _ => none
    | some t, none => match s.h.get 0 with
      | some (.box t' [p, q]) => match inC (.view .u8) p with
        | some b => if t' = t ∧ b = E.rdb then (flat sig.rs ps).bind fun cs => if apartB ((cs ++ [q]).flatMap ownsOf) then resCs s.h sig.rc (cs ++ [q]) else none else none
        | none => none
      | _ => none
    | _, _ => none
/-- A call's first state. -/
def initS (fn : Func) (sig : Sig) (x : Ts sig.pc) : St :=
  match sig.rd, inPs sig.pc x with
  | some t, p :: q :: rest => ⟨.ptr 0 0 :: unflat sig.ps rest ++ List.replicate (fn.ntmps - ((unflat sig.ps rest).length + 1)) .junk, [some (.box t [p, q])]⟩
  | _, cells => ⟨unflat sig.ps cells ++ List.replicate (fn.ntmps - (unflat sig.ps cells).length) .junk, []⟩
/-- A function's run. -/
noncomputable def runFn (fn : Func) (sig : Sig) (x : Ts sig.pc) : Option (Ts sig.rc) :=
  match fn.body with
  | some c => exCode P E c (initS fn sig x) (retK P E fn sig)
  | none => none
def sub : Code → List Nat → Code
  | c, [] => c
  | .seq x _, 0 :: p => sub x p
  | .seq _ y, 1 :: p => sub y p
  | .cond _ x _, 0 :: p => sub x p
  | .cond _ _ y, 1 :: p => sub y p
  | .block _ b, 0 :: p => sub b p
  | .loop b, 0 :: p => sub b p
  | c, _ => c
/-- What comes behind the place. -/
noncomputable def kont : Code → List Nat → (AX → St → Option R) → (AX → St → Option R)
  | .seq x y, 0 :: p, K => kont x p fun e s' => match e with
    | .norm => cutS E y (exCode P E y) s' K
    | e => K e s'
  | .seq _ y, 1 :: p, K => kont y p K
  | .cond _ x _, 0 :: p, K => kont x p K
  | .cond _ _ y, 1 :: p, K => kont y p K
  | .block id b, 0 :: p, K => kont b p fun e s' => match e with
    | .ex i => if i = id then K .norm s' else K (.ex i) s'
    | e => K e s'
  | .loop b, 0 :: p, K => kont b p fun e s' => match e with
    | .norm => cutK E b s' fun s'' => loopK E (exCode P E b) b s'' K
    | e => K e s'
  | _, _, K => K
/-- From the place on. -/
noncomputable def from_ (fn : Func) (sig : Sig) (p : List Nat) (s : St) : Option (Ts sig.rc) :=
  match fn.body with
  | some c => match sub c p with
    | .loop b => loopK E (exCode P E b) b s (kont P E c p (retK P E fn sig))
    | x => joinK (exCode P E x) s (kont P E c p (retK P E fn sig))
  | none => none
end
end FN

namespace FN
open Go Go.RowKit
inductive F2 {α β : Type} (R : α → β → Prop) : List α → List β → Prop
  | nil : F2 R [] []
  | cons {a : α} {b : β} {as : List α} {bs : List β} : R a b → F2 R as bs → F2 R (a :: as) (b :: bs)
section
variable {α β : Type} {R R' : α → β → Prop}
theorem F2.len {as : List α} {bs : List β} (h : F2 R as bs) : as.length = bs.length := by
  induction h with
  | nil => rfl
  | cons _ _ ih => simp [ih]
theorem F2.imp {as : List α} {bs : List β} (h : F2 R as bs) (hi : ∀ a b, R a b → R' a b) : F2 R' as bs := by
  induction h with
  | nil => exact .nil
  | cons h _ ih => exact .cons (hi _ _ h) ih
theorem F2.get {as : List α} {bs : List β} (h : F2 R as bs) {j : Nat} {a : α} (hj : as[j]? = some a) : ∃ b, bs[j]? = some b ∧ R a b := by
  induction h generalizing j with
  | nil => simp at hj
  | cons h _ ih =>
    cases j with
    | zero => simp at hj; subst hj; exact ⟨_, rfl, h⟩
    | succ j => simp at hj; simpa using ih hj
theorem F2.app {as as' : List α} {bs bs' : List β} (h : F2 R as bs) (h' : F2 R as' bs') : F2 R (as ++ as') (bs ++ bs') := by
  induction h with
  | nil => exact h'
  | cons h _ ih => exact .cons h ih
theorem F2.take {as : List α} {bs : List β} (h : F2 R as bs) (n : Nat) : F2 R (as.take n) (bs.take n) := by
  induction h generalizing n with
  | nil => simpa using F2.nil
  | cons h _ ih => cases n with
    | zero => simpa using F2.nil
    | succ n => simpa using F2.cons h (ih n)
theorem F2.drop {as : List α} {bs : List β} (h : F2 R as bs) (n : Nat) : F2 R (as.drop n) (bs.drop n) := by
  induction h generalizing n with
  | nil => simpa using F2.nil
  | cons h t ih => cases n with
    | zero => simpa using F2.cons h t
    | succ n => simpa using ih n
theorem F2.split {as as' : List α} {bs : List β} (h : F2 R (as ++ as') bs) : ∃ b1 b2, bs = b1 ++ b2 ∧ F2 R as b1 ∧ F2 R as' b2 := by
  refine ⟨bs.take as.length, bs.drop as.length, (List.take_append_drop _ _).symm, ?_, ?_⟩
  · simpa using h.take as.length
  · simpa using h.drop as.length
theorem F2.map {γ : Type} {f : γ → α} {as : List γ} {bs : List β} (h : F2 (fun a b => R (f a) b) as bs) : F2 R (as.map f) bs := by
  induction h with
  | nil => exact .nil
  | cons h _ ih => exact .cons h ih
theorem F2.flatMap {γ δ : Type} {Q : γ → δ → Prop} {f : γ → List α} {g : δ → List β} {as : List γ} {bs : List δ} (h : F2 Q as bs) (hf : ∀ a b, Q a b → F2 R (f a) (g b)) : F2 R (as.flatMap f) (bs.flatMap g) := by
  induction h with
  | nil => exact .nil
  | cons h _ ih => simpa using (hf _ _ h).app ih
end

/-- A slice that reads as these numbers. -/
def SlI (W : World) (ok : Nat → Prop) (xs : List Int) (v : Value) : Prop :=
  ∃ A c, v = .slice A xs.length c ∧ xs.length ≤ c ∧ xs.length ≤ maxLen ∧ (xs ≠ [] → ∃ ad, A = some ad ∧ ok ad.block ∧ ad.block < W.heap.size ∧ ∀ (j : Nat) x, xs[j]? = some x → W.cell? (ad.add j) = some (.int .i64 x))
/-- An element's cells. -/
def ElR (W : World) (ok : Nat → Prop) : (c : CK) → c.T → List Value → Prop
  | .i64, x, cs => cs = [.int .i64 x]
  | .u8, x, cs => cs = [.int .u8 x]
  | .str, x, cs => cs = [.string x]
  | .intss, x, cs => ∃ v, cs = [v] ∧ SlI W ok x v
  | .place, x, cs => ∃ u v, cs = [u, .int .i64 x.2.1, v] ∧ SlI W ok x.1 u ∧ SlI W ok x.2.2 v
  | .deed, x, cs => cs = [.int .i64 x.1, .int .i64 x.2.1, .int .i64 x.2.2]
  | .bool, x, cs => cs = [.bool x]
  | .pair, x, cs => cs = [.int .i64 x.1, .int .i64 x.2]
def RdAt (W : World) (ok : Nat → Prop) (ad : Addr) (c : CK) (xs : List c.T) : Prop :=
  ok ad.block ∧ ad.block < W.heap.size ∧ ∀ (j : Nat) x, xs[j]? = some x → ∃ cs, ElR W ok c x cs ∧ ∀ (i : Nat) u, cs[i]? = some u → W.cell? (ad.add (j * c.sz + i)) = some u
def SlR (W : World) (ok : Nat → Prop) (c : CK) (xs : List c.T) (v : Value) : Prop :=
  ∃ A cp, v = .slice A xs.length cp ∧ xs.length ≤ cp ∧ xs.length ≤ maxLen ∧ (xs ≠ [] → ∃ ad, A = some ad ∧ RdAt W ok ad c xs)

theorem ElR.len {W : World} {ok : Nat → Prop} {c : CK} {x : c.T} {cs : List Value} (h : ElR W ok c x cs) : cs.length = c.sz := by
  cases c <;> simp only [ElR] at h
  case intss => obtain ⟨v, rfl, _⟩ := h; rfl
  case place => obtain ⟨u, v, rfl, _⟩ := h; rfl
  all_goals (subst h; rfl)
theorem CK.sz_pos (c : CK) : 0 < c.sz := by cases c <;> decide
theorem SlI.one {W : World} {ok : Nat → Prop} {xs : List Int} {v : Value} (h : SlI W ok xs v) : v.oneCell' = true := by
  obtain ⟨A, c, rfl, _⟩ := h; rfl
theorem ElR.one {W : World} {ok : Nat → Prop} {c : CK} {x : c.T} {cs : List Value} (h : ElR W ok c x cs) : ∀ u ∈ cs, u.oneCell' = true := by
  cases c <;> simp only [ElR] at h
  case intss => obtain ⟨v, rfl, h⟩ := h; intro u hu; simp at hu; subst hu; exact h.one
  case place =>
    obtain ⟨u, v, rfl, h1, h2⟩ := h
    intro z hz
    simp at hz
    rcases hz with rfl | rfl | rfl
    · exact h1.one
    · rfl
    · exact h2.one
  all_goals (subst h; intro u hu; simp at hu; first | (subst hu; rfl) | (rcases hu with rfl | rfl | rfl <;> rfl) | (rcases hu with rfl | rfl <;> rfl))

/-- From one world to another. -/
structure Tr (W W' : World) (ok ok' : Nat → Prop) : Prop where
  size : W.heap.size ≤ W'.heap.size
  keep : ∀ k, ok k → k < W.heap.size → W'.heap[k]? = W.heap[k]? ∧ ok' k
theorem Tr.refl (W : World) (ok : Nat → Prop) : Tr W W ok ok := ⟨Nat.le_refl _, fun _ h _ => ⟨rfl, h⟩⟩
theorem Tr.cell {W W' : World} {ok ok' : Nat → Prop} (t : Tr W W' ok ok') {a : Addr} {u : Value} (h : ok a.block) (hc : W.cell? a = some u) : W'.cell? a = some u :=
  (World.cell?_of_block (t.keep _ h (World.block_lt_of_cell? W a hc)).1).trans hc
theorem Addr.add_block (a : Addr) (n : Nat) : (a.add n).block = a.block := by unfold Addr.add; split <;> rfl
theorem SlI.tr {W W' : World} {ok ok' : Nat → Prop} (t : Tr W W' ok ok') {xs : List Int} {v : Value} (h : SlI W ok xs v) : SlI W' ok' xs v := by
  obtain ⟨A, c, rfl, hc, hm, hr⟩ := h
  refine ⟨A, c, rfl, hc, hm, fun hn => ?_⟩
  obtain ⟨ad, rfl, ho, hl, hx⟩ := hr hn
  exact ⟨ad, rfl, (t.keep _ ho hl).2, Nat.lt_of_lt_of_le hl t.size, fun j x hj => t.cell (by rw [Addr.add_block]; exact ho) (hx j x hj)⟩
theorem ElR.tr {W W' : World} {ok ok' : Nat → Prop} (t : Tr W W' ok ok') {c : CK} {x : c.T} {cs : List Value} (h : ElR W ok c x cs) : ElR W' ok' c x cs := by
  cases c <;> simp only [ElR] at h ⊢
  case intss => obtain ⟨v, rfl, h⟩ := h; exact ⟨v, rfl, h.tr t⟩
  case place => obtain ⟨u, v, rfl, h1, h2⟩ := h; exact ⟨u, v, rfl, h1.tr t, h2.tr t⟩
  all_goals exact h
theorem RdAt.tr {W W' : World} {ok ok' : Nat → Prop} (t : Tr W W' ok ok') {ad : Addr} {c : CK} {xs : List c.T} (h : RdAt W ok ad c xs) : RdAt W' ok' ad c xs := by
  obtain ⟨ho, hl, hx⟩ := h
  refine ⟨(t.keep _ ho hl).2, Nat.lt_of_lt_of_le hl t.size, fun j x hj => ?_⟩
  obtain ⟨cs, he, hcs⟩ := hx j x hj
  exact ⟨cs, he.tr t, fun i u hi => t.cell (by rw [Addr.add_block]; exact ho) (hcs i u hi)⟩
theorem SlR.tr {W W' : World} {ok ok' : Nat → Prop} (t : Tr W W' ok ok') {c : CK} {xs : List c.T} {v : Value} (h : SlR W ok c xs v) : SlR W' ok' c xs v := by
  obtain ⟨A, cp, rfl, hc, hm, hr⟩ := h
  refine ⟨A, cp, rfl, hc, hm, fun hn => ?_⟩
  obtain ⟨ad, rfl, hx⟩ := hr hn
  exact ⟨ad, rfl, hx.tr t⟩
theorem slI_iff {W : World} {ok : Nat → Prop} {xs : List Int} {v : Value} : SlR W ok .i64 xs v ↔ SlI W ok xs v := by
  constructor
  · rintro ⟨A, cp, rfl, hc, hm, hr⟩
    refine ⟨A, cp, rfl, hc, hm, fun hn => ?_⟩
    obtain ⟨ad, rfl, ho, hl, hx⟩ := hr hn
    refine ⟨ad, rfl, ho, hl, fun j x hj => ?_⟩
    obtain ⟨cs, he, hcs⟩ := hx j x hj
    simp only [ElR] at he
    subst he
    simpa [CK.sz] using hcs 0 _ rfl
  · rintro ⟨A, cp, rfl, hc, hm, hr⟩
    refine ⟨A, cp, rfl, hc, hm, fun hn => ?_⟩
    obtain ⟨ad, rfl, ho, hl, hx⟩ := hr hn
    refine ⟨ad, rfl, ho, hl, fun j x hj => ⟨[.int .i64 x], rfl, fun i u hi => ?_⟩⟩
    cases i with
    | zero => simp at hi; subst hi; simpa [CK.sz] using hx j x hj
    | succ i => simp at hi

/-- What values are told by: the world, the blocks that stay, the call's first block, the handles. -/
structure Vw where
  W : World
  ok : Nat → Prop
  base : Nat
  N : Nat
  ρ : Nat → Value
def Vw.okf (v : Vw) (f : Bool) (k : Nat) : Prop := v.ok k ∧ (f = true → v.base ≤ k)
def V1 (v : Vw) : PV → Value → Prop
  | .int k n, u => u = .int k n
  | .bool b, u => u = .bool b
  | .str s, u => u = .string s
  | .nilS, u => u = .slice none 0 0
  | .row f c xs, u => SlR v.W (v.okf f) c xs u
  | .rp f c xs i off, u => ∃ ad, u = .pointer (some (ad.add (i * c.sz + off))) ∧ RdAt v.W (v.okf f) ad c xs ∧ i < xs.length
  | .own id, u => id < v.N ∧ u = v.ρ id ∧ u.oneCell' = true
  | .ep id c i off, u => id < v.N ∧ ∃ g n cp, v.ρ id = .slice (some ⟨g, 0, none⟩) n cp ∧ u = .pointer (some ⟨g, i * c.sz + off, none⟩) ∧ i < n
  | .ptr id off, u => id < v.N ∧ ∃ g, v.ρ id = .pointer (some ⟨g, 0, none⟩) ∧ u = .pointer (some ⟨g, off, none⟩)
  | .fn f [], u => u = .func (.func f) #[] #[]
  | .junk, _ => True
  | .emp, u => ∃ A, u = .slice A 0 0
  | _, _ => False
def V2 (v : Vw) : PV → Value → Prop
  | .agg ps, u => ∃ vs, u = .agg vs ∧ F2 (V1 v) ps vs.toList
  | .fn f caps, u => ∃ vs, u = .func (.func f) #[] vs ∧ F2 (V1 v) caps vs.toList
  | p, u => V1 v p u
def V (v : Vw) : PV → Value → Prop
  | .tup ps, u => ∃ vs, u = .tuple vs ∧ F2 (V2 v) ps vs.toList
  | p, u => V2 v p u
structure Vw.Le (a b : Vw) : Prop where
  tr : Tr a.W b.W a.ok b.ok
  base : b.base = a.base
  N : a.N ≤ b.N
  ρ : ∀ i, i < a.N → b.ρ i = a.ρ i
theorem Vw.Le.okf {a b : Vw} (h : a.Le b) (f : Bool) : Tr a.W b.W (a.okf f) (b.okf f) :=
  ⟨h.tr.size, fun k hk hl => ⟨(h.tr.keep k hk.1 hl).1, (h.tr.keep k hk.1 hl).2, fun e => by rw [h.base]; exact hk.2 e⟩⟩
theorem V1.le {a b : Vw} (h : a.Le b) {p : PV} {u : Value} (hv : V1 a p u) : V1 b p u := by
  unfold V1 at hv ⊢
  split at hv
  case h_5 => exact hv.tr (h.okf _)
  case h_6 => obtain ⟨ad, e, hr, hi⟩ := hv; exact ⟨ad, e, hr.tr (h.okf _), hi⟩
  case h_7 => exact ⟨Nat.lt_of_lt_of_le hv.1 h.N, by rw [h.ρ _ hv.1]; exact hv.2⟩
  case h_8 => exact ⟨Nat.lt_of_lt_of_le hv.1 h.N, by rw [h.ρ _ hv.1]; exact hv.2⟩
  case h_9 => exact ⟨Nat.lt_of_lt_of_le hv.1 h.N, by rw [h.ρ _ hv.1]; exact hv.2⟩
  all_goals exact hv
theorem V2.le {a b : Vw} (h : a.Le b) {p : PV} {u : Value} (hv : V2 a p u) : V2 b p u := by
  unfold V2 at hv ⊢
  split at hv
  · obtain ⟨vs, e, hf⟩ := hv; exact ⟨vs, e, hf.imp fun _ _ => V1.le h⟩
  · obtain ⟨vs, e, hf⟩ := hv; exact ⟨vs, e, hf.imp fun _ _ => V1.le h⟩
  · exact hv.le h
theorem V.le {a b : Vw} (h : a.Le b) {p : PV} {u : Value} (hv : V a p u) : V b p u := by
  unfold V at hv ⊢
  split at hv
  · obtain ⟨vs, e, hf⟩ := hv; exact ⟨vs, e, hf.imp fun _ _ => V2.le h⟩
  · exact hv.le h
end FN

namespace FN
open Go Go.RowKit
def blkOf : Value → Option Nat
  | .slice (some a) _ _ => some a.block
  | .pointer (some a) => some a.block
  | _ => none
/-- The handles; the elder blocks that may be read. -/
structure Rh where
  f : Nat → Value
  ok0 : Nat → Prop
instance : CoeFun Rh (fun _ => Nat → Value) := ⟨Rh.f⟩
def okOf (ρ : Rh) (H : Hp) (k : Nat) : Prop := ρ.ok0 k ∧ ∀ i, H.get i ≠ none → blkOf (ρ i) ≠ some k
def vw (W : World) (base : Nat) (ρ : Rh) (H : Hp) : Vw := ⟨W, okOf ρ H, base, H.length, ρ.f⟩
/-- An array's cells in a row of its own. -/
def ArrR (v : Vw) (f : Bool) (c : CK) (xs : List c.T) (inner : List Value) : Prop :=
  ∀ (j : Nat) y, xs[j]? = some y → ∃ cs, ElR v.W (v.okf f) c y cs ∧ ∀ (i : Nat) u, cs[i]? = some u → inner[j * c.sz + i]? = some u
/-- The blocks that a call may write, the elder ones that it may read. -/
structure Mn where
  m : Nat → Prop
  up : Nat → Prop
instance : CoeFun Mn (fun _ => Nat → Prop) := ⟨Mn.m⟩
def BlkR (v : Vw) (mine : Mn) (x : Value) : Blk → Prop
  | .box t cells => ∃ g cur, x = .pointer (some ⟨g, 0, none⟩) ∧ mine g ∧ v.W.heap[g]? = some (.cells cur t (0, 0)) ∧ F2 (V1 v) cells cur.toList
  | .arr e f c xs => ∃ inner, v.W.ownsRow v.base e c.sz x xs.length inner ∧ ArrR v f c xs inner
structure HRel (mine : Mn) (W : World) (base : Nat) (ρ : Rh) (H : Hp) : Prop where
  bs : base ≤ W.heap.size
  blk : ∀ i b, H.get i = some b → BlkR (vw W base ρ H) mine (ρ i) b
  inj : ∀ i j, H.get i ≠ none → H.get j ≠ none → ∀ g, blkOf (ρ i) = some g → blkOf (ρ j) = some g → i = j
  ok0 : ∀ k, base ≤ k → ρ.ok0 k
  up : ∀ k, ρ.ok0 k → mine.up k

theorem own_blkOf {W : World} {base : Nat} {e : TypeId} {sz n : Nat} {v : Value} {xs : List Value} (h : W.ownsRow base e sz v n xs) : blkOf v = v.ownBlock := by
  rcases h.2 with ⟨rfl, _⟩ | ⟨g, cap, cur, rfl, _⟩ <;> rfl
theorem BlkR.lt {v : Vw} {mine : Mn} {x : Value} {b : Blk} (h : BlkR v mine x b) {g : Nat} (hg : blkOf x = some g) : g < v.W.heap.size := by
  cases b with
  | box t cells =>
    obtain ⟨g', cur, rfl, _, hc, _⟩ := h
    simp [blkOf] at hg
    subst hg
    exact (Array.getElem?_eq_some_iff.1 hc).1
  | arr e f c xs =>
    obtain ⟨inner, ho, _⟩ := h
    rw [own_blkOf ho] at hg
    exact (World.ownsRow.lt ho _ hg).2
theorem HRel.lt {mine : Mn} {W : World} {base : Nat} {ρ : Rh} {H : Hp} (h : HRel mine W base ρ H) {i g : Nat} (hi : H.get i ≠ none) (hg : blkOf (ρ i) = some g) : g < W.heap.size := by
  cases hb : H.get i with
  | none => exact absurd hb hi
  | some b => exact (h.blk i b hb).lt hg
theorem Hp.get_lt {H : Hp} {i : Nat} (h : H.get i ≠ none) : i < H.length := by
  unfold Hp.get at h
  rcases Nat.lt_or_ge i H.length with h' | h'
  · exact h'
  · rw [List.getElem?_eq_none h'] at h; simp at h
theorem Hp.get_app {H : Hp} {bs : List Blk} {i : Nat} : (Hp.get (H ++ bs.map some) i) = if i < H.length then H.get i else bs[i - H.length]? := by
  unfold Hp.get
  split
  · rw [List.getElem?_append_left (by assumption)]
  · rw [List.getElem?_append_right (by omega), List.getElem?_map]
    cases bs[i - H.length]? <;> rfl
theorem Hp.get_set {H : Hp} {i j : Nat} {x : Option Blk} : Hp.get (H.set i x) j = if j = i ∧ i < H.length then x else H.get j := by
  unfold Hp.get
  by_cases h : j = i ∧ i < H.length
  · obtain ⟨rfl, hl⟩ := h
    simp [hl]
  · rw [if_neg h]
    by_cases e : i = j
    · subst e
      have : ¬ i < H.length := fun hl => h ⟨rfl, hl⟩
      rw [List.set_eq_of_length_le (by omega)]
    · rw [List.getElem?_set_ne e]

/-- The handles behind new blocks. -/
def ext (ρ : Rh) (N : Nat) (vs : List Value) : Rh := ⟨fun i => if i < N then ρ i else vs.getD (i - N) undef, ρ.ok0⟩
theorem ext_old {ρ : Rh} {N : Nat} {vs : List Value} {i : Nat} (h : i < N) : ext ρ N vs i = ρ i := if_pos h
theorem ext_new {ρ : Rh} {N : Nat} {vs : List Value} {j : Nat} {v : Value} (h : vs[j]? = some v) : ext ρ N vs (N + j) = v := by
  show (if N + j < N then ρ (N + j) else vs.getD (N + j - N) undef) = v
  rw [if_neg (by omega), show N + j - N = j by omega, List.getD_eq_getElem?_getD, h]; rfl

section
variable {mine : Mn} {W W' : World} {base : Nat} {ρ : Rh} {H H1 : Hp} {news : List Blk} {vs : List Value}
/-- Some are gone, new ones have come; all else is as it was. -/
theorem HRel.grow (h : HRel mine W base ρ H) (hl : H1.length = H.length) (hsub : ∀ i b, H1.get i = some b → H.get i = some b) (hs : W.heap.size ≤ W'.heap.size)
    (hag : ∀ k, k < W.heap.size → (okOf ρ H k ∨ ∃ i, H1.get i ≠ none ∧ blkOf (ρ i) = some k) → W'.heap[k]? = W.heap[k]?)
    (hln : news.length = vs.length)
    (hfar : ∀ (j : Nat) v g, vs[j]? = some v → blkOf v = some g → W.heap.size ≤ g ∨ ∃ i, H.get i ≠ none ∧ H1.get i = none ∧ blkOf (ρ i) = some g)
    (hinj : ∀ (i j : Nat) u v g, vs[i]? = some u → vs[j]? = some v → blkOf u = some g → blkOf v = some g → i = j)
    (hnew : (vw W base ρ H).Le (vw W' base (ext ρ H.length vs) (H1 ++ news.map some)) → ∀ (j : Nat) b v, news[j]? = some b → vs[j]? = some v → BlkR (vw W' base (ext ρ H.length vs) (H1 ++ news.map some)) mine v b) :
    HRel mine W' base (ext ρ H.length vs) (H1 ++ news.map some) ∧ (vw W base ρ H).Le (vw W' base (ext ρ H.length vs) (H1 ++ news.map some)) := by
  have hlive : ∀ i, H1.get i ≠ none → H.get i ≠ none := by
    intro i hi
    cases hb : H1.get i with
    | none => exact absurd hb hi
    | some b => rw [hsub i b hb]; simp
  have hok : ∀ k, okOf ρ H k → k < W.heap.size → okOf (ext ρ H.length vs) (H1 ++ news.map some) k := by
    intro k hk hkl
    refine ⟨hk.1, fun i hi hb => ?_⟩
    rw [Hp.get_app] at hi
    by_cases c : i < H1.length
    · rw [if_pos c] at hi
      rw [ext_old (by omega)] at hb
      exact hk.2 i (hlive i hi) hb
    · rw [if_neg c] at hi
      have hj : i - H1.length < news.length := by
        rcases Nat.lt_or_ge (i - H1.length) news.length with h' | h'
        · exact h'
        · rw [List.getElem?_eq_none h'] at hi; simp at hi
      obtain ⟨v, hv⟩ : ∃ v, vs[i - H1.length]? = some v := ⟨_, List.getElem?_eq_getElem (by omega)⟩
      have he : ext ρ H.length vs i = v := by
        have := ext_new (ρ := ρ) (N := H.length) hv
        rwa [show H.length + (i - H1.length) = i by omega] at this
      rw [he] at hb
      rcases hfar _ v k hv hb with h1 | ⟨i', h1, _, h3⟩
      · omega
      · exact hk.2 i' h1 h3
  have hle : (vw W base ρ H).Le (vw W' base (ext ρ H.length vs) (H1 ++ news.map some)) :=
    ⟨⟨hs, fun k hk hkl => ⟨hag k hkl (.inl hk), hok k hk hkl⟩⟩, rfl, by simp [vw]; omega, fun i hi => ext_old hi⟩
  refine ⟨⟨Nat.le_trans h.bs hs, fun i b hb => ?_, fun i j hi hj g hgi hgj => ?_, h.ok0, h.up⟩, hle⟩
  · rw [Hp.get_app] at hb
    by_cases c : i < H1.length
    · rw [if_pos c] at hb
      rw [ext_old (by omega)]
      have hB := h.blk i b (hsub i b hb)
      have hlv : H1.get i ≠ none := by rw [hb]; simp
      cases b with
      | box t cells =>
        obtain ⟨g, cur, hx, hm, hc, hf⟩ := hB
        have hg : g < W.heap.size := (Array.getElem?_eq_some_iff.1 hc).1
        exact ⟨g, cur, hx, hm, (hag g hg (.inr ⟨i, hlv, by rw [hx]; rfl⟩)).trans hc, hf.imp fun _ _ => V1.le hle⟩
      | arr e f c xs =>
        obtain ⟨inner, ho, ha⟩ := hB
        refine ⟨inner, ⟨ho.1, ?_⟩, fun j y hy => ?_⟩
        · rcases ho.2 with h2 | ⟨g, cap, cur, hv, hb', hh, r⟩
          · exact .inl h2
          · have hg : g < W.heap.size := (Array.getElem?_eq_some_iff.1 hh).1
            exact .inr ⟨g, cap, cur, hv, hb', (hag g hg (.inr ⟨i, hlv, by rw [hv]; rfl⟩)).trans hh, r⟩
        · obtain ⟨cs, he, hcs⟩ := ha j y hy
          exact ⟨cs, he.tr (hle.okf f), hcs⟩
    · rw [if_neg c] at hb
      obtain ⟨v, hv⟩ : ∃ v, vs[i - H1.length]? = some v := ⟨_, List.getElem?_eq_getElem (by have := (List.getElem?_eq_some_iff.1 hb).1; omega)⟩
      have he : ext ρ H.length vs i = v := by
        have := ext_new (ρ := ρ) (N := H.length) hv
        rwa [show H.length + (i - H1.length) = i by omega] at this
      rw [he]
      exact hnew hle _ b v hb hv
  · have key : ∀ i, Hp.get (H1 ++ news.map some) i ≠ none → ∀ g, blkOf (ext ρ H.length vs i) = some g → (i < H.length ∧ H1.get i ≠ none ∧ blkOf (ρ i) = some g) ∨ (H.length ≤ i ∧ ∃ v, vs[i - H.length]? = some v ∧ blkOf v = some g) := by
      intro i hi g hg
      rw [Hp.get_app] at hi
      by_cases c : i < H1.length
      · rw [if_pos c] at hi
        rw [ext_old (by omega)] at hg
        exact .inl ⟨by omega, hi, hg⟩
      · rw [if_neg c] at hi
        have hj : i - H1.length < news.length := by
          rcases Nat.lt_or_ge (i - H1.length) news.length with h' | h'
          · exact h'
          · rw [List.getElem?_eq_none h'] at hi; simp at hi
        obtain ⟨v, hv⟩ : ∃ v, vs[i - H1.length]? = some v := ⟨_, List.getElem?_eq_getElem (by omega)⟩
        have he : ext ρ H.length vs i = v := by
          have := ext_new (ρ := ρ) (N := H.length) hv
          rwa [show H.length + (i - H1.length) = i by omega] at this
        rw [he] at hg
        exact .inr ⟨by omega, v, by rw [← hl]; exact hv, hg⟩
    have cross : ∀ (i j : Nat), (H1.get i ≠ none ∧ blkOf (ρ i) = some g) → (∃ v, vs[j]? = some v ∧ blkOf v = some g) → False := by
      rintro i j ⟨h1, h2⟩ ⟨v, h3, h4⟩
      rcases hfar j v g h3 h4 with h5 | ⟨i', h5, h6, h7⟩
      · have := h.lt (hlive i h1) h2; omega
      · have := h.inj i i' (hlive i h1) h5 g h2 h7
        subst this
        exact h1 h6
    rcases key i hi g hgi with ⟨a1, a2, a3⟩ | ⟨a1, a2⟩ <;> rcases key j hj g hgj with ⟨b1, b2, b3⟩ | ⟨b1, b2⟩
    · exact h.inj i j (hlive i a2) (hlive j b2) g a3 b3
    · exact (cross i _ ⟨a2, a3⟩ b2).elim
    · exact (cross j _ ⟨b2, b3⟩ a2).elim
    · obtain ⟨u, hu, hu2⟩ := a2
      obtain ⟨v, hv, hv2⟩ := b2
      have := hinj _ _ u v g hu hv hu2 hv2
      omega
end
end FN

namespace FN
open Go Go.RowKit
/-- The elder blocks that a call may write; those that it may read. -/
structure Pn where
  p : Nat → Prop
  up : Nat → Prop
instance : CoeFun Pn (fun _ => Nat → Prop) := ⟨Pn.p⟩
/-- What stays of a call's elder memory. -/
structure Kp (pin : Pn) (base : Nat) (w w' : World) : Prop where
  os : w'.os = w.os
  tape : w'.tape = w.tape
  output : w'.output = w.output
  size : w.heap.size ≤ w'.heap.size
  block : ∀ k, k < base → ¬ pin k → w'.heap[k]? = w.heap[k]?
theorem Kp.refl (pin : Pn) (base : Nat) (w : World) : Kp pin base w w := ⟨rfl, rfl, rfl, Nat.le_refl _, fun _ _ _ => rfl⟩
theorem Kp.trans {pin : Pn} {base : Nat} {a b c : World} (h : Kp pin base a b) (k : Kp pin base b c) : Kp pin base a c :=
  ⟨k.os.trans h.os, k.tape.trans h.tape, k.output.trans h.output, Nat.le_trans h.size k.size, fun i hi hp => (k.block i hi hp).trans (h.block i hi hp)⟩
theorem Kp.drew {pin : Pn} {base : Nat} (w : World) : Kp pin base w { w with drawn := w.drawn + 1 } := ⟨rfl, rfl, rfl, Nat.le_refl _, fun _ _ _ => rfl⟩
theorem Kp.alloc {pin : Pn} {base : Nat} {w : World} (o : Obj) (h : base ≤ w.heap.size) : Kp pin base w (w.alloc o) :=
  ⟨rfl, rfl, rfl, by simp, fun k hk _ => heap_alloc_old w o (by omega)⟩
theorem Kp.grown {pin : Pn} {base : Nat} {w w' : World} {row : Option Nat} (hg : w.grownBy w' row) (h : base ≤ w.heap.size) (hr : ∀ k, row = some k → base ≤ k) : Kp pin base w w' :=
  ⟨hg.os, hg.tape, hg.output, hg.size, fun k hk _ => hg.block k (by omega) (fun e => by have := hr k e.symm; omega)⟩
def mine (pin : Pn) (base : Nat) : Mn := ⟨fun k => base ≤ k ∨ pin k, pin.up⟩

/-- All that stood stands as it was. -/
def Grows (w w' : World) : Prop := w.heap.size ≤ w'.heap.size ∧ ∀ k, k < w.heap.size → w'.heap[k]? = w.heap[k]?
theorem Grows.refl (w : World) : Grows w w := ⟨Nat.le_refl _, fun _ _ => rfl⟩
theorem Grows.trans {a b c : World} (h : Grows a b) (k : Grows b c) : Grows a c := ⟨Nat.le_trans h.1 k.1, fun i hi => (k.2 i (Nat.lt_of_lt_of_le hi h.1)).trans (h.2 i hi)⟩
theorem Grows.alloc (w : World) (o : Obj) : Grows w (w.alloc o) := ⟨by simp, fun k hk => heap_alloc_old w o hk⟩
theorem Grows.cell {w w' : World} (h : Grows w w') {a : Addr} {u : Value} (hc : w.cell? a = some u) : w'.cell? a = some u :=
  (World.cell?_of_block (h.2 _ (World.block_lt_of_cell? w a hc))).trans hc
section
variable (P : Program) (pin : Pn) (base : Nat) (g : Bool)
/-- An operation comes to p and h'. -/
def Res (o : Oper) (a : Act) (w : World) (ρ : Rh) (h : Hp) (p : PV) (h' : Hp) : Prop :=
  (∀ (next : Act → World → Prop) (Q : Exit → Act → World → Prop),
    (∀ u w' ρ', HRel (mine pin base) w' base ρ' h' → (vw w base ρ h).Le (vw w' base ρ' h') → V (vw w' base ρ' h') p u → Kp pin base w w' → (g = true → Grows w w') → next (a.put o.dst u) w') → o.wp P a w next Q) ∧
  (quiet o.op = true → h' = h ∧ ∃ u, (execOp a.eval o).run P w = .ok (.value u) w ∧ V (vw w base ρ h) p u) ∧
  ((mvOp o.op || loadOp o.op) = true → ∃ u, ∀ w', (loadOp o.op = true → Grows w w') → (execOp a.eval o).run P w' = .ok (.value u) w')
end
section
variable {P : Program} {pin : Pn} {base : Nat} {g : Bool} {o : Oper} {a : Act} {w w' : World} {ρ ρ' : Rh} {h h' : Hp} {p : PV} {u : Value}
theorem Vw.Le.refl (a : Vw) : a.Le a := ⟨Tr.refl _ _, rfl, Nat.le_refl _, fun _ _ => rfl⟩
theorem Vw.Le.trans {a b c : Vw} (h : a.Le b) (k : b.Le c) : a.Le c :=
  ⟨⟨Nat.le_trans h.tr.size k.tr.size, fun i hi hl => by
    have h1 := h.tr.keep i hi hl
    have h2 := k.tr.keep i h1.2 (Nat.lt_of_lt_of_le hl h.tr.size)
    exact ⟨h2.1.trans h1.1, h2.2⟩⟩, k.base.trans h.base, Nat.le_trans h.N k.N, fun i hi => (k.ρ i (Nat.lt_of_lt_of_le hi h.N)).trans (h.ρ i hi)⟩
theorem Res.val (hq : (quiet o.op || (mvOp o.op || loadOp o.op)) = false) (hr : (execOp a.eval o).run P w = .ok (.value u) w') (hH : HRel (mine pin base) w' base ρ' h') (hl : (vw w base ρ h).Le (vw w' base ρ' h')) (hv : V (vw w' base ρ' h') p u) (hk : Kp pin base w w') (hg : g = true → Grows w w') : Res P pin base g o a w ρ h p h' := by
  rw [Bool.or_eq_false_iff] at hq
  refine ⟨fun next Q hn => ?_, fun h => by (rw [hq.1] at h; cases h), fun h => by (rw [hq.2] at h; cases h)⟩
  simp only [Oper.wp, Oper.upon, hr]
  exact hn u w' ρ' hH hl hv hk hg
theorem Res.skip (hq : (quiet o.op || (mvOp o.op || loadOp o.op)) = false) (hr : (execOp a.eval o).run P w = .ok .skip w') (hH : HRel (mine pin base) w' base ρ' h') (hl : (vw w base ρ h).Le (vw w' base ρ' h')) (hk : Kp pin base w w') (hg : g = true → Grows w w') : Res P pin base g o a w ρ h .junk h' := by
  rw [Bool.or_eq_false_iff] at hq
  refine ⟨fun next Q hn => ?_, fun h => by (rw [hq.1] at h; cases h), fun h => by (rw [hq.2] at h; cases h)⟩
  simp only [Oper.wp, Oper.upon, hr]
  exact hn _ w' ρ' hH hl (by simp [V, V2, V1]) hk hg
/-- Nothing in memory turns. -/
theorem Res.same1 (hH : HRel (mine pin base) w base ρ h) (hr' : ∀ w', Grows w w' → (execOp a.eval o).run P w' = .ok (.value u) w') (hm : loadOp o.op = true) (hv : V (vw w base ρ h) p u) : Res P pin base g o a w ρ h p h := by
  have hr := hr' w (Grows.refl w)
  refine ⟨fun next Q hn => ?_, fun _ => ⟨rfl, u, hr, hv⟩, fun _ => ⟨u, fun w' hg => hr' w' (hg hm)⟩⟩
  simp only [Oper.wp, Oper.upon, hr]
  exact hn u w ρ hH (Vw.Le.refl _) hv (Kp.refl _ _ _) (fun _ => Grows.refl _)
theorem Res.valM (hq : quiet o.op = false) (hr : ∀ w', (execOp a.eval o).run P w' = .ok (.value u) w') (hH : HRel (mine pin base) w base ρ' h') (hl : (vw w base ρ h).Le (vw w base ρ' h')) (hv : V (vw w base ρ' h') p u) : Res P pin base g o a w ρ h p h' := by
  refine ⟨fun next Q hn => ?_, fun h => by (rw [hq] at h; cases h), fun _ => ⟨u, fun w' _ => hr w'⟩⟩
  have hr := hr w
  simp only [Oper.wp, Oper.upon, hr]
  exact hn u w ρ' hH hl hv (Kp.refl _ _ _) (fun _ => Grows.refl _)
theorem Res.same (hH : HRel (mine pin base) w base ρ h) (hr' : ∀ w', (execOp a.eval o).run P w' = .ok (.value u) w') (hv : V (vw w base ρ h) p u) : Res P pin base g o a w ρ h p h := by
  have hr := hr' w
  refine ⟨fun next Q hn => ?_, fun _ => ⟨rfl, u, hr, hv⟩, fun _ => ⟨u, fun w' _ => hr' w'⟩⟩
  simp only [Oper.wp, Oper.upon, hr]
  exact hn u w ρ hH (Vw.Le.refl _) hv (Kp.refl _ _ _) (fun _ => Grows.refl _)
end
theorem Addr.add_add (a : Addr) (m n : Nat) : (a.add m).add n = a.add (m + n) := by
  unfold Addr.add
  by_cases hn : n = 0
  · subst hn; simp
  · by_cases hm : m = 0
    · subst hm; simp [hn]
    · simp [hm, hn, Nat.add_assoc]
section
variable {P : Program} {w : World}
theorem run_sz {t : TypeId} {i : TypeInfo} (hi : P.info? t = some i) : (Go.sizeOf t).run P w = Result.ok i.size w := by
  rw [run_sizeOf w hi]; simp [Program.cellsOf, hi]
theorem run_isAgg {t : TypeId} {d : TypeDesc} (hd : P.underlying t = some d) : (isAgg t).run P w = .ok (isAggB P t) w := by
  unfold isAgg isAggB
  simp only [Sem.run_bind, run_underlying hd, Result.andThen_ok, hd]
  cases d <;> rfl
theorem info_of_under {t : TypeId} {d : TypeDesc} (hd : P.underlying t = some d) : ∃ i, P.info? t = some i := by
  unfold Program.underlying at hd
  cases h : P.info? t with
  | none => simp [h] at hd
  | some i => exact ⟨i, rfl⟩
/-- A variable is read. -/
theorem run_loadAt {t : TypeId} {d : TypeDesc} (hd : P.underlying t = some d) {a : Addr} {cs : List Value} (hc : ∀ (j : Nat) u, cs[j]? = some u → w.cell? (a.add j) = some u) :
    (isAggB P t = true → cs.length = szOf P t → (Instr.loadAt t (.pointer (some a))).run P w = .ok (.agg cs.toArray) w) ∧
    (isAggB P t = false → ∀ u, cs[0]? = some u → (Instr.loadAt t (.pointer (some a))).run P w = .ok u w) := by
  obtain ⟨i, hi⟩ := info_of_under hd
  constructor
  · intro hA hl
    have hz : szOf P t = i.size := by simp [szOf, hi]
    simp only [Instr.loadAt, Instr.sureAddr, loadVar, Sem.run_bind, Sem.run_pure, Result.andThen_ok, run_isAgg hd, hA, if_true, run_sz hi]
    rw [← hz, ← hl, run_loadCells_list w a cs hc]
    simp
  · intro hA u hu
    have h0 := hc 0 u hu
    have e0 : a.add 0 = a := rfl
    rw [e0] at h0
    simp only [Instr.loadAt, Instr.sureAddr, loadVar, Sem.run_bind, Sem.run_pure, Result.andThen_ok, run_isAgg hd, hA, Bool.false_eq_true, if_false]
    simp [load, Sem.run, h0]
end
end FN

namespace FN
open Go Go.RowKit
section
variable {P : Program} {w : World}
theorem eqGuard_ok {op : BinOp} {t : TypeId} {x y : Operand} {a b : Value} (h1 : a ≠ .nilIface) (h2 : ∀ cs, a ≠ .agg cs) : (eqGuard op t x y a b).run P w = .ok () w := by
  cases a <;> first | (exact absurd rfl h1) | (exact absurd rfl (h2 _)) | (cases op <;> rfl)
section
variable {v : Vw} {R : Type} {K : PV → Option R} {r : R}
theorem cellK_plain {t : TypeId} {k : Nat} (h : cellK P t = some k) : P.plainKey t = true := by
  unfold cellK at h
  unfold Program.plainKey
  split at h <;> first | (cases h; done) | (rename_i hu; rw [hu]) | (rename_i u hu; rw [hu])
theorem eqCell_run {v : Vw} {t : TypeId} {k : Nat} {p q : PV} {a b : Value} {r : Bool} (hk : cellK P t = some k) (h : eqCell k p q = some r) (hp : V1 v p a) (hq : V1 v q b) (d : Nat) (w : World) : (Op.equalIn (d + 1) t a b).run P w = .ok r w := by
  unfold cellK at hk
  unfold eqCell at h
  split at h
  · rename_i k1 n k2 m
    simp only [V1] at hp hq
    subst hp; subst hq
    split at h
    · rename_i hkk
      subst hkk
      injection h with h
      subst h
      split at hk <;> try (cases hk; done)
      rename_i u hu
      exact run_equalIn_int w d t _ _ n m hu
    · cases h
  · simp only [V1] at hp hq
    subst hp; subst hq
    injection h with h
    subst h
    split at hk <;> try (cases hk; done)
    rename_i hu
    exact run_equalIn_bool' w d t _ _ hu
  · simp only [V1] at hp hq
    subst hp; subst hq
    injection h with h
    subst h
    split at hk <;> try (cases hk; done)
    rename_i hu
    exact run_equalIn_string w d t _ _ hu
  · cases h
theorem eqFields_run {v : Vw} {xs ys : Array Value} {d : Nat} {w : World} : ∀ (fs : List Field) (ks : List Nat) (i : Nat) (ps qs : List PV) (r : Bool), fs.mapM (fun f => cellK P f.type) = some ks → fs.map (·.offset) = (List.range fs.length).map (i + ·) → (∀ f ∈ fs, f.name ≠ "_") →
    F2 (V1 v) ps (xs.toList.drop i) → F2 (V1 v) qs (ys.toList.drop i) → eqCells ks ps qs = some r → (Op.eqFields (d + 1) xs ys fs).run P w = .ok r w
  | [], ks, i, ps, qs, r, hm, _, _, hp, hq, h => by
    simp at hm
    subst hm
    cases ps with
    | nil =>
      cases qs with
      | nil => simp [eqCells] at h; subst h; simp [Op.eqFields]
      | cons q qs => simp [eqCells] at h
    | cons p ps => cases qs <;> simp [eqCells] at h
  | f :: fs, ks, i, ps, qs, r, hm, ho, hn, hp, hq, h => by
    rw [List.mapM_cons] at hm
    obtain ⟨k, hk, hm⟩ := Option.bind_eq_some_iff.1 hm
    obtain ⟨ks', hks, hm⟩ := Option.bind_eq_some_iff.1 hm
    injection hm with hm
    subst hm
    cases ps with
    | nil => cases qs <;> simp [eqCells] at h
    | cons p ps =>
    cases qs with
    | nil => simp [eqCells] at h
    | cons q qs =>
    simp only [eqCells] at h
    split at h
    · rename_i a b ha hb
      injection h with h
      subst h
      have hoff : f.offset = i := by
        have := congrArg List.head? ho
        simpa [List.range_succ_eq_map] using this
      have hoff' : fs.map (·.offset) = (List.range fs.length).map (i + 1 + ·) := by
        have := congrArg List.tail ho
        simp only [List.map_cons, List.tail_cons, List.length_cons, List.range_succ_eq_map, List.map_cons, List.map_map] at this
        rw [this]
        apply List.map_congr_left
        intro x _
        simp only [Function.comp]
        omega
      cases hx : xs.toList.drop i with
      | nil => rw [hx] at hp; cases hp
      | cons u us =>
      cases hy : ys.toList.drop i with
      | nil => rw [hy] at hq; cases hq
      | cons z zs =>
      rw [hx] at hp
      rw [hy] at hq
      cases hp with
      | cons hp1 hp2 =>
      cases hq with
      | cons hq1 hq2 =>
      have e1 : xs[i]? = some u := by
        have := congrArg (·[0]?) hx
        simpa using this
      have e2 : ys[i]? = some z := by
        have := congrArg (·[0]?) hy
        simpa using this
      have t1 : xs.toList.drop (i + 1) = us := by rw [← List.drop_drop (i := 1) (j := i), hx]; rfl
      have t2 : ys.toList.drop (i + 1) = zs := by rw [← List.drop_drop (i := 1) (j := i), hy]; rfl
      have ih := eqFields_run (w := w) (d := d) fs ks' (i + 1) ps qs b hks hoff' (fun g hg => hn g (by simp [hg])) (by rw [t1]; exact hp2) (by rw [t2]; exact hq2) hb
      rw [Op.eqFields, if_pos (hn f (by simp))]
      rw [hoff]
      simp only [Sem.run_bind, run_part_plain w (cellK_plain hk) e1, run_part_plain w (cellK_plain hk) e2, eqCell_run hk ha hp1 hq1 d w, Result.andThen_ok]
      cases a
      · simp
      · simpa using ih
    · cases h
theorem structK_some {ty : TypeId} {ks : List Nat} (h : structK P ty = some ks) : ∃ fs, P.underlying ty = some (.struct fs) ∧ P.stoodInHeld ty = false ∧ P.eqGuardType P.depth ty = false ∧ (∀ f ∈ fs.toList, f.name ≠ "_") ∧ fs.toList.map (·.offset) = List.range fs.toList.length ∧ fs.toList.mapM (fun f => cellK P f.type) = some ks := by
  unfold structK at h
  split at h
  · rename_i fs hu
    split at h
    · rename_i hc
      simp only [Bool.and_eq_true, Bool.not_eq_true', beq_iff_eq, List.all_eq_true, bne_iff_ne] at hc
      exact ⟨fs, hu, hc.1.1.1, hc.1.1.2, hc.1.2, hc.2, h⟩
    · cases h
  · cases h
theorem struct_run {v : Vw} {ty : TypeId} {ks : List Nat} {ps qs : List PV} {xs ys : Array Value} {r : Bool} (hs : structK P ty = some ks) (h : eqCells ks ps qs = some r) (hp : F2 (V1 v) ps xs.toList) (hq : F2 (V1 v) qs ys.toList) (w : World) : (Op.equalIn 10000 ty (.agg xs) (.agg ys)).run P w = .ok r w := by
  obtain ⟨fs, hu, h1, h2, h3, h4, h5⟩ := structK_some hs
  have hf : P.fieldsOf ty = fs := by simp [Program.fieldsOf, hu]
  rw [show (10000 : Nat) = 9998 + 1 + 1 from rfl, run_equalIn_struct w _ ty xs ys (by rw [hf]; exact hu) h1, hf]
  exact eqFields_run fs.toList ks 0 ps qs r h5 (by rw [h4]; simp) h3 (by simpa using hp) (by simpa using hq) h
theorem binK_sound {tb ts : Bool} {st : Option (List Nat)} {op : BinOp} {x y : PV} {a b : Value} {ty : TypeId} {xo yo : Operand} (h : binK tb ts st op x y K = some r) (hx : V v x a) (hy : V v y b)
    (hb : tb = true → P.underlying ty = some .bool) (hs : ts = true → ∃ e, P.underlying ty = some (.slice e)) (hst : ∀ ks, st = some ks → structK P ty = some ks) :
    ∃ p, K p = some r ∧ (∀ {R' : Type} (K' : PV → Option R'), binK tb ts st op x y K' = K' p) ∧ ∃ z, V1 v p z ∧ ∀ w, (do eqGuard op ty xo yo a b; binOp op ty a b : Sem Value).run P w = .ok z w := by
  have key : ∀ z, (∀ cs, a ≠ .agg cs) → a ≠ .nilIface → (∀ w, (binOp op ty a b).run P w = .ok z w) → ∀ w, (do eqGuard op ty xo yo a b; binOp op ty a b : Sem Value).run P w = .ok z w := by
    intro z h1 h2 h3 w
    rw [Sem.run_bind, eqGuard_ok h2 h1]
    exact h3 w
  unfold binK at h
  split at h
  case h_1 k n k' m => 
    simp only [V, V2, V1] at hx hy; subst hx; subst hy
    split at h
    · cases h
    · rename_i hc
      exact ⟨_, h, fun K' => by simp [binK, hc], _, rfl, key _ (by simp) (by simp) (fun w => by simp [binOp, Op.shift, hc])⟩
  case h_2 k n k' m => 
    simp only [V, V2, V1] at hx hy; subst hx; subst hy
    split at h
    · cases h
    · rename_i hc
      exact ⟨_, h, fun K' => by simp [binK, hc], _, rfl, key _ (by simp) (by simp) (fun w => by simp [binOp, Op.shift, hc])⟩
  case h_6 k n k' m =>
    simp only [V, V2, V1] at hx hy; subst hx; subst hy
    split at h
    · rename_i hk; subst hk
      split at h
      · cases h
      · rename_i hc
        exact ⟨_, h, fun K' => by simp [binK, hc], _, rfl, key _ (by simp) (by simp) (fun w => by simp [binOp, Op.intDiv, hc])⟩
    · cases h
  case h_7 k n k' m =>
    simp only [V, V2, V1] at hx hy; subst hx; subst hy
    split at h
    · rename_i hk; subst hk
      split at h
      · cases h
      · rename_i hc
        exact ⟨_, h, fun K' => by simp [binK, hc], _, rfl, key _ (by simp) (by simp) (fun w => by simp [binOp, Op.intDiv, hc])⟩
    · cases h
  case h_18 p q =>
    simp only [V, V2, V1] at hx hy; subst hx; subst hy
    split at h
    · rename_i ht
      exact ⟨_, h, fun K' => by simp [binK, ht], _, rfl, key _ (by simp) (by simp) (fun w => by simp [binOp, run_equal_bool w ty p q (hb ht)])⟩
    · cases h
  case h_19 p q =>
    simp only [V, V2, V1] at hx hy; subst hx; subst hy
    split at h
    · rename_i ht
      exact ⟨_, h, fun K' => by simp [binK, ht], _, rfl, key _ (by simp) (by simp) (fun w => by simp [binOp, run_equal_bool w ty p q (hb ht)])⟩
    · cases h
  case h_20 =>
    simp only [V, V2, V1] at hx hy; subst hx; subst hy
    split at h
    · rename_i ht
      obtain ⟨e, he⟩ := hs ht
      exact ⟨_, h, fun K' => by simp [binK, ht], _, rfl, key _ (by simp) (by simp) (fun w => by simp [binOp, run_equal_slice_nil w ty e _ _ _ he])⟩
    · cases h
  case h_21 =>
    simp only [V, V2, V1] at hx hy; subst hx; subst hy
    split at h
    · rename_i ht
      obtain ⟨e, he⟩ := hs ht
      exact ⟨_, h, fun K' => by simp [binK, ht], _, rfl, key _ (by simp) (by simp) (fun w => by simp [binOp, run_equal_slice_nil w ty e _ _ _ he])⟩
    · cases h
  case h_22 f c xs =>
    simp only [V, V2, V1] at hx hy; subst hy
    split at h
    · rename_i ht
      obtain ⟨A, cp, rfl, _, _, hr⟩ := hx
      obtain ⟨ad, rfl, _⟩ := hr (fun e => ht.2 (by rw [e]; rfl))
      obtain ⟨e, he⟩ := hs ht.1
      exact ⟨_, h, fun K' => by simp [binK, ht], _, rfl, key _ (by simp) (by simp) (fun w => by simp [binOp, run_equal_slice_nil w ty e _ _ _ he])⟩
    · cases h
  case h_23 f c xs =>
    simp only [V, V2, V1] at hx hy; subst hy
    split at h
    · rename_i ht
      obtain ⟨A, cp, rfl, _, _, hr⟩ := hx
      obtain ⟨ad, rfl, _⟩ := hr (fun e => ht.2 (by rw [e]; rfl))
      obtain ⟨e, he⟩ := hs ht.1
      exact ⟨_, h, fun K' => by simp [binK, ht], _, rfl, key _ (by simp) (by simp) (fun w => by simp [binOp, run_equal_slice_nil w ty e _ _ _ he])⟩
    · cases h
  case h_24 p q =>
    simp only [V, V2, V1] at hx hy; subst hx; subst hy
    split at h
    · rename_i ht
      exact ⟨_, h, fun K' => by simp [binK, ht], _, rfl, key _ (by simp) (by simp) (fun w => by simpa [binOp] using run_string_add_sum w p q ht)⟩
    · cases h
  case h_25 p q =>
    simp only [V, V2, V1] at hx hy; subst hx; subst hy
    exact ⟨_, h, fun K' => rfl, _, rfl, key _ (by simp) (by simp) (fun w => by simp [binOp, Op.stringOp])⟩
  case h_26 p q =>
    simp only [V, V2, V1] at hx hy; subst hx; subst hy
    exact ⟨_, h, fun K' => rfl, _, rfl, key _ (by simp) (by simp) (fun w => by simp [binOp, Op.stringOp])⟩
  case h_27 ps qs =>
    obtain ⟨xs, rfl, hx⟩ := hx
    obtain ⟨ys, rfl, hy⟩ := hy
    split at h
    · rename_i ks
      split at h
      · rename_i b hb
        obtain ⟨fs, _, _, h2, _⟩ := structK_some (hst ks rfl)
        exact ⟨_, h, fun K' => by simp [binK, hb], .bool b, rfl, fun w => by rw [Sem.run_bind, run_eqGuard_agg w _ _ _ _ _ _ h2, Result.andThen_ok, run_eql_struct, struct_run (hst ks rfl) hb hx hy w]; rfl⟩
      · cases h
    · cases h
  case h_28 ps qs =>
    obtain ⟨xs, rfl, hx⟩ := hx
    obtain ⟨ys, rfl, hy⟩ := hy
    split at h
    · rename_i ks
      split at h
      · rename_i b hb
        obtain ⟨fs, _, _, h2, _⟩ := structK_some (hst ks rfl)
        exact ⟨_, h, fun K' => by simp [binK, hb], .bool (!b), rfl, fun w => by rw [Sem.run_bind, run_eqGuard_agg w _ _ _ _ _ _ h2, Result.andThen_ok, run_neq_struct, struct_run (hst ks rfl) hb hx hy w]; rfl⟩
      · cases h
    · cases h
  case h_29 => cases h
  all_goals
    rename_i k n k' m
    simp only [V, V2, V1] at hx hy; subst hx; subst hy
    split at h
    · rename_i hk; subst hk
      exact ⟨_, h, fun K' => by simp [binK], _, rfl, key _ (by simp) (by simp) (fun w => by simp [binOp, Op.intArith, Op.intCmp, intBits_and, intBits_or, intBits_xor, intBits_andNot])⟩
    · cases h
end
end
end FN

namespace FN
open Go Go.RowKit
section
variable {P : Program} {w : World}
theorem cell_blk {g : Nat} {cur : Array Value} {t : TypeId} {fr : Nat × Nat} (h : w.heap[g]? = some (.cells cur t fr)) {j : Nat} {u : Value} (hj : cur.toList[j]? = some u) : w.cell? ((⟨g, 0, none⟩ : Addr).add j) = some u := by
  have : ((⟨g, 0, none⟩ : Addr).add j) = ⟨g, j, none⟩ := by
    unfold Addr.add
    split
    · rename_i e; rw [e]
    · simp
  rw [this]
  simp [World.cell?, h]
  simpa using hj
theorem add0 (g n : Nat) : ((⟨g, 0, none⟩ : Addr).add n) = ⟨g, n, none⟩ := by
  unfold Addr.add
  split
  · rename_i e; rw [e]
  · simp
section
variable {v : Vw} {R : Type} {K : PV → Option R} {r : R}
theorem readK_sound {t : TypeId} {cells : List PV} {off : Nat} {cs : List Value} (h : readK P t cells off K = some r) (hf : F2 (V1 v) cells cs) :
    ∃ p, K p = some r ∧ (∀ {R' : Type} (K' : PV → Option R'), readK P t cells off K' = K' p) ∧ ∃ z, V2 v p z ∧ ∀ (w : World) (a : Addr), (∀ (j : Nat) u, cs[j]? = some u → w.cell? (a.add j) = some u) →
      (Instr.loadAt t (.pointer (some (a.add off)))).run P w = .ok z w := by
  unfold readK at h
  split at h
  · cases h
  · rename_i d hd
    have hcs : ∀ (w : World) (a : Addr), (∀ (j : Nat) u, cs[j]? = some u → w.cell? (a.add j) = some u) → ∀ (j : Nat) u, (cs.drop off)[j]? = some u → w.cell? ((a.add off).add j) = some u := by
      intro w a ha j u hj
      rw [List.getElem?_drop] at hj
      rw [Addr.add_add]
      exact ha _ u hj
    split at h
    · rename_i hA
      split at h
      · rename_i hl
        refine ⟨_, h, fun K' => by simp only [readK, hd]; rw [if_pos hA, if_pos hl], .agg ((cs.drop off).take (szOf P t)).toArray, ?_, fun w a ha => ?_⟩
        · exact ⟨_, rfl, by simpa using (hf.drop off).take _⟩
        · refine (run_loadAt hd (a := a.add off) (cs := (cs.drop off).take (szOf P t)) (fun j u hj => ?_)).1 hA ?_
          · rw [List.getElem?_take] at hj
            split at hj
            · exact hcs w a ha j u hj
            · cases hj
          · have := hf.len
            simp; omega
      · cases h
    · rename_i hA
      split at h
      · rename_i p hp
        obtain ⟨u, hu, hv⟩ := hf.get hp
        refine ⟨_, h, fun K' => by simp only [readK, hd]; rw [if_neg hA, hp], u, ?_, fun w a ha => ?_⟩
        · unfold V2
          split
          · simp [V1] at hv
          · rename_i f caps
            cases caps with
            | nil => simp only [V1] at hv; subst hv; exact ⟨#[], rfl, by simpa using F2.nil⟩
            | cons => simp [V1] at hv
          · exact hv
        · refine (run_loadAt hd (a := a.add off) (cs := cs.drop off) (hcs w a ha)).2 (by simpa using hA) u ?_
          simpa using hu
      · cases h
theorem flds_V1 {f : Bool} {c : CK} {x : c.T} {cs : List Value} (h : ElR v.W (v.okf f) c x cs) : F2 (V1 v) (c.flds f x) cs := by
  cases c <;> simp only [ElR] at h <;> simp only [CK.flds]
  case intss => obtain ⟨u, rfl, hs⟩ := h; exact .cons (slI_iff.2 hs) .nil
  case place => obtain ⟨u, z, rfl, h1, h2⟩ := h; exact .cons (slI_iff.2 h1) (.cons rfl (.cons (slI_iff.2 h2) .nil))
  all_goals (subst h; first | exact .cons rfl .nil | exact .cons rfl (.cons rfl (.cons rfl .nil)) | exact .cons rfl (.cons rfl .nil))
theorem getD_of {α : Type} {xs : List α} {i : Nat} {x d : α} (h : xs[i]? = some x) : xs.getD i d = x := by
  rw [List.getD_eq_getElem?_getD, h]; rfl
end
section
variable {base : Nat} {ρ : Rh} {h : Hp} {pin : Pn} {R : Type} {K : PV → Option R} {r : R}
theorem loadK_sound {t : TypeId} {p : PV} {u : Value} (hH : HRel (mine pin base) w base ρ h) (hk : loadK P t p h K = some r) (hp : V (vw w base ρ h) p u) :
    ∃ q, K q = some r ∧ (∀ {R' : Type} (K' : PV → Option R'), loadK P t p h K' = K' q) ∧ ∃ z, V2 (vw w base ρ h) q z ∧ ∀ w', Grows w w' → (Instr.loadAt t u).run P w' = .ok z w' := by
  unfold loadK at hk
  split at hk
  · rename_i id off
    simp only [V, V2, V1] at hp
    obtain ⟨_, g, hg, rfl⟩ := hp
    split at hk
    · rename_i bt cells hb
      obtain ⟨g', cur, he, _, hc, hf⟩ := hH.blk id _ hb
      replace hg : ρ id = _ := hg
      rw [hg] at he
      obtain rfl : g = g' := by injection he with he; injection he with he; injection he
      obtain ⟨q, h1, h2, z, h3, h4⟩ := readK_sound hk hf
      refine ⟨q, h1, fun K' => by simp only [loadK, hb]; exact h2 K', z, h3, fun w' hgr => ?_⟩
      have := h4 w' ⟨g, 0, none⟩ (fun j u hj => hgr.cell (cell_blk hc hj))
      rwa [add0] at this
    · cases hk
  · rename_i f c xs i off
    simp only [V, V2, V1] at hp
    obtain ⟨ad, rfl, ⟨_, _, hx⟩, hi⟩ := hp
    obtain ⟨x, hxi⟩ : ∃ x, xs[i]? = some x := ⟨_, List.getElem?_eq_getElem hi⟩
    obtain ⟨cs, hel, hcs⟩ := hx i x hxi
    rw [getD_of hxi] at hk
    obtain ⟨q, h1, h2, z, h3, h4⟩ := readK_sound hk (flds_V1 (v := vw w base ρ h) hel)
    refine ⟨q, h1, fun K' => by simp only [loadK]; rw [getD_of hxi]; exact h2 K', z, h3, fun w' hgr => ?_⟩
    have := h4 w' (ad.add (i * c.sz)) (fun j u hj => by rw [Addr.add_add]; exact hgr.cell (hcs j u hj))
    rwa [Addr.add_add] at this
  · rename_i id c' i off
    simp only [V, V2, V1] at hp
    obtain ⟨_, g, n, cp, hg, rfl, hi⟩ := hp
    split at hk
    · rename_i e f c xs hb
      split at hk
      · rename_i hc
        subst hc
        obtain ⟨inner, ho, ha⟩ := hH.blk id _ hb
        replace hg : ρ id = _ := hg
        rw [hg] at ho
        rcases ho.2 with ⟨h0, _⟩ | ⟨g', cap, cur, hv, _, hh, _, _, _, htk⟩
        · cases h0
        · obtain ⟨rfl, rfl, rfl⟩ : g = g' ∧ n = xs.length ∧ cp = cap := by
            injection hv with a1 a2 a3
            injection a1 with a1
            injection a1 with a1
            exact ⟨a1, a2, a3⟩
          obtain ⟨x, hxi⟩ : ∃ x, xs[i]? = some x := ⟨_, List.getElem?_eq_getElem hi⟩
          obtain ⟨cs, hel, hcs⟩ := ha i x hxi
          rw [getD_of hxi] at hk
          obtain ⟨q, h1, h2, z, h3, h4⟩ := readK_sound hk (flds_V1 (v := vw w base ρ h) hel)
          refine ⟨q, h1, fun K' => by simp only [loadK, hb, if_true]; rw [getD_of hxi]; exact h2 K', z, h3, fun w' hgr => ?_⟩
          have := h4 w' (Addr.add ⟨g, 0, none⟩ (i * c.sz)) (fun j u hj => by
            rw [Addr.add_add]
            refine hgr.cell (cell_blk hh ?_)
            have := hcs j u hj
            rw [← htk, List.getElem?_take] at this
            split at this
            · exact this
            · cases this)
          rwa [Addr.add_add, add0] at this
      · cases hk
    · cases hk
  · cases hk
end
end
end FN

namespace FN
open Go Go.RowKit
theorem seg_get {α : Type} (l m : List α) (o k : Nat) (h : o + m.length ≤ l.length) : (l.take o ++ m ++ l.drop (o + m.length))[k]? = if k < o then l[k]? else if k < o + m.length then m[k - o]? else l[k]? := by
  have hl : (l.take o).length = o := by simp; omega
  by_cases h1 : k < o
  · rw [if_pos h1, List.append_assoc, List.getElem?_append_left (by omega), List.getElem?_take, if_pos h1]
  · rw [if_neg h1, List.append_assoc, List.getElem?_append_right (by omega), hl]
    by_cases h2 : k < o + m.length
    · rw [if_pos h2, List.getElem?_append_left (by omega)]
    · rw [if_neg h2, List.getElem?_append_right (by omega), List.getElem?_drop]
      congr 1; omega
section
variable {mine : Mn} {W : World} {base : Nat} {ρ : Rh} {H : Hp}
theorem HRel.put (h : HRel mine W base ρ H) {id g : Nat} {b b' : Blk} {cur arr : Array Value} {t : TypeId} (hb : H.get id = some b) (hg : blkOf (ρ id) = some g) (hc : W.heap[g]? = some (.cells cur t (0, 0)))
    (hnew : (vw W base ρ H).Le (vw (W.setRow g arr) base ρ (H.set id (some b'))) → (W.setRow g arr).heap[g]? = some (.cells arr t (0, 0)) → BlkR (vw (W.setRow g arr) base ρ (H.set id (some b'))) mine (ρ id) b') :
    HRel mine (W.setRow g arr) base ρ (H.set id (some b')) ∧ (vw W base ρ H).Le (vw (W.setRow g arr) base ρ (H.set id (some b'))) := by
  have hlv : H.get id ≠ none := by rw [hb]; simp
  have hid := Hp.get_lt hlv
  have hlive : ∀ i, (Hp.get (H.set id (some b')) i) ≠ none ↔ H.get i ≠ none := by
    intro i
    rw [Hp.get_set]
    split
    · rename_i e; rw [e.1]; simp [hb]
    · rfl
  have hle : (vw W base ρ H).Le (vw (W.setRow g arr) base ρ (H.set id (some b'))) :=
    ⟨⟨by simp [vw], fun k hk _ => ⟨setRow_other W g k arr (fun e => hk.2 id hlv (e ▸ hg)), hk.1, fun i hi => hk.2 i ((hlive i).1 hi)⟩⟩, rfl, by simp [vw], fun i _ => rfl⟩
  refine ⟨⟨by simpa using h.bs, fun i b1 hb1 => ?_, fun i j hi hj => h.inj i j ((hlive i).1 hi) ((hlive j).1 hj), h.ok0, h.up⟩, hle⟩
  rw [Hp.get_set] at hb1
  by_cases e : i = id
  · rw [if_pos ⟨e, hid⟩] at hb1
    injection hb1 with hb1
    subst hb1
    rw [e]
    exact hnew hle (setRow_heap W g cur arr t (0, 0) hc)
  · rw [if_neg (fun x => e x.1)] at hb1
    have hB := h.blk i b1 hb1
    have hne : ∀ g', blkOf (ρ i) = some g' → g' ≠ g := fun g' hg' he => e (h.inj i id (by rw [hb1]; simp) hlv g (he ▸ hg') hg)
    cases b1 with
    | box t cells =>
      obtain ⟨g', cur', hx, hm, hc', hf⟩ := hB
      exact ⟨g', cur', hx, hm, (setRow_other W g g' arr (hne g' (by rw [hx]; rfl))).trans hc', hf.imp fun _ _ => V1.le hle⟩
    | arr e f c xs =>
      obtain ⟨inner, ho, ha⟩ := hB
      refine ⟨inner, ⟨ho.1, ?_⟩, fun j y hy => ?_⟩
      · rcases ho.2 with h2 | ⟨g', cap, cur', hv, hb', hh, r⟩
        · exact .inl h2
        · exact .inr ⟨g', cap, cur', hv, hb', (setRow_other W g g' arr (hne g' (by rw [hv]; rfl))).trans hh, r⟩
      · obtain ⟨cs, he, hcs⟩ := ha j y hy
        exact ⟨cs, he.tr (hle.okf f), hcs⟩
/-- A handle is gone. -/
theorem HRel.kill (h : HRel mine W base ρ H) (id : Nat) : HRel mine W base (ext ρ H.length []) (H.set id none) ∧ (vw W base ρ H).Le (vw W base (ext ρ H.length []) (H.set id none)) := by
  have := h.grow (H1 := H.set id none) (W' := W) (news := []) (vs := []) (by simp) (fun i b hb => by
    rw [Hp.get_set] at hb
    split at hb
    · cases hb
    · exact hb) (Nat.le_refl _) (fun k _ _ => rfl) rfl (fun j v g hv => by simp at hv) (fun i j u v g hu => by simp at hu) (fun _ j b v hb => by simp at hb)
  simpa using this
theorem arr_row {e : TypeId} {f : Bool} {c : CK} {xs : List c.T} {id : Nat} (h : HRel mine W base ρ H) (hb : H.get id = some (.arr e f c xs)) {ok' : Nat → Prop} (hok : ∀ k, okOf ρ H k → ok' k) (hown : ∀ g, blkOf (ρ id) = some g → ok' g) :
    SlR W (fun k => ok' k ∧ (f = true → base ≤ k)) c xs (ρ id) := by
  obtain ⟨inner, ho, ha⟩ := h.blk id _ hb
  rcases ho.2 with ⟨h0, hn⟩ | ⟨g, cap, cur, hv, hbg, hh, hle, hm, hsz, htk⟩
  · have : xs = [] := List.eq_nil_of_length_eq_zero hn
    subst this
    exact ⟨none, 0, h0, Nat.le_refl _, Nat.zero_le _, fun hx => absurd rfl hx⟩
  · refine ⟨_, cap, hv, hle, Nat.le_trans hle hm, fun _ => ⟨_, rfl, ⟨hown g (by rw [hv]; rfl), fun _ => hbg⟩, (Array.getElem?_eq_some_iff.1 hh).1, fun j x hj => ?_⟩⟩
    obtain ⟨cs, hel, hcs⟩ := ha j x hj
    refine ⟨cs, hel.tr ⟨Nat.le_refl _, fun k hk _ => ⟨rfl, hok k hk.1, hk.2⟩⟩, fun i u hu => ?_⟩
    refine cell_blk hh ?_
    have := hcs i u hu
    rw [← htk, List.getElem?_take] at this
    split at this
    · exact this
    · cases this
theorem frz_sound {p q : PV} {H' : Hp} {u : Value} (h : HRel mine W base ρ H) (hf : frz H p = (q, H')) (hv : V1 (vw W base ρ H) p u) :
    ∃ ρ', HRel mine W base ρ' H' ∧ (vw W base ρ H).Le (vw W base ρ' H') ∧ V1 (vw W base ρ' H') q u ∧ H'.length = H.length ∧ (∀ i b, H'.get i = some b → H.get i = some b) := by
  unfold frz at hf
  split at hf
  · rename_i id
    split at hf
    · rename_i e f c xs hb
      injection hf with h1 h2
      subst h1; subst h2
      obtain ⟨hH, hl⟩ := h.kill id
      refine ⟨_, hH, hl, ?_, by simp, fun i b hb' => by
        rw [Hp.get_set] at hb'
        split at hb'
        · cases hb'
        · exact hb'⟩
      simp only [V1] at hv ⊢
      obtain ⟨hid, rfl, _⟩ := hv
      refine arr_row h hb (ok' := okOf (ext ρ H.length []) (H.set id none)) (fun k hk => ?_) (fun g hg => ?_)
      · refine ⟨hk.1, fun i hi => ?_⟩
        rw [Hp.get_set] at hi
        split at hi
        · exact absurd rfl hi
        · rw [ext_old (Hp.get_lt hi)]; exact hk.2 i hi
      · refine ⟨h.ok0 g (by
          obtain ⟨inner, hown, _⟩ := h.blk id _ hb
          rw [own_blkOf hown] at hg
          exact (World.ownsRow.lt hown _ hg).1), fun i hi hbi => ?_⟩
        rw [Hp.get_set] at hi
        split at hi
        · exact absurd rfl hi
        · rename_i hne
          rw [ext_old (Hp.get_lt hi)] at hbi
          have := h.inj i id hi (by rw [hb]; simp) g hbi hg
          exact hne ⟨this, hid⟩
    · injection hf with h1 h2
      subst h1; subst h2
      exact ⟨ρ, h, Vw.Le.refl _, hv, rfl, fun _ _ h => h⟩
  · injection hf with h1 h2
    subst h1; subst h2
    exact ⟨ρ, h, Vw.Le.refl _, hv, rfl, fun _ _ h => h⟩
theorem frzs_sound {ps : List PV} : ∀ {ρ : Rh} {H H' : Hp} {qs : List PV} {us : List Value}, HRel mine W base ρ H → frzs H ps = (qs, H') → F2 (V1 (vw W base ρ H)) ps us →
    ∃ ρ', HRel mine W base ρ' H' ∧ (vw W base ρ H).Le (vw W base ρ' H') ∧ F2 (V1 (vw W base ρ' H')) qs us ∧ H'.length = H.length ∧ (∀ i b, H'.get i = some b → H.get i = some b) := by
  induction ps with
  | nil =>
    intro ρ H H' qs us h hf hv
    simp only [frzs] at hf
    injection hf with h1 h2
    subst h1; subst h2
    cases hv
    exact ⟨ρ, h, Vw.Le.refl _, .nil, rfl, fun _ _ h => h⟩
  | cons p ps ih =>
    intro ρ H H' qs us h hf hv
    simp only [frzs] at hf
    injection hf with h1 h2
    subst h1; subst h2
    cases hv with
    | cons hp hps =>
      obtain ⟨ρ1, a1, a2, a3, a4, a5⟩ := frz_sound h (q := (frz H p).1) (H' := (frz H p).2) rfl hp
      obtain ⟨ρ2, b1, b2, b3, b4, b5⟩ := ih a1 (qs := (frzs (frz H p).2 ps).1) (H' := (frzs (frz H p).2 ps).2) rfl (hps.imp fun _ _ => V1.le a2)
      exact ⟨ρ2, b1, a2.trans b2, .cons (a3.le b2) b3, b4.trans a4, fun i b hb => a5 i b (b5 i b hb)⟩
theorem frzR_sound {ps : List PV} : ∀ {rs : List RS} {ρ : Rh} {H H' : Hp} {qs : List PV} {us : List Value}, HRel mine W base ρ H → frzR H rs ps = (qs, H') → F2 (V1 (vw W base ρ H)) ps us →
    ∃ ρ', HRel mine W base ρ' H' ∧ (vw W base ρ H).Le (vw W base ρ' H') ∧ F2 (V1 (vw W base ρ' H')) qs us ∧ H'.length = H.length ∧ (∀ i b, H'.get i = some b → H.get i = some b) := by
  induction ps with
  | nil =>
    intro rs ρ H H' qs us h hf hv
    have hf' : (([] : List PV), H) = (qs, H') := by cases rs <;> exact hf
    injection hf' with h1 h2
    subst h1; subst h2
    cases hv
    exact ⟨ρ, h, Vw.Le.refl _, .nil, rfl, fun _ _ h => h⟩
  | cons p ps ih =>
    intro rs ρ H H' qs us h hf hv
    cases rs with
    | nil =>
      have hf' : (p :: ps, H) = (qs, H') := hf
      injection hf' with h1 h2
      subst h1; subst h2
      exact ⟨ρ, h, Vw.Le.refl _, hv, rfl, fun _ _ h => h⟩
    | cons r rs =>
      simp only [frzR] at hf
      cases hv with
      | @cons _ u0 _ us0 hp hps =>
        have hz : ∀ z : PV × Hp, z = (if fzB r = true then frz H p else (p, H)) → ∃ ρ1, HRel mine W base ρ1 z.2 ∧ (vw W base ρ H).Le (vw W base ρ1 z.2) ∧ V1 (vw W base ρ1 z.2) z.1 u0 ∧ z.2.length = H.length ∧ (∀ i b, z.2.get i = some b → H.get i = some b) := by
          rintro z rfl
          split
          · exact frz_sound h (q := (frz H p).1) (H' := (frz H p).2) rfl hp
          · exact ⟨ρ, h, Vw.Le.refl _, hp, rfl, fun _ _ h => h⟩
        generalize hzz : (if fzB r = true then frz H p else (p, H)) = z at hf
        obtain ⟨ρ1, a1, a2, a3, a4, a5⟩ := hz z hzz.symm
        injection hf with h1 h2
        subst h1; subst h2
        obtain ⟨ρ2, b1, b2, b3, b4, b5⟩ := ih (rs := rs) a1 (qs := (frzR z.2 rs ps).1) (H' := (frzR z.2 rs ps).2) rfl (hps.imp fun _ _ => V1.le a2)
        exact ⟨ρ2, b1, a2.trans b2, .cons (a3.le b2) b3, b4.trans a4, fun i b hb => a5 i b (b5 i b hb)⟩
end
section
variable {v : Vw}
theorem decI_sound {f : Bool} {p : PV} {x : List Int} {u : Value} (h : decI f p = some x) (hv : V1 v p u) : SlI v.W (v.okf f) x u := by
  unfold decI at h
  split at h
  · injection h with h
    subst h
    simp only [V1] at hv
    subst hv
    exact ⟨none, 0, rfl, Nat.le_refl _, Nat.zero_le _, fun hx => absurd rfl hx⟩
  · rename_i f' c xs
    split at h
    · cases h
    · rename_i hff
      unfold castRow at h
      split at h
      · rename_i hc
        subst hc
        injection h with h
        subst h
        refine slI_iff.1 (SlR.tr ⟨Nat.le_refl _, fun k hk _ => ⟨rfl, hk.1, fun hf => hk.2 ?_⟩⟩ (show SlR v.W (v.okf f') .i64 _ u from hv))
        cases f' <;> simp_all
      · cases h
  · cases h
theorem decE_sound {f : Bool} {c : CK} {ps : List PV} {x : c.T} {cs : List Value} (h : decE f c ps = some x) (hv : F2 (V1 v) ps cs) : ElR v.W (v.okf f) c x cs := by
  unfold decE at h
  split at h
  · injection h with h; subst h; cases hv with | cons h1 h2 => cases h2; simp only [V1] at h1; subst h1; rfl
  · injection h with h; subst h; cases hv with | cons h1 h2 => cases h2; simp only [V1] at h1; subst h1; rfl
  · injection h with h; subst h; cases hv with | cons h1 h2 => cases h2; simp only [V1] at h1; subst h1; rfl
  · cases hv with | cons h1 h2 => cases h2; exact ⟨_, rfl, decI_sound h h1⟩
  · rename_i a k b
    obtain ⟨y, hy, h⟩ := Option.bind_eq_some_iff.1 h
    obtain ⟨z, hz, h⟩ := Option.bind_eq_some_iff.1 h
    injection h with h
    subst h
    cases hv with
    | cons h1 h2 => cases h2 with
      | cons h3 h4 => cases h4 with
        | cons h5 h6 =>
          cases h6
          simp only [V1] at h3
          subst h3
          exact ⟨_, _, rfl, decI_sound hy h1, decI_sound hz h5⟩
  · injection h with h
    subst h
    cases hv with
    | cons h1 h2 => cases h2 with
      | cons h3 h4 => cases h4 with
        | cons h5 h6 => cases h6; simp only [V1] at h1 h3 h5; subst h1; subst h3; subst h5; rfl
  · injection h with h; subst h; cases hv with | cons h1 h2 => cases h2; simp only [V1] at h1; subst h1; rfl
  · injection h with h
    subst h
    cases hv with
    | cons h1 h2 => cases h2 with
      | cons h3 h4 => cases h4; simp only [V1] at h1 h3; subst h1; subst h3; rfl
  · cases h
theorem one_V1 {q : PV} {z : Value} (hq : oneP q = true) (hz : V1 v q z) : z.oneCell' = true := by
  unfold V1 at hz
  split at hz
  case h_5 => obtain ⟨A, cp, rfl, _⟩ := hz; rfl
  case h_6 => obtain ⟨ad, rfl, _⟩ := hz; rfl
  case h_7 => exact hz.2.2
  case h_8 => obtain ⟨_, g, n, cp, _, rfl, _⟩ := hz; rfl
  case h_9 => obtain ⟨_, g, _, rfl⟩ := hz; rfl
  case h_11 => simp [oneP] at hq
  case h_12 => obtain ⟨A, rfl⟩ := hz; rfl
  case h_13 => exact hz.elim
  all_goals (subst hz; rfl)
theorem V_of_V1 {p : PV} {u : Value} (h : V1 v p u) : V v p u := by
  unfold V
  split
  · simp [V1] at h
  · unfold V2
    split
    · simp [V1] at h
    · rename_i f caps _
      cases caps with
      | nil => simp only [V1] at h; subst h; exact ⟨#[], rfl, by simpa using F2.nil⟩
      | cons => simp [V1] at h
    · exact h
theorem V1_of_V {p : PV} {u : Value} (h : V v p u) (ho : oneP p = true) : V1 v p u := by
  unfold V at h
  split at h
  · simp [oneP] at ho
  · unfold V2 at h
    split at h
    · simp [oneP] at ho
    · rename_i f caps _
      cases caps with
      | nil =>
        obtain ⟨vs, rfl, hf⟩ := h
        have : vs = #[] := by
          have := hf.len
          simp at this
          exact Array.eq_empty_of_size_eq_zero this.symm
        subst this
        rfl
      | cons => simp [oneP] at ho
    · exact h
theorem cells_one {u : Value} (h : u.oneCell' = true) : u.cells = #[u] := by cases u <;> first | rfl | simp [Value.oneCell'] at h
theorem F2.one_ {ps : List PV} {us : List Value} (h : F2 (V1 v) ps us) (ho : ps.all oneP = true) : ∀ z ∈ us, z.oneCell' = true := by
  induction h with
  | nil => intro z hz; cases hz
  | cons h _ ih =>
    simp only [List.all_cons, Bool.and_eq_true] at ho
    intro z hz
    rcases List.mem_cons.1 hz with rfl | hz
    · exact one_V1 ho.1 h
    · exact ih ho.2 z hz
theorem cells_V1 {p : PV} {u : Value} (h : V v p u) (ho : (cellsOf p).all oneP = true) : F2 (V1 v) (cellsOf p) u.cells.toList ∧ ∀ z ∈ u.cells.toList, z.oneCell' = true := by
  have key : F2 (V1 v) (cellsOf p) u.cells.toList := by
    cases p with
    | agg ps =>
      simp only [V, V2] at h
      obtain ⟨vs, rfl, hf⟩ := h
      exact hf
    | _ =>
      simp only [cellsOf, List.all_cons, List.all_nil, Bool.and_true] at ho ⊢
      have h1 := V1_of_V h ho
      rw [cells_one (one_V1 ho h1)]
      exact .cons h1 .nil
  exact ⟨key, F2.one_ key ho⟩
end
section
variable {P : Program} {w : World} {base : Nat} {ρ : Rh} {h : Hp} {pin : Pn} {R : Type} {K : Hp → Option R} {r : R}
theorem run_storeAt {t : TypeId} {g o : Nat} {z : Value} {cur : Array Value} {bt : TypeId} {i : TypeInfo} (hi : P.info? t = some i) (hc : w.heap[g]? = some (.cells cur bt (0, 0))) (hs : z.cells.size = szOf P t) (hl : o + z.cells.size ≤ cur.size) (h1 : ∀ x ∈ z.cells.toList, x.oneCell' = true) :
    (Instr.storeAt t (.pointer (some ⟨g, o, none⟩)) z).run P w = .ok () (w.setRow g (cur.toList.take o ++ z.cells.toList ++ cur.toList.drop (o + z.cells.size)).toArray) := by
  have hz : szOf P t = i.size := by simp [szOf, hi]
  have := run_storeCells_at (P := P) g o bt z.cells.toList 0 cur w hc (by simpa using hl) h1
  simp only [Instr.storeAt, Instr.sureAddr, storeVar, Sem.run_bind, Sem.run_pure, Result.andThen_ok, run_sz hi]
  rw [if_neg (by omega)]
  simpa using this
theorem storeK_sound {t : TypeId} {p v : PV} {u z : Value} (hH : HRel (mine pin base) w base ρ h) (hk : storeK P t p v h K = some r) (hp : V (vw w base ρ h) p u) (hv : V (vw w base ρ h) v z) :
    ∃ h', K h' = some r ∧ (∀ {R' : Type} (K' : Hp → Option R'), storeK P t p v h K' = K' h') ∧ ∃ w' ρ', (Instr.storeAt t u z).run P w = .ok () w' ∧ HRel (mine pin base) w' base ρ' h' ∧ (vw w base ρ h).Le (vw w' base ρ' h') ∧ Kp pin base w w' := by
  unfold storeK at hk
  split at hk
  · rename_i id off
    simp only [V, V2, V1] at hp
    obtain ⟨_, g, hg, rfl⟩ := hp
    replace hg : ρ id = _ := hg
    split at hk
    · rename_i bt cells hb
      split at hk
      · rename_i hcond
        obtain ⟨e1, e2, e3, e4⟩ := hcond
        obtain ⟨i, hi⟩ := Option.isSome_iff_exists.1 e4
        obtain ⟨hF, hone⟩ := cells_V1 hv e3
        obtain ⟨g', cur, he, hm, hc, hf⟩ := hH.blk id _ hb
        rw [hg] at he
        obtain rfl : g = g' := by injection he with he; injection he with he; injection he
        have hsz : z.cells.size = szOf P t := by rw [← e1, hF.len]; simp
        have hcl : cells.length = cur.size := by rw [hf.len]; simp
        have hrun := run_storeAt hi hc hsz (o := off) (by omega) hone
        obtain ⟨hH', hle⟩ := hH.put (b' := .box bt (cells.take off ++ cellsOf v ++ cells.drop (off + szOf P t))) (arr := (cur.toList.take off ++ z.cells.toList ++ cur.toList.drop (off + z.cells.size)).toArray) hb (by rw [hg]; rfl) hc (fun hle hh => by
          refine ⟨g, _, hg, hm, hh, ?_⟩
          have hd : F2 (V1 (vw w base ρ h)) (cells.drop (off + szOf P t)) (cur.toList.drop (off + z.cells.size)) := by rw [hsz]; exact hf.drop _
          exact (((hf.take off).app hF).app hd).imp fun _ _ => V1.le hle)
        refine ⟨_, hk, fun K' => by simp only [storeK, hb]; rw [if_pos ⟨e1, e2, e3, e4⟩], _, _, hrun, hH', hle, ⟨rfl, rfl, rfl, by simp [vw], fun k hk hpk => setRow_other _ _ _ _ (fun e => ?_)⟩⟩
        rcases hm with hm | hm
        · omega
        · exact hpk (e ▸ hm)
      · cases hk
    · cases hk
  · rename_i id c' i off
    simp only [V, V2, V1] at hp
    obtain ⟨hid, g, n, cp, hg, rfl, hin⟩ := hp
    replace hg : ρ id = _ := hg
    dsimp only at hk
    split at hk
    · rename_i e f c xs hb
      split at hk
      · rename_i hcc
        split at hk
        · rename_i hcond
          obtain ⟨e1, e2, e3, e4⟩ := hcond
          split at hk
          · rename_i x hx
            obtain ⟨ti, hi⟩ := Option.isSome_iff_exists.1 e4
            obtain ⟨hF, hone⟩ := cells_V1 hv e3
            obtain ⟨ρ1, H1, L1, F1, N1, S1⟩ := frzs_sound (us := z.cells.toList) hH (qs := (frzs h (cellsOf v)).1) (H' := (frzs h (cellsOf v)).2) rfl hF
            have hg1 : ρ1 id = .slice (some ⟨g, 0, none⟩) n cp := (L1.ρ id hid).trans hg
            obtain ⟨inner, ho, ha⟩ := H1.blk id _ hb
            rw [hg1] at ho
            rcases ho.2 with ⟨h0, _⟩ | ⟨g', cap, cur, hvv, hbg, hh, hle, hm, hsz, htk⟩
            · cases h0
            · obtain ⟨rfl, rfl, rfl⟩ : g = g' ∧ n = xs.length ∧ cp = cap := by
                injection hvv with a1 a2 a3
                injection a1 with a1
                injection a1 with a1
                exact ⟨a1, a2, a3⟩
              subst hcc
              obtain ⟨y, hy⟩ : ∃ y, xs[i]? = some y := ⟨_, List.getElem?_eq_getElem hin⟩
              obtain ⟨cs, hel, hcs⟩ := ha i y hy
              rw [getD_of hy] at hx
              have hsize : z.cells.size = szOf P t := by rw [← e1, F1.len]; simp
              have hcl := hel.len
              have hmul : (i + 1) * c.sz ≤ xs.length * c.sz := Nat.mul_le_mul_right _ hin
              have hmul2 : xs.length * c.sz ≤ cp * c.sz := Nat.mul_le_mul_right _ hle
              rw [Nat.add_mul] at hmul
              have hrun := run_storeAt hi hh hsize (o := i * c.sz + off) (by omega) hone
              have hnewel : ElR w ((vw w base ρ1 (frzs h (cellsOf v)).2).okf f) c x (cs.take off ++ z.cells.toList ++ cs.drop (off + szOf P t)) :=
                decE_sound hx ((((flds_V1 (v := vw w base ρ1 (frzs h (cellsOf v)).2) hel).take off).app F1).app ((flds_V1 (v := vw w base ρ1 (frzs h (cellsOf v)).2) hel).drop (off + szOf P t)))
              obtain ⟨hH', hle'⟩ := H1.put (b' := .arr e f c (xs.set i x)) (arr := (cur.toList.take (i * c.sz + off) ++ z.cells.toList ++ cur.toList.drop (i * c.sz + off + z.cells.size)).toArray) hb (by rw [hg1]; rfl) hh (fun hle'' hh' => by
                have hil : inner.length = xs.length * c.sz := ho.1
                refine ⟨inner.take (i * c.sz + off) ++ z.cells.toList ++ inner.drop (i * c.sz + off + z.cells.toList.length), ⟨?_, .inr ⟨g, cp, _, ?_, hbg, hh', ?_, hm, ?_, ?_⟩⟩, fun j y' hj => ?_⟩
                · simp; omega
                · rw [hg1]; simp
                · simpa using hle
                · simp; omega
                · rw [← htk]
                  apply List.ext_getElem?
                  intro k
                  rw [seg_get _ _ _ _ (by simp; omega), List.getElem?_take]
                  have : (cur.toList.take (i * c.sz + off) ++ z.cells.toList ++ cur.toList.drop (i * c.sz + off + z.cells.size)).toArray.toList = cur.toList.take (i * c.sz + off) ++ z.cells.toList ++ cur.toList.drop (i * c.sz + off + z.cells.toList.length) := by simp
                  rw [this, seg_get _ _ _ _ (by simp; omega)]
                  simp only [List.length_set, List.getElem?_take]
                  by_cases b1 : k < xs.length * c.sz
                  · simp only [b1, if_true]
                  · rw [if_neg b1, if_neg (by omega), if_neg (by simp; omega)]
                    rw [if_neg b1]
                · by_cases eji : j = i
                  · subst eji
                    rw [List.getElem?_set_self hin] at hj
                    injection hj with hj
                    subst hj
                    refine ⟨_, hnewel.tr (hle''.okf f), fun k u hk' => ?_⟩
                    rw [← hsize] at hk'
                    have hk2 := hk'
                    rw [show z.cells.size = z.cells.toList.length by simp, seg_get _ _ _ _ (by simp; omega)] at hk2
                    rw [seg_get _ _ _ _ (by simp; omega)]
                    have hkl : k < c.sz := by
                      have := (List.getElem?_eq_some_iff.1 hk').1
                      simp at this; omega
                    by_cases c1 : k < off
                    · rw [if_pos c1] at hk2
                      rw [if_pos (by omega)]
                      exact hcs k u hk2
                    · rw [if_neg c1] at hk2
                      rw [if_neg (by omega)]
                      by_cases c2 : k < off + z.cells.toList.length
                      · rw [if_pos c2] at hk2
                        rw [if_pos (by omega), show j * c.sz + k - (j * c.sz + off) = k - off by omega]
                        exact hk2
                      · rw [if_neg c2] at hk2
                        rw [if_neg (by omega)]
                        exact hcs k u hk2
                  · rw [List.getElem?_set_ne (Ne.symm eji)] at hj
                    obtain ⟨cs', hel', hcs'⟩ := ha j y' hj
                    refine ⟨cs', hel'.tr (hle''.okf f), fun k u hk' => ?_⟩
                    have hkl : k < c.sz := by
                      have := (List.getElem?_eq_some_iff.1 hk').1
                      have := hel'.len
                      omega
                    rw [seg_get _ _ _ _ (by simp; omega)]
                    have hne : j * c.sz + k < i * c.sz ∨ (i + 1) * c.sz ≤ j * c.sz + k := by
                      rcases Nat.lt_or_gt_of_ne eji with hlt | hgt
                      · have := Nat.mul_le_mul_right c.sz (show j + 1 ≤ i from hlt)
                        rw [Nat.add_mul] at this
                        omega
                      · have := Nat.mul_le_mul_right c.sz (show i + 1 ≤ j from hgt)
                        omega
                    rw [Nat.add_mul] at hne
                    rcases hne with hne | hne
                    · rw [if_pos (by omega)]; exact hcs' k u hk'
                    · rw [if_neg (by omega), if_neg (by simp; omega)]; exact hcs' k u hk')
              refine ⟨_, hk, fun K' => by simp only [storeK, hb, if_true]; rw [if_pos ⟨e1, e2, e3, e4⟩, getD_of hy, hx], _, _, hrun, hH', L1.trans hle', ⟨rfl, rfl, rfl, by simp [vw], fun k hk hpk => setRow_other _ _ _ _ (fun e => ?_)⟩⟩
              have : base ≤ g := hbg
              omega
          · cases hk
        · cases hk
      · cases hk
    · cases hk
  · cases hk
end
end FN

namespace FN
open Go Go.RowKit
theorem foldl_set (off : Nat) : ∀ (l : List Value) (k : Nat) (cs : Array Value), off + k + l.length ≤ cs.size →
    ((l.zipIdx k).foldl (fun cs (x : Value × Nat) => cs.setIfInBounds (off + x.2) x.1) cs).toList = cs.toList.take (off + k) ++ l ++ cs.toList.drop (off + k + l.length)
  | [], k, cs, _ => by simp
  | v :: l, k, cs, h => by
    simp only [List.length_cons] at h
    have ih := foldl_set off l (k + 1) (cs.setIfInBounds (off + k) v) (by simp; omega)
    simp only [List.zipIdx_cons, List.foldl_cons]
    rw [ih]
    apply List.ext_getElem?
    intro j
    have e1 : off + (k + 1) + l.length = off + k + (v :: l).length := by simp; omega
    rw [seg_get _ _ _ _ (by simp; omega), seg_get _ _ _ _ (by simp; omega)]
    simp only [Array.toList_setIfInBounds, List.length_cons]
    by_cases h1 : j < off + k
    · rw [if_pos (by omega), if_pos h1, List.getElem?_set_ne (by omega)]
    · rw [if_neg h1]
      by_cases h2 : j = off + k
      · subst h2
        rw [if_pos (by omega), if_pos (by omega), List.getElem?_set_self (by simp; omega)]
        simp
      · rw [if_neg (by omega)]
        by_cases h3 : j < off + k + (l.length + 1)
        · rw [if_pos (by omega), if_pos (by omega), show j - (off + k) = (j - (off + (k + 1))) + 1 by omega]
          simp
        · rw [if_neg (by omega), if_neg (by omega), List.getElem?_set_ne (by omega)]
theorem fill_cons {place : Nat → Option (Nat × Nat)} {cells : Array Value} {i off size : Nat} {v : Value} {rest : List (Nat × Value)} (hp : place i = some (off, size)) (hs : v.cells.size = size) (hl : off + size ≤ cells.size) :
    ∃ cells', Instr.fill place cells ((i, v) :: rest) = Instr.fill place cells' rest ∧ cells'.toList = cells.toList.take off ++ v.cells.toList ++ cells.toList.drop (off + v.cells.toList.length) := by
  refine ⟨v.cells.zipIdx.foldl (fun cs (x : Value × Nat) => cs.setIfInBounds (off + x.2) x.1) cells, ?_, ?_⟩
  · simp only [Instr.fill, hp]
    rw [if_neg (by simp; omega)]
  · have := foldl_set off v.cells.toList 0 cells (by simp; omega)
    rw [← Array.foldl_toList]
    simpa using this
section
variable {P : Program} {w : World} {base : Nat} {ρ : Rh} {h : Hp} {pin : Pn}
theorem fillK_sound {ty : TypeId} {v : Vw} {t : List PV} {a : Act} (hop : ∀ x, V v (ev t x) (a.eval x)) {fs : Array Field} (hu : P.underlying ty = some (.struct fs)) {places : List (Nat × Nat)} (hpl : fs.toList.mapM (fun f => (P.info? f.type).map fun i => (f.offset, i.size)) = some places) :
    ∀ (parts : List (Nat × Operand)) (cs ps : List PV) (cells : Array Value), fillK P ty t parts cs = some ps → F2 (V1 v) cs cells.toList →
      ∃ cells', Instr.fill (places.toArray[·]?) cells (parts.map fun x => (x.1, a.eval x.2)) = some cells' ∧ F2 (V1 v) ps cells'.toList
  | [], cs, ps, cells, h, hf => by
    simp only [fillK] at h
    injection h with h
    subst h
    exact ⟨cells, rfl, hf⟩
  | x :: rest, cs, ps, cells, h, hf => by
    unfold fillK at h
    split at h
    · rename_i o ft ho
      split at h
      · rename_i hc
        obtain ⟨c1, c2, c3⟩ := hc
        obtain ⟨hF, _⟩ := cells_V1 (hop x.2) c3
        have hlen := hF.len
        have hcl := hf.len
        simp only [Array.length_toList] at hlen hcl
        have hplace : places.toArray[x.1]? = some (o, szOf P ft) := by
          unfold offOf at ho
          rw [hu] at ho
          simp only [Option.map_eq_some_iff] at ho
          obtain ⟨f, hf1, hf2⟩ := ho
          injection hf2 with e1 e2
          subst e1; subst e2
          have : ∀ (l : List Field) (ps : List (Nat × Nat)), l.mapM (fun f => (P.info? f.type).map fun i => (f.offset, i.size)) = some ps → ∀ (k : Nat) f, l[k]? = some f → ps[k]? = some (f.offset, szOf P f.type) := by
            intro l
            induction l with
            | nil => intro ps _ k f hk; simp at hk
            | cons f0 l ih =>
              intro ps hps k f hk
              simp only [List.mapM_cons, Option.bind_eq_bind, Option.bind_eq_some_iff, Option.map_eq_some_iff] at hps
              obtain ⟨q, ⟨i, hi, rfl⟩, qs, hqs, hq⟩ := hps
              injection hq with hq
              subst hq
              cases k with
              | zero => simp at hk; subst hk; simp [szOf, hi]
              | succ k => simp at hk; simpa using ih qs hqs k f hk
          have := this fs.toList places hpl x.1 f (by simpa using hf1)
          simpa using this
        obtain ⟨cells', e1, e2⟩ := fill_cons (rest := rest.map fun x => (x.1, a.eval x.2)) (place := (places.toArray[·]?)) (v := a.eval x.2) (cells := cells) hplace (by omega) (by omega)
        obtain ⟨cells'', e3, e4⟩ := fillK_sound hop hu hpl rest _ _ cells' h (by
          rw [e2]
          have hl2 : (a.eval x.2).cells.toList.length = (cellsOf (ev t x.2)).length := by simp; omega
          rw [hl2]
          exact ((hf.take o).app hF).app (hf.drop _))
        exact ⟨cells'', by simpa only [List.map_cons] using e1.trans e3, e4⟩
      · cases h
    · cases h
theorem ofVal_V1 (v : Vw) (u : Value) : V1 v (ofVal u) u := by
  unfold ofVal
  split <;> simp [V1]
theorem zeroPs_some {ty : TypeId} {cs : List PV} (h : zeroPs P ty = some cs) : ∃ i z, P.info? ty = some i ∧ i.zero = some z ∧ ∀ v, F2 (V1 v) cs z.cells.toList := by
  unfold zeroPs at h
  cases hi : P.info? ty with
  | none => simp [hi] at h
  | some i =>
    simp only [hi, Option.bind_some, Option.map_eq_some_iff] at h
    obtain ⟨z, hz, rfl⟩ := h
    refine ⟨i, z, rfl, hz, fun v => ?_⟩
    induction z.cells.toList with
    | nil => exact .nil
    | cons a l ih => exact .cons (ofVal_V1 v a) ih
theorem places_some {ty : TypeId} (h : placesOk P ty = true) : ∃ fs places, P.underlying ty = some (.struct fs) ∧ fs.toList.mapM (fun f => (P.info? f.type).map fun i => (f.offset, i.size)) = some places := by
  unfold placesOk at h
  split at h
  · rename_i fs hu
    refine ⟨fs, ?_⟩
    have : ∀ l : List Field, (l.all fun f => (P.info? f.type).isSome) = true → ∃ places, l.mapM (fun f => (P.info? f.type).map fun i => (f.offset, i.size)) = some places := by
      intro l
      induction l with
      | nil => intro _; exact ⟨[], rfl⟩
      | cons f l ih =>
        intro h
        simp only [List.all_cons, Bool.and_eq_true] at h
        obtain ⟨i, hi⟩ := Option.isSome_iff_exists.1 h.1
        obtain ⟨ps, hps⟩ := ih h.2
        exact ⟨(f.offset, i.size) :: ps, by simp [List.mapM_cons, hi, hps]⟩
    obtain ⟨ps, hps⟩ := this fs.toList h
    exact ⟨ps, hu, hps⟩
  · cases h
/-- One new box. -/
theorem HRel.box (hH : HRel (mine pin base) w base ρ h) {t : TypeId} {cells : List PV} {cur : Array Value} (hf : F2 (V1 (vw w base ρ h)) cells cur.toList) :
    HRel (mine pin base) (w.alloc (.cells cur t)) base (ext ρ h.length [.pointer (some ⟨w.heap.size, 0, none⟩)]) (h ++ [some (.box t cells)]) ∧ (vw w base ρ h).Le (vw (w.alloc (.cells cur t)) base (ext ρ h.length [.pointer (some ⟨w.heap.size, 0, none⟩)]) (h ++ [some (.box t cells)])) := by
  refine hH.grow (H1 := h) (news := [.box t cells]) rfl (fun _ _ h => h) (by simp) (fun k hk _ => heap_alloc_old w _ hk) rfl (fun j v g hj hg => ?_) (fun i j u v g hi hj _ _ => ?_) (fun hle j b v hb hv => ?_)
  · cases j with
    | zero => simp at hj; subst hj; simp [blkOf] at hg; exact .inl (by omega)
    | succ j => simp at hj
  · have h1 := (List.getElem?_eq_some_iff.1 hi).1
    have h2 := (List.getElem?_eq_some_iff.1 hj).1
    simp at h1 h2; omega
  · cases j with
    | succ j => simp at hb
    | zero =>
      simp at hb hv
      subst hb; subst hv
      exact ⟨_, cur, rfl, .inl hH.bs, heap_alloc_new w _, hf.imp fun _ _ => V1.le hle⟩
theorem box_V {t : TypeId} {cells : List PV} {cur : Array Value} : V (vw (w.alloc (.cells cur t)) base (ext ρ h.length [.pointer (some ⟨w.heap.size, 0, none⟩)]) (h ++ [some (.box t cells)])) (.ptr h.length 0) (.pointer (some ⟨w.heap.size, 0, none⟩)) := by
  refine ⟨by simp [vw], w.heap.size, ?_, rfl⟩
  have := ext_new (ρ := ρ) (N := h.length) (vs := [.pointer (some ⟨w.heap.size, 0, none⟩)]) (j := 0) rfl
  simpa [vw] using this
/-- One new array, whose cells are told. -/
theorem HRel.arr (hH : HRel (mine pin base) w base ρ h) {H1 : Hp} (hl : H1.length = h.length) (hsub : ∀ i b, H1.get i = some b → h.get i = some b) {w' : World} {v : Value} {e : TypeId} {f : Bool} {c : CK} {xs : List c.T} {inner : List Value}
    (hs : w.heap.size ≤ w'.heap.size) (hag : ∀ k, k < w.heap.size → (okOf ρ h k ∨ ∃ i, H1.get i ≠ none ∧ blkOf (ρ i) = some k) → w'.heap[k]? = w.heap[k]?)
    (hfar : ∀ g, blkOf v = some g → w.heap.size ≤ g ∨ ∃ i, h.get i ≠ none ∧ H1.get i = none ∧ blkOf (ρ i) = some g)
    (ho : w'.ownsRow base e c.sz v xs.length inner)
    (ha : ∀ v', (vw w base ρ h).Le v' → ArrR v' f c xs inner) :
    HRel (mine pin base) w' base (ext ρ h.length [v]) (H1 ++ [some (.arr e f c xs)]) ∧ (vw w base ρ h).Le (vw w' base (ext ρ h.length [v]) (H1 ++ [some (.arr e f c xs)])) := by
  refine hH.grow (H1 := H1) (news := [.arr e f c xs]) hl hsub hs hag rfl (fun j u g hj hg => ?_) (fun i j u u' g hi hj _ _ => ?_) (fun hle j b u hb hu => ?_)
  · cases j with
    | zero => simp at hj; subst hj; exact hfar g hg
    | succ j => simp at hj
  · have h1 := (List.getElem?_eq_some_iff.1 hi).1
    have h2 := (List.getElem?_eq_some_iff.1 hj).1
    simp at h1 h2; omega
  · cases j with
    | succ j => simp at hb
    | zero =>
      simp at hb hu
      subst hb; subst hu
      exact ⟨inner, ho, ha _ hle⟩
theorem own_one {W : World} {e : TypeId} {sz n : Nat} {v : Value} {xs : List Value} (h : W.ownsRow base e sz v n xs) : v.oneCell' = true := by
  rcases h.2 with ⟨rfl, _⟩ | ⟨g, cap, cur, rfl, _⟩ <;> rfl
theorem arr_V {W : World} {H' : Hp} {v : Value} (hl : h.length < H'.length) (h1 : v.oneCell' = true) : V (vw W base (ext ρ h.length [v]) H') (.own h.length) v := by
  refine ⟨by simpa [vw] using hl, ?_, h1⟩
  have := ext_new (ρ := ρ) (N := h.length) (vs := [v]) (j := 0) rfl
  simpa [vw] using this.symm
end
end FN

namespace FN
open Go Go.RowKit
section
variable {P : Program} {E : Env'} {w : World} {base : Nat} {ρ : Rh} {h : Hp} {pin : Pn} {R : Type} {r : R} {o : Oper} {a : Act} {t : List PV}
theorem exec_v {s : Sem Value} {u : Value} {w' : World} (he : execOp a.eval o = (do pure (.value (← s)))) (hr : s.run P w = .ok u w') : (execOp a.eval o).run P w = .ok (.value u) w' := by
  rw [he, Sem.run_bind, hr]; rfl
theorem V_of_V2 {v : Vw} {p : PV} {u : Value} (h : V2 v p u) : V v p u := by
  unfold V
  split
  · simp [V2, V1] at h
  · exact h
theorem elemT_under {t el : TypeId} (h : elemT P t = some el) : P.underlying t = some (.slice el) := by
  unfold elemT at h
  split at h
  · rename_i e hu; injection h with h; subst h; exact hu
  · cases h
theorem szOf_pos {t : TypeId} (h : szOf P t ≠ 0) : ∃ i, P.info? t = some i ∧ i.size = szOf P t := by
  unfold szOf at *
  cases hi : P.info? t with
  | none => simp [hi] at h
  | some i => exact ⟨i, rfl, by simp⟩
theorem add_off (g a b : Nat) : ((⟨g, a, none⟩ : Addr).add b) = ⟨g, a + b, none⟩ := by
  unfold Addr.add
  split
  · rename_i e; rw [e]; rfl
  · rfl
/-- A field's place. -/
theorem run_fieldAt {ty : TypeId} {f oo : Nat} {ft : TypeId} (ho : offOf P ty f = some (oo, ft)) (hz : szOf P ft ≠ 0) (ad : Addr) : (Instr.fieldAt ty (.pointer (some ad)) f).run P w = .ok (.pointer (some (ad.add oo))) w := by
  unfold offOf at ho
  split at ho
  · rename_i fs hu
    simp only [Option.map_eq_some_iff] at ho
    obtain ⟨x, hx, he⟩ := ho
    injection he with e1 e2
    subst e1; subst e2
    obtain ⟨i, hi, his⟩ := szOf_pos hz
    simp only [Instr.fieldAt, Sem.run_bind, run_underlying hu, Result.andThen_ok, hx, Instr.sureAddr, Sem.run_pure, fieldPlace, run_sz hi]
    rw [if_neg (by omega)]
    rfl
  · cases ho
theorem run_indexAt {ty el : TypeId} (hu : elemT P ty = some el) {k : IntKind} {n : Int} {len cp : Nat} {ad : Addr} (h0 : 0 ≤ n) (h1 : n < (len : Int)) (hz : szOf P el ≠ 0) :
    (Instr.indexAt ty (.slice (some ad) len cp) (.int k n)).run P w = .ok (.pointer (some (ad.add (n.toNat * szOf P el)))) w := by
  obtain ⟨i, hi, his⟩ := szOf_pos hz
  have hu' := elemT_under hu
  simp only [Instr.indexAt, asIntOf, Sem.run_bind, Sem.run_pure, run_underlying hu', Result.andThen_ok]
  rw [if_pos ⟨h0, h1⟩]
  simp [run_sz hi, his]
theorem run_alloc_ {ty : TypeId} {i : TypeInfo} {z : Value} (hi : P.info? ty = some i) (hz : i.zero = some z) : (Instr.alloc ty true (.tuple #[])).run P w = .ok (.pointer (some ⟨w.heap.size, 0, none⟩)) (w.alloc (.cells z.cells ty)) := by
  simp [Instr.alloc, zeroValue, typeInfo, hi, hz, newVar, newRow, Sem.run_bind]
theorem run_box_ {ty : TypeId} {v : Value} : (Instr.box ty v).run P w = .ok (.pointer (some ⟨w.heap.size, 0, none⟩)) (w.alloc (.cells v.cells ty)) := by
  simp [Instr.box, newVar, newRow]
theorem isZ_sound {c : CK} {z : List Value} (h : isZ c z = true) (W : World) (ok : Nat → Prop) : ElR W ok c c.dflt z := by
  have h0 : SlI W ok [] (.slice none 0 0) := ⟨none, 0, rfl, Nat.le_refl _, Nat.zero_le _, fun h => absurd rfl h⟩
  unfold isZ at h
  split at h
  · have := eq_of_beq h; subst this; rfl
  · have := eq_of_beq h; subst this; rfl
  · rename_i s
    have : s = ByteArray.empty := by
      have h2 : s.size = 0 := by simpa using h
      apply ByteArray.ext
      apply Array.eq_empty_of_size_eq_zero
      exact h2
    subst this; rfl
  · exact ⟨_, rfl, h0⟩
  · have := eq_of_beq h; subst this; exact ⟨_, _, rfl, h0, h0⟩
  · simp only [Bool.and_eq_true, beq_iff_eq] at h
    obtain ⟨⟨rfl, rfl⟩, rfl⟩ := h
    rfl
  · rename_i x; cases x <;> first | rfl | cases h
  · simp only [Bool.and_eq_true, beq_iff_eq] at h
    obtain ⟨rfl, rfl⟩ := h
    rfl
  · cases h
theorem zOk_some {el : TypeId} {c : CK} (h : zOk P el c = true) : ∃ i z, P.info? el = some i ∧ i.zero = some z ∧ i.size = c.sz ∧ z.cells.size = c.sz ∧ isZ c z.cells.toList = true := by
  unfold zOk at h
  simp only [Bool.and_eq_true, beq_iff_eq] at h
  obtain ⟨h1, h2⟩ := h
  cases hi : P.info? el with
  | none => simp [hi] at h2
  | some i =>
    cases hz : i.zero with
    | none => simp [hi, hz] at h2
    | some z =>
      simp [hi, hz] at h2
      refine ⟨i, z, rfl, hz, by simpa [szOf, hi] using h1, ?_, h2⟩
      have := (isZ_sound h2 default (fun _ => True)).len
      simpa using this
end
section
variable {P : Program} {w : World} {v : Vw}
theorem seen1_V {mine : Mn} {base : Nat} {ρ : Rh} {h : Hp} (hH : HRel mine w base ρ h) {p : PV} {u : Value} (hv : V1 (vw w base ρ h) p u) {ok' : Nat → Prop} (hok : ∀ k, ok' k) : V1 ⟨w, ok', 0, 0, fun _ => undef⟩ (seen1 h p) u := by
  cases p with
  | own id =>
    simp only [seen1]
    cases hb : h.get id with
    | none => simp [V1]
    | some b =>
      cases b with
      | box => simp [V1]
      | arr e f c xs =>
        simp only [V1] at hv
        obtain ⟨_, rfl, _⟩ := hv
        exact (arr_row hH hb (ok' := ok') (fun k _ => hok k) (fun g _ => hok g)).tr ⟨Nat.le_refl _, fun k _ _ => ⟨rfl, hok k, fun _ => Nat.zero_le _⟩⟩
  | row f c xs => exact SlR.tr ⟨Nat.le_refl _, fun k _ _ => ⟨rfl, hok k, fun _ => Nat.zero_le _⟩⟩ (show SlR _ _ c xs u from hv)
  | _ => first | exact hv | trivial
end
section
variable {P : Program} {E : Env'} {w : World} {base : Nat} {ρ : Rh} {h : Hp} {pin : Pn} {R : Type} {r : R}
theorem decEs_sound {f : Bool} {c : CK} {v : Vw} : ∀ {n : Nat} {ps : List PV} {xs : List c.T} {us : List Value}, decEs f c n ps = some xs → F2 (V1 v) ps us → xs.length = n ∧ us.length = n * c.sz ∧ ArrR v f c xs us
  | 0, ps, xs, us, h, hf => by
    cases ps with
    | nil =>
      simp only [decEs] at h
      injection h with h
      subst h
      cases hf
      exact ⟨rfl, by simp, fun j y hj => by simp at hj⟩
    | cons => simp [decEs] at h
  | n + 1, ps, xs, us, h, hf => by
    simp only [decEs, Option.bind_eq_some_iff] at h
    obtain ⟨x, hx, ys, hys, h⟩ := h
    injection h with h
    subst h
    have hE := decE_sound hx (hf.take c.sz)
    obtain ⟨h1, h2, h3⟩ := decEs_sound hys (hf.drop c.sz)
    have hl := hE.len
    have hus : us.length = c.sz + n * c.sz := by
      simp only [List.length_take, List.length_drop] at hl h2
      omega
    refine ⟨by simp [h1], by rw [hus, Nat.add_mul]; omega, fun j y hj => ?_⟩
    cases j with
    | zero =>
      simp at hj
      subst hj
      refine ⟨_, hE, fun i u hi => ?_⟩
      rw [List.getElem?_take] at hi
      split at hi
      · simpa using hi
      · cases hi
    | succ j =>
      simp at hj
      obtain ⟨cs, e1, e2⟩ := h3 j y hj
      refine ⟨cs, e1, fun i u hi => ?_⟩
      have := e2 i u hi
      rw [List.getElem?_drop] at this
      rw [show (j + 1) * c.sz + i = c.sz + (j * c.sz + i) by rw [Nat.add_mul]; omega]
      exact this
theorem ArrR.app {v : Vw} {f f' : Bool} {c : CK} {xs ys : List c.T} {a b : List Value} (hx : ArrR v f c xs a) (hy : ArrR v f' c ys b) (hl : a.length = xs.length * c.sz) : ArrR v (f && f') c (xs ++ ys) (a ++ b) := by
  have mono : ∀ (g : Bool), (g = false → (f && f') = false) → ∀ {y : c.T} {cs : List Value}, ElR v.W (v.okf g) c y cs → ElR v.W (v.okf (f && f')) c y cs := by
    intro g hg y cs h
    refine h.tr ⟨Nat.le_refl _, fun k hk _ => ⟨rfl, hk.1, fun e => hk.2 ?_⟩⟩
    cases g with
    | true => rfl
    | false => rw [hg rfl] at e; cases e
  intro j y hj
  by_cases h1 : j < xs.length
  · rw [List.getElem?_append_left h1] at hj
    obtain ⟨cs, e1, e2⟩ := hx j y hj
    refine ⟨cs, mono f (by rintro rfl; rfl) e1, fun i u hi => ?_⟩
    have := e2 i u hi
    rw [List.getElem?_append_left (List.getElem?_eq_some_iff.1 this).1]
    exact this
  · rw [List.getElem?_append_right (by omega)] at hj
    obtain ⟨cs, e1, e2⟩ := hy _ y hj
    refine ⟨cs, mono f' (by rintro rfl; simp) e1, fun i u hi => ?_⟩
    have := e2 i u hi
    have hm : j * c.sz = xs.length * c.sz + (j - xs.length) * c.sz := by rw [← Nat.add_mul]; congr 1; omega
    rw [List.getElem?_append_right (by omega), show j * c.sz + i - a.length = (j - xs.length) * c.sz + i by omega]
    exact this
/-- What a row reads as, cell by cell. -/
theorem SlR.cells {W : World} {ok : Nat → Prop} {c : CK} {ys : List c.T} {u : Value} (h : SlR W ok c ys u) : ∃ A cp, u = .slice A ys.length cp ∧ ys.length ≤ maxLen ∧ (ys = [] ∨ ∃ (ad : Addr) (news : List Value), A = some ad ∧ news.length = ys.length * c.sz ∧ (∀ (j : Nat) z, news[j]? = some z → W.cell? (ad.add j) = some z) ∧ (∀ z ∈ news, z.oneCell' = true) ∧
    ∀ (j : Nat) y, ys[j]? = some y → ∃ cs, ElR W ok c y cs ∧ ∀ (i : Nat) z, cs[i]? = some z → news[j * c.sz + i]? = some z) := by
  obtain ⟨A, cp, rfl, hc, hm, hr⟩ := h
  refine ⟨A, cp, rfl, hm, ?_⟩
  by_cases hn : ys = []
  · exact .inl hn
  · right
    obtain ⟨ad, rfl, ho, hl, hx⟩ := hr hn
    suffices H : ∀ (zs : List c.T) (k : Nat), (∀ (j : Nat) y, zs[j]? = some y → ys[k + j]? = some y) → ∃ news : List Value, news.length = zs.length * c.sz ∧ (∀ (j : Nat) z, news[j]? = some z → W.cell? (ad.add (k * c.sz + j)) = some z) ∧ (∀ z ∈ news, z.oneCell' = true) ∧
        ∀ (j : Nat) y, zs[j]? = some y → ∃ cs, ElR W ok c y cs ∧ ∀ (i : Nat) z, cs[i]? = some z → news[j * c.sz + i]? = some z by
      obtain ⟨news, h1, h2, h3, h4⟩ := H ys 0 (fun j y h => by simpa using h)
      exact ⟨ad, news, rfl, h1, fun j z hz => by simpa using h2 j z hz, h3, h4⟩
    intro zs
    induction zs with
    | nil => intro k _; exact ⟨[], by simp, fun j z h => by simp at h, fun z h => by simp at h, fun j y h => by simp at h⟩
    | cons z zs ih =>
      intro k hk
      obtain ⟨news, h1, h2, h3, h4⟩ := ih (k + 1) (fun j y hj => by have := hk (j + 1) y (by simpa using hj); rwa [show k + (j + 1) = k + 1 + j by omega] at this)
      obtain ⟨cs, hE, hcs⟩ := hx k z (by simpa using hk 0 z rfl)
      have hl := hE.len
      refine ⟨cs ++ news, by simp [h1, hl, Nat.add_mul]; omega, fun j y hj => ?_, fun y hy => ?_, fun j y hj => ?_⟩
      · by_cases hlt : j < cs.length
        · rw [List.getElem?_append_left hlt] at hj
          exact hcs j y hj
        · rw [List.getElem?_append_right (by omega)] at hj
          have := h2 _ y hj
          rwa [Nat.add_mul, show k * c.sz + 1 * c.sz + (j - cs.length) = k * c.sz + j by omega] at this
      · rcases List.mem_append.1 hy with hy | hy
        · exact hE.one y hy
        · exact h3 y hy
      · cases j with
        | zero =>
          simp at hj
          subst hj
          refine ⟨cs, hE, fun i u hi => ?_⟩
          rw [List.getElem?_append_left (by have := (List.getElem?_eq_some_iff.1 hi).1; omega)]
          simpa using hi
        | succ j =>
          simp at hj
          obtain ⟨cs', e1, e2⟩ := h4 j y hj
          refine ⟨cs', e1, fun i u hi => ?_⟩
          have := e2 i u hi
          rw [List.getElem?_append_right (by rw [Nat.add_mul]; omega), show (j + 1) * c.sz + i - cs.length = j * c.sz + i by rw [Nat.add_mul]; omega]
          exact this
end
end FN

namespace FN
open Go Go.RowKit
section
variable {P : Program} {E : Env'} {gg : Bool} {w : World} {base : Nat} {ρ : Rh} {h : Hp} {pin : Pn} {R : Type} {r : R} {o : Oper} {a : Act} {t : List PV}
theorem run_conv_bytes {src e dst : TypeId} (hs : P.underlying src = some (.slice e)) (he : P.underlying e = some (.int .u8)) (hd : P.underlying dst = some .string) {ad : Addr} {c : Nat} {xs : List Int} {w' : World} (hc : ∀ (j : Nat) x, xs[j]? = some x → w'.cell? (ad.add j) = some (.int .u8 x)) :
    (convert src dst (.slice (some ad) xs.length c)).run P w' = .ok (.string (strOfNums xs)) w' := by
  have hl : (loadCells ad xs.length).run P w' = .ok (xs.map (Value.int .u8)).toArray w' := by
    have := run_loadCells_list (P := P) w' ad (xs.map (Value.int .u8)) (fun j v hj => by
      rw [List.getElem?_map] at hj
      obtain ⟨x, hx, rfl⟩ := Option.map_eq_some_iff.1 hj
      exact hc j x hx)
    simpa using this
  rw [run_convert_bytes_string w' src dst e _ _ c hs he hd, run_bytesToString w' _ _ c xs hl, foldl_push_bytes]
  simp [strOfNums, ByteArray.empty, ByteArray.emptyWithCapacity]
  rfl
/-- An operation's answer, whatever comes behind. -/
structure Good (P : Program) (pin : Pn) (base : Nat) (gg : Bool) (o : Oper) (a : Act) (w : World) (ρ : Rh) (h : Hp) (F : (R : Type) → (PV → Hp → Option R) → Option R) : Prop where
  go : ∀ (R : Type) (K : PV → Hp → Option R) (r : R), F R K = some r → ∃ p h', K p h' = some r ∧ (∀ (R' : Type) (K' : PV → Hp → Option R'), F R' K' = K' p h') ∧ Res P pin base gg o a w ρ h p h'
theorem Good.none_ : Good P pin base gg o a w ρ h fun _ _ => none := ⟨fun _ _ _ hk => by cases hk⟩
theorem Good.ite {c : Prop} [Decidable c] {F G : (R : Type) → (PV → Hp → Option R) → Option R} (hF : c → Good P pin base gg o a w ρ h F) (hG : ¬ c → Good P pin base gg o a w ρ h G) : Good P pin base gg o a w ρ h fun R K => if c then F R K else G R K := by
  refine ⟨fun R K r hk => ?_⟩
  by_cases hc : c
  · try dsimp only at hk
    rw [if_pos hc] at hk
    obtain ⟨p, h', h1, h2, h3⟩ := (hF hc).go R K r hk
    exact ⟨p, h', h1, fun R' K' => by (try dsimp only); rw [if_pos hc]; exact h2 R' K', h3⟩
  · try dsimp only at hk
    rw [if_neg hc] at hk
    obtain ⟨p, h', h1, h2, h3⟩ := (hG hc).go R K r hk
    exact ⟨p, h', h1, fun R' K' => by (try dsimp only); rw [if_neg hc]; exact h2 R' K', h3⟩
theorem Good.now {p : PV} {h' : Hp} (hr : Res P pin base gg o a w ρ h p h') : Good P pin base gg o a w ρ h fun _ K => K p h' := ⟨fun _ _ _ hk => ⟨p, h', hk, fun _ _ => rfl, hr⟩⟩
theorem Good.eq {F G : (R : Type) → (PV → Hp → Option R) → Option R} (hF : Good P pin base gg o a w ρ h F) (e : ∀ R K, G R K = F R K) : Good P pin base gg o a w ρ h G := by
  refine ⟨fun R K r hk => ?_⟩
  rw [e] at hk
  obtain ⟨p, h', h1, h2, h3⟩ := hF.go R K r hk
  exact ⟨p, h', h1, fun R' K' => by rw [e]; exact h2 R' K', h3⟩
variable (hH : HRel (mine pin base) w base ρ h)
include hH
theorem same_v {s : Sem Value} {u : Value} {p : PV} (hr : ∀ w, s.run P w = .ok u w) (hv : V (vw w base ρ h) p u) (he : execOp a.eval o = (do pure (.value (← s)))) : Good P pin base gg o a w ρ h fun _ K => K p h :=
  Good.now (Res.same hH (fun w => exec_v he (hr w)) hv)
theorem conv_res {src dst : TypeId} {x : Operand} (ho : o.op = .convert src dst x) (hk : P.underlying dst = some .string) (hb : bytesTy P src = true) {f : Bool} {xs : List Int} (hs : SlR w ((⟨w, fun _ => True, 0, 0, fun _ => undef⟩ : Vw).okf f) .u8 xs (a.eval x)) : Res P pin base gg o a w ρ h (.str (strOfNums xs)) h := by
  obtain ⟨A, cp, hu, hcp, hm, hr⟩ := hs
  obtain ⟨e, he1, he2⟩ : ∃ e, P.underlying src = some (.slice e) ∧ P.underlying e = some (.int .u8) := by
    unfold bytesTy at hb
    split at hb
    · rename_i e h1
      split at hb
      · exact ⟨e, h1, by assumption⟩
      · cases hb
    · cases hb
  refine Res.same1 hH (u := .string (strOfNums xs)) (fun w' hgr => exec_v (s := convert src dst (a.eval x)) (by simp only [execOp, ho]) ?_) (by rw [ho]; rfl) rfl
  rw [hu]
  by_cases hx : xs = []
  · subst hx
    cases A with
    | none => exact run_convert_bytes_nil w' src e he1 he2 _ _ dst hk
    | some ad => exact run_conv_bytes he1 he2 hk (fun j x hj => by simp at hj)
  · obtain ⟨ad, rfl, _, _, hcell⟩ := hr hx
    refine run_conv_bytes he1 he2 hk (fun j x hj => hgr.cell ?_)
    obtain ⟨cs, h1, h2⟩ := hcell j x hj
    simp only [ElR] at h1
    subst h1
    have := h2 0 _ rfl
    simpa [CK.sz] using this
variable (hop : ∀ x, V (vw w base ρ h) (ev t x) (a.eval x))
include hop
theorem good_move {x : Operand} (ho : o.op = .move x) : Good P pin base gg o a w ρ h fun _ K => K (ev t x) h :=
  Good.now (Res.same hH (fun w => by simp [execOp, ho]) (hop x))
theorem good_assign {x : Operand} (ho : o.op = .assign x) : Good P pin base gg o a w ρ h fun _ K => K (ev t x) h :=
  Good.now (Res.same hH (fun w => by simp [execOp, ho]) (hop x))
theorem good_pick {c x y : Operand} (ho : o.op = .pick c x y) : Good P pin base gg o a w ρ h fun _ K => match ev t c with
    | .bool d => condA d (K (ev t x) h) (K (ev t y) h)
    | _ => none := by
  have hc := hop c
  split
  · rename_i d hd
    rw [hd] at hc
    simp only [V, V2, V1] at hc
    cases d with
    | true =>
      show Good P pin base gg o a w ρ h fun _ K => K (ev t x) h
      exact Good.now (Res.same hH (fun w => by simp [execOp, ho, hc, asBool]) (hop x))
    | false =>
      show Good P pin base gg o a w ρ h fun _ K => K (ev t y) h
      exact Good.now (Res.same hH (fun w => by simp [execOp, ho, hc, asBool]) (hop y))
  · exact Good.none_
theorem good_bin {op : BinOp} {ty ty' : TypeId} {x y : Operand} (ho : o.op = .binOp op ty x y ty') : Good P pin base gg o a w ρ h fun _ K => binK (boolTy P ty) (sliceTy P ty) (structK P ty) op (ev t x) (ev t y) fun p => K p h := by
  refine ⟨fun R K r hk => ?_⟩
  obtain ⟨p, h1, h2, z, h3, h4⟩ := binK_sound (P := P) (ty := ty) (xo := x) (yo := y) hk (hop x) (hop y) (fun hb => by
    unfold boolTy at hb
    split at hb
    · assumption
    · cases hb) (fun hb => by
    unfold sliceTy at hb
    split at hb
    · exact ⟨_, by assumption⟩
    · cases hb) (fun _ h => h)
  exact ⟨p, h, h1, fun _ K' => h2 _, Res.same hH (fun w => exec_v (by simp only [execOp, ho]) (h4 w)) (V_of_V1 h3)⟩
theorem good_un {op : UnOp} {ty : TypeId} {x : Operand} (ho : o.op = .unOp op ty x) : Good P pin base gg o a w ρ h fun _ K => unK op (ev t x) fun p => K p h := by
  have hx := hop x
  unfold unK
  split
  · rename_i b hb
    rw [hb] at hx
    simp only [V, V2, V1] at hx
    exact same_v hH (s := Op.unary .not (a.eval x)) (u := .bool (!b)) (fun w => by simp [hx, Op.unary]) rfl (by simp only [execOp, ho])
  · rename_i k n hb
    rw [hb] at hx
    simp only [V, V2, V1] at hx
    exact same_v hH (s := Op.unary .neg (a.eval x)) (u := .int k (k.wrap (0 - n))) (fun w => by simp [hx, Op.unary, Op.intArith]) rfl (by simp only [execOp, ho])
  · exact Good.none_
theorem good_load {ty : TypeId} {x : Operand} (ho : o.op = .load ty x) : Good P pin base gg o a w ρ h fun _ K => loadK P ty (ev t x) h fun p => K p h := by
  refine ⟨fun R K r hk => ?_⟩
  obtain ⟨p, h1, h2, z, h3, h4⟩ := loadK_sound hH hk (hop x)
  exact ⟨p, h, h1, fun _ K' => h2 _, Res.same1 hH (fun w' hgr => exec_v (by simp only [execOp, ho]) (h4 w' hgr)) (by rw [ho]; rfl) (V_of_V2 h3)⟩
theorem good_store (hg : gg = false) {ty : TypeId} {x v : Operand} (ho : o.op = .store ty x v) : Good P pin base gg o a w ρ h fun _ K => storeK P ty (ev t x) (ev t v) h fun h' => K .junk h' := by
  refine ⟨fun R K r hk => ?_⟩
  obtain ⟨h', h1, h2, w', ρ', h3, h4, h5, h6⟩ := storeK_sound hH hk (hop x) (hop v)
  exact ⟨.junk, h', h1, fun _ K' => h2 _, Res.skip (by rw [ho]; rfl) (by simp only [execOp, ho, Sem.run_bind, h3]; rfl) h4 h5 h6 (fun h => by rw [hg] at h; cases h)⟩
theorem good_nil {x : Operand} (ho : o.op = .nilCheck x) : Good P pin base gg o a w ρ h fun _ K => match ev t x with
    | .ptr a b => K (.ptr a b) h
    | .rp f c xs i o => K (.rp f c xs i o) h
    | .ep a b c d => K (.ep a b c d) h
    | _ => none := by
  have hx := hop x
  split
  · rename_i hb
    rw [hb] at hx
    obtain ⟨_, g, _, hu⟩ := id hx
    exact Good.now (Res.same hH (fun w => by simp [execOp, ho, hu]) (hu ▸ hx))
  · rename_i hb
    rw [hb] at hx
    obtain ⟨ad, hu, _⟩ := id hx
    exact Good.now (Res.same hH (fun w => by simp [execOp, ho, hu]) (hu ▸ hx))
  · rename_i hb
    rw [hb] at hx
    obtain ⟨_, g, _, _, _, hu, _⟩ := id hx
    exact Good.now (Res.same hH (fun w => by simp [execOp, ho, hu]) (hu ▸ hx))
  · exact Good.none_
theorem good_fieldAddr {ty : TypeId} {x : Operand} {f : Nat} (ho : o.op = .fieldAddr ty x f) : Good P pin base gg o a w ρ h fun _ K => match offOf P ty f with
    | some (o, ft) => if szOf P ft = 0 then none else match ev t x with
      | .ptr id off => K (.ptr id (off + o)) h
      | .rp fl c xs i off => K (.rp fl c xs i (off + o)) h
      | .ep id c i off => K (.ep id c i (off + o)) h
      | _ => none
    | none => none := by
  have hx := hop x
  split
  · rename_i oo ft hoff
    refine Good.ite (fun _ => Good.none_) (fun hz => ?_)
    split
    · rename_i id off hb
      rw [hb] at hx
      obtain ⟨hN, g, hg, hu⟩ := hx
      refine same_v hH (s := Instr.fieldAt ty (a.eval x) f) (u := .pointer (some ⟨g, off + oo, none⟩)) ?_ ⟨hN, g, hg, rfl⟩ (by simp only [execOp, ho])
      intro w
      rw [hu, run_fieldAt hoff hz, add_off]
    · rename_i fl c xs i off hb
      rw [hb] at hx
      obtain ⟨ad, hu, hr, hi⟩ := hx
      refine same_v hH (s := Instr.fieldAt ty (a.eval x) f) (u := .pointer (some (ad.add (i * c.sz + (off + oo))))) ?_ ⟨ad, rfl, hr, hi⟩ (by simp only [execOp, ho])
      intro w
      rw [hu, run_fieldAt hoff hz, Addr.add_add, Nat.add_assoc]
    · rename_i id c i off hb
      rw [hb] at hx
      obtain ⟨hN, g, n, cp, hg, hu, hi⟩ := hx
      refine same_v hH (s := Instr.fieldAt ty (a.eval x) f) (u := .pointer (some ⟨g, i * c.sz + (off + oo), none⟩)) ?_ ⟨hN, g, n, cp, hg, rfl, hi⟩ (by simp only [execOp, ho])
      intro w
      rw [hu, run_fieldAt hoff hz, add_off, Nat.add_assoc]
    · exact Good.none_
  · exact Good.none_
theorem good_indexAddr {ty : TypeId} {x i : Operand} (ho : o.op = .indexAddr ty x i) : Good P pin base gg o a w ρ h fun _ K => match elemT P ty, ev t i with
    | some el, .int _ n => match ev t x with
      | .row f c xs => if szOf P el = c.sz then (if 0 ≤ n ∧ n < (xs.length : Int) then K (.rp f c xs n.toNat 0) h else none) else none
      | .own id => match h.get id with
        | some (.arr _ _ c xs) => if szOf P el = c.sz then (if 0 ≤ n ∧ n < (xs.length : Int) then K (.ep id c n.toNat 0) h else none) else none
        | _ => none
      | _ => none
    | _, _ => none := by
  have hx := hop x
  have hi := hop i
  split
  · rename_i el k n hel hn
    rw [hn] at hi
    simp only [V, V2, V1] at hi
    split
    · rename_i f c xs hb
      rw [hb] at hx
      refine Good.ite (fun hz => Good.ite (fun hc => ?_) (fun _ => Good.none_)) (fun _ => Good.none_)
      obtain ⟨A, cp, hu, hcp, hm, hr⟩ := (show SlR _ _ c xs _ from hx)
      obtain ⟨ad, rfl, hrd⟩ := hr (by rintro rfl; simp at hc; omega)
      refine same_v hH (s := Instr.indexAt ty (a.eval x) (a.eval i)) (u := .pointer (some (ad.add (n.toNat * c.sz + 0)))) ?_ ⟨ad, rfl, hrd, by omega⟩ (by simp only [execOp, ho])
      intro w
      rw [hu, hi, run_indexAt hel hc.1 hc.2 (by have := c.sz_pos; omega), hz]; rfl
    · rename_i id hb
      rw [hb] at hx
      obtain ⟨hN, hu, _⟩ := hx
      replace hu : a.eval x = ρ id := hu
      split
      · rename_i e f c xs hg
        refine Good.ite (fun hz => Good.ite (fun hc => ?_) (fun _ => Good.none_)) (fun _ => Good.none_)
        obtain ⟨inner, hown, _⟩ := hH.blk id _ hg
        rcases hown.2 with ⟨_, h0⟩ | ⟨g, cap, cur, hv, _⟩
        · omega
        · refine same_v hH (s := Instr.indexAt ty (a.eval x) (a.eval i)) (u := .pointer (some ⟨g, n.toNat * c.sz + 0, none⟩)) ?_ ⟨hN, g, xs.length, cap, hv, rfl, by omega⟩ (by simp only [execOp, ho])
          intro w
          rw [hu, hi, hv, run_indexAt hel hc.1 hc.2 (by have := c.sz_pos; omega), hz, add0]; rfl
      · exact Good.none_
    · exact Good.none_
  · exact Good.none_
theorem good_index {ty : TypeId} {x i : Operand} (ho : o.op = .index ty x i) : Good P pin base gg o a w ρ h fun _ K => match ev t x, ev t i with
    | .str s, .int _ n => if strTy P ty = true then if 0 ≤ n ∧ n < (s.size : Int) then K (.int .u8 ((s.data.toList.getD n.toNat 0).toNat : Int)) h else none else none
    | _, _ => none := by
  have hx := hop x
  have hi := hop i
  split
  · rename_i s k n hs hn
    rw [hs] at hx
    rw [hn] at hi
    simp only [V, V2, V1] at hx hi
    refine Good.ite (fun ht => Good.ite (fun hc => ?_) (fun _ => Good.none_)) (fun _ => Good.none_)
    have hu : P.underlying ty = some .string := by
      unfold strTy at ht
      split at ht
      · assumption
      · cases ht
    refine same_v hH (s := Instr.index ty (a.eval x) (a.eval i)) (u := .int .u8 ((s.data.toList.getD n.toNat 0).toNat : Int)) ?_ rfl (by simp only [execOp, ho])
    have hlt : n.toNat < s.size := by omega
    have hg : s[n.toNat]? = some (s.data.toList.getD n.toNat 0) := by
      rw [getElem?_pos s n.toNat hlt, List.getD_eq_getElem?_getD, List.getElem?_eq_getElem (by simpa using hlt)]
      rfl
    intro w
    simp [hx, hi, Instr.index, asIntOf, run_underlying hu, hc.1, hg]
  · exact Good.none_
theorem good_alloc {ty : TypeId} (ho : o.op = .alloc ty) : Good P pin base gg o a w ρ h fun _ K => match zeroPs P ty with
    | some cs => K (.ptr h.length 0) (h ++ [some (.box ty cs)])
    | none => none := by
  split
  · rename_i cs hcs
    obtain ⟨i, z, hi, hz, hF⟩ := zeroPs_some hcs
    obtain ⟨h1, h2⟩ := hH.box (t := ty) (hF (vw w base ρ h))
    exact Good.now (Res.val (by rw [ho]; rfl) (exec_v (by simp only [execOp, ho]) (run_alloc_ hi hz)) h1 h2 box_V (Kp.alloc _ hH.bs) (fun _ => Grows.alloc _ _))
  · exact Good.none_
theorem good_box {ty : TypeId} {v : Operand} (ho : o.op = .box ty v) : Good P pin base gg o a w ρ h fun _ K => if (cellsOf (ev t v)).all oneP = true then K (.ptr h.length 0) (h ++ [some (.box ty (cellsOf (ev t v)))]) else none := by
  refine Good.ite (fun hc => ?_) (fun _ => Good.none_)
  obtain ⟨h1, h2⟩ := hH.box (t := ty) (cells_V1 (hop v) hc).1
  exact Good.now (Res.val (by rw [ho]; rfl) (exec_v (by simp only [execOp, ho]) run_box_) h1 h2 box_V (Kp.alloc _ hH.bs) (fun _ => Grows.alloc _ _))
theorem good_build {ty : TypeId} {parts : Array (Nat × Operand)} (ho : o.op = .build ty parts) : Good P pin base gg o a w ρ h fun _ K => match zeroPs P ty with
    | some cs => if placesOk P ty = true then match fillK P ty t parts.toList cs with
      | some ps => K (.agg ps) h
      | none => none
      else none
    | none => none := by
  split
  · rename_i cs hcs
    refine Good.ite (fun hp => ?_) (fun _ => Good.none_)
    split
    · rename_i ps hps
      obtain ⟨i, z, hi, hz, hF⟩ := zeroPs_some hcs
      obtain ⟨fs, places, hu, hpl⟩ := places_some hp
      obtain ⟨cells', e1, e2⟩ := fillK_sound hop hu hpl parts.toList cs ps z.cells hps (hF _)
      refine same_v hH (s := Instr.build ty (parts.map fun x => (x.1, a.eval x.2))) (u := .agg cells') (fun w => run_build w ty _ cells' ?_) ⟨cells', rfl, e2⟩ (by simp only [execOp, ho])
      simp only [Program.built, hi, hu, hz, hpl]
      simpa using e1
    · exact Good.none_
  · exact Good.none_
theorem good_field {ty : TypeId} {x : Operand} {f : Nat} (ho : o.op = .field ty x f) : Good P pin base gg o a w ρ h fun _ K => match offOf P ty f with
    | some (oo, ft) => match ev t x with
      | .agg ps => readK P ft ps oo fun p => K p h
      | _ => none
    | none => none := by
  have hx := hop x
  split
  · rename_i oo ft hoff
    unfold offOf at hoff
    split at hoff
    · rename_i fs hu
      simp only [Option.map_eq_some_iff] at hoff
      obtain ⟨y, hy, he⟩ := hoff
      injection he with e1 e2
      subst e1; subst e2
      split
      · rename_i ps hb
        rw [hb] at hx
        obtain ⟨vs, hv, hF⟩ := hx
        unfold readK
        split
        · exact Good.none_
        · rename_i d hd
          obtain ⟨i, hi⟩ := info_of_under hd
          refine Good.ite (fun hA => ?_) (fun hA => ?_)
          · refine Good.ite (fun hl => ?_) (fun _ => Good.none_)
            have hz : szOf P y.type = i.size := by simp [szOf, hi]
            refine same_v hH (s := Instr.field ty (a.eval x) f) (u := .agg (vs.extract y.offset (y.offset + i.size))) (fun w => ?_) ⟨_, rfl, ?_⟩ (by simp only [execOp, ho])
            · rw [hv]
              simp only [Instr.field, Sem.run_bind, run_underlying hu, Result.andThen_ok, hy, asAgg, Sem.run_pure, part, run_isAgg hd, hA, if_true, run_sz hi]
            · have := (hF.drop y.offset).take (szOf P y.type)
              rw [Array.toList_extract, hz] at *
              rw [List.extract_eq_take_drop]
              simpa using this
          · split
            · rename_i p hp
              obtain ⟨u, hu', hv'⟩ := hF.get hp
              refine same_v hH (s := Instr.field ty (a.eval x) f) (u := u) (fun w => ?_) (V_of_V1 hv') (by simp only [execOp, ho])
              have hu2 : vs[y.offset]? = some u := by simpa using hu'
              rw [hv]
              simp only [Instr.field, Sem.run_bind, run_underlying hu, Result.andThen_ok, hy, asAgg, Sem.run_pure, part, run_isAgg hd, hA, hu2]
              rfl
            · exact Good.none_
      · exact Good.none_
    · cases hoff
  · exact Good.none_
theorem good_extract {x : Operand} {i : Nat} (ho : o.op = .extract x i) : Good P pin base gg o a w ρ h fun _ K => match ev t x with
    | .tup ps => match ps[i]? with | some p => K p h | none => none
    | _ => none := by
  have hx := hop x
  split
  · rename_i ps hb
    rw [hb] at hx
    obtain ⟨vs, hu, hF⟩ := hx
    split
    · rename_i p hp
      obtain ⟨z, hz, hv⟩ := hF.get hp
      exact same_v hH (s := Instr.extract (a.eval x) i) (u := z) (fun w => by rw [hu]; simp [Instr.extract]; simp at hz; simp [hz]) (V_of_V2 hv) (by simp only [execOp, ho])
    · exact Good.none_
  · exact Good.none_
theorem good_convert {src dst : TypeId} {x : Operand} (ho : o.op = .convert src dst x) : Good P pin base gg o a w ρ h fun _ K => if (P.underlying src).isSome then match P.underlying dst, ev t x with
    | some (.int kk), .int _ n => K (.int kk (kk.wrap n)) h
    | some .string, .str s => K (.str s) h
    | some .string, .row f .u8 xs => if bytesTy P src = true then K (.str (strOfNums xs)) h else none
    | some .string, .own id => match h.get id with
      | some (.arr _ _ .u8 xs) => if bytesTy P src = true then K (.str (strOfNums xs)) h else none
      | _ => none
    | _, _ => none
    else none := by
  have hx := hop x
  refine Good.ite (fun hs => ?_) (fun _ => Good.none_)
  obtain ⟨d, hd⟩ := Option.isSome_iff_exists.1 hs
  split
  · rename_i kk k n hk hn
    rw [hn] at hx
    simp only [V, V2, V1] at hx
    exact same_v hH (s := convert src dst (a.eval x)) (u := .int kk (kk.wrap n)) (fun w => by rw [hx]; cases d <;> simp [convert, run_underlying hd, run_underlying hk, Conv.intToInt]) rfl (by simp only [execOp, ho])
  · rename_i s hk hn
    rw [hn] at hx
    simp only [V, V2, V1] at hx
    exact same_v hH (s := convert src dst (a.eval x)) (u := .string s) (fun w => by rw [hx]; cases d <;> simp [convert, run_underlying hd, run_underlying hk]) rfl (by simp only [execOp, ho])
  · rename_i f xs hk hn
    rw [hn] at hx
    refine Good.ite (fun hb => ?_) (fun _ => Good.none_)
    exact Good.now (conv_res hH ho hk hb (seen1_V hH (p := .row f .u8 xs) hx (fun _ => trivial)))
  · rename_i id hk hn
    rw [hn] at hx
    split
    · rename_i e f xs hg
      refine Good.ite (fun hb => ?_) (fun _ => Good.none_)
      have hs := seen1_V hH (p := .own id) hx (ok' := fun _ => True) (fun _ => trivial)
      simp only [seen1, hg] at hs
      exact Good.now (conv_res hH ho hk hb hs)
    · exact Good.none_
  · exact Good.none_
end
end FN

namespace FN
open Go Go.RowKit
section
variable {P : Program} {E : Env'} {gg : Bool} {w : World} {base : Nat} {ρ : Rh} {h : Hp} {pin : Pn} {R : Type} {r : R} {o : Oper} {a : Act} {t : List PV}
theorem argTypes_len {as : Array Operand} {l : List Operand} (h : as.toList = l) : as = l.toArray := by rw [← h]
theorem exec_len {x : Operand} {ty : TypeId} {as : Array Operand} {ts : Array TypeId} (ho : o.op = .call { callee := .builtin .len, args := as, argTypes := ts }) (ha : as.toList = [x]) (ht : ts.toList = [ty]) {n : Int} (hr : ∀ w, (Builtin.len_ #[ty] o.type #[a.eval x]).run P w = .ok (.int .i64 n) w) (w : World) :
    (execOp a.eval o).run P w = .ok (.value (.int .i64 n)) w := by
  have e1 : as = #[x] := argTypes_len ha
  have e2 : ts = #[ty] := by rw [← Array.toArray_toList (xs := ts), ht]
  subst e1; subst e2
  simp only [execOp, ho, resolve, invoke, builtin, Sem.run_bind, Sem.run_pure, Result.andThen_ok, List.map_toArray, List.map_cons, List.map_nil, hr]
variable (hH : HRel (mine pin base) w base ρ h)
include hH
theorem good_len_sl {x : Operand} {ty : TypeId} {as : Array Operand} {ts : Array TypeId} (ho : o.op = .call { callee := .builtin .len, args := as, argTypes := ts }) (ha : as.toList = [x]) (ht : ts.toList = [ty]) {A : Option Addr} {n c : Nat} (hu : a.eval x = .slice A n c) (he : (elemT P ty).isSome = true) :
    Good P pin base gg o a w ρ h fun _ K => K (.int .i64 n) h := by
  obtain ⟨el, hel⟩ := Option.isSome_iff_exists.1 he
  have hun := elemT_under hel
  refine Good.now (Res.same hH (exec_len ho ha ht (n := n) ?_) rfl)
  intro w
  simp [Builtin.len_, hu, run_underlying hun, goInt]
variable (hop : ∀ x, V (vw w base ρ h) (ev t x) (a.eval x))
include hop
theorem good_len {x : Operand} {ty : TypeId} {as : Array Operand} {ts : Array TypeId} (ho : o.op = .call { callee := .builtin .len, args := as, argTypes := ts }) (ha : as.toList = [x]) (ht : ts.toList = [ty]) :
    Good P pin base gg o a w ρ h fun _ K => lenK P ty (ev t x) h fun p => K p h := by
  have hx := hop x
  unfold lenK
  split
  · rename_i s hb
    rw [hb] at hx
    simp only [V, V2, V1] at hx
    refine Good.ite (fun hs => ?_) (fun _ => Good.none_)
    have hun : P.underlying ty = some .string := by
      unfold strTy at hs
      split at hs
      · assumption
      · cases hs
    refine Good.now (Res.same hH (exec_len ho ha ht (n := s.size) ?_) rfl)
    intro w
    simp [Builtin.len_, hx, run_underlying hun, goInt]
  · rename_i f c xs hb
    rw [hb] at hx
    obtain ⟨A, cp, hu, _⟩ := (show SlR _ _ c xs _ from hx)
    exact Good.ite (fun hs => good_len_sl hH ho ha ht hu hs) (fun _ => Good.none_)
  · rename_i hb
    rw [hb] at hx
    exact Good.ite (fun hs => (good_len_sl hH ho ha ht (show a.eval x = .slice none 0 0 from hx) hs).eq fun _ _ => rfl) (fun _ => Good.none_)
  · rename_i id hb
    rw [hb] at hx
    obtain ⟨_, hu, _⟩ := hx
    replace hu : a.eval x = ρ id := hu
    split
    · rename_i e f c xs hg
      obtain ⟨inner, hown, _⟩ := hH.blk id _ hg
      refine Good.ite (fun hs => ?_) (fun _ => Good.none_)
      rcases hown.2 with ⟨hv, h0⟩ | ⟨g, cap, cur, hv, _⟩
      · rw [h0]; exact (good_len_sl hH ho ha ht (hu.trans hv) hs).eq fun _ _ => rfl
      · exact good_len_sl hH ho ha ht (hu.trans hv) hs
    · exact Good.none_
  · exact Good.none_
theorem good_max {as : Array Operand} {ts : Array TypeId} (ho : o.op = .call { callee := .builtin .max, args := as, argTypes := ts }) {k k' : IntKind} {m n : Int} (hm : as.toList.map (ev t) = [.int k m, .int k' n]) :
    Good P pin base gg o a w ρ h fun _ K => K (.int k (if n > m then n else m)) h := by
  obtain ⟨x, y, rfl, hx, hy⟩ : ∃ x y, as = #[x, y] ∧ ev t x = .int k m ∧ ev t y = .int k' n := by
    have hl : as.toList.length = 2 := by simpa using congrArg List.length hm
    match hq : as.toList, hl with
    | [x, y], _ =>
      rw [hq] at hm
      simp at hm
      exact ⟨x, y, argTypes_len hq, hm.1, hm.2⟩
  have h1 := hop x
  have h2 := hop y
  rw [hx] at h1
  rw [hy] at h2
  simp only [V, V2, V1] at h1 h2
  refine Good.now (Res.same hH (u := .int k (if n > m then n else m)) ?_ rfl)
  intro w
  simp [execOp, ho, resolve, invoke, builtin, h1, h2, Builtin.max_, Builtin.max2]
theorem good_min {as : Array Operand} {ts : Array TypeId} (ho : o.op = .call { callee := .builtin .min, args := as, argTypes := ts }) {k k' : IntKind} {m n : Int} (hm : as.toList.map (ev t) = [.int k m, .int k' n]) :
    Good P pin base gg o a w ρ h fun _ K => K (.int k (if n < m then n else m)) h := by
  obtain ⟨x, y, rfl, hx, hy⟩ : ∃ x y, as = #[x, y] ∧ ev t x = .int k m ∧ ev t y = .int k' n := by
    have hl : as.toList.length = 2 := by simpa using congrArg List.length hm
    match hq : as.toList, hl with
    | [x, y], _ =>
      rw [hq] at hm
      simp at hm
      exact ⟨x, y, argTypes_len hq, hm.1, hm.2⟩
  have h1 := hop x
  have h2 := hop y
  rw [hx] at h1
  rw [hy] at h2
  simp only [V, V2, V1] at h1 h2
  refine Good.now (Res.same hH (u := .int k (if n < m then n else m)) ?_ rfl)
  intro w
  simp [execOp, ho, resolve, invoke, builtin, h1, h2, Builtin.min_, Builtin.min2]
theorem good_makeFunc {f : FuncId} {fs cs : Array Operand} (ho : o.op = .makeFunc (.func f) fs cs) : Good P pin base gg o a w ρ h fun _ K => if fs.size = 0 ∧ (cs.toList.map (ev t)).all oneP = true then K (.fn f (cs.toList.map (ev t))) h else none := by
  refine Good.ite (fun hc => ?_) (fun _ => Good.none_)
  obtain ⟨h1, h2⟩ := hc
  have e1 : fs = #[] := Array.eq_empty_of_size_eq_zero h1
  subst e1
  refine same_v hH (s := Instr.makeFunc (.func f) (#[].map a.eval) (cs.map a.eval)) (u := .func (.func f) #[] (cs.map a.eval)) (fun w => by simp [Instr.makeFunc]) ⟨_, rfl, ?_⟩ (by simp only [execOp, ho])
  have : ∀ l : List Operand, (l.map (ev t)).all oneP = true → F2 (V1 (vw w base ρ h)) (l.map (ev t)) (l.map a.eval) := by
    intro l
    induction l with
    | nil => intro _; exact .nil
    | cons x l ih =>
      intro hl
      simp only [List.map_cons, List.all_cons, Bool.and_eq_true] at hl
      exact .cons (V1_of_V (hop x) hl.1) (ih hl.2)
  simpa using this cs.toList h2
theorem good_makeSlice {ty : TypeId} {l c : Operand} (ho : o.op = .makeSlice ty l c) : Good P pin base gg o a w ρ h fun _ K => match elemT P ty, ev t l with
    | some el, .int _ n => match E.ck el with
      | some ck => if zOk P el ck = true ∧ isSame l c = true then (if 0 ≤ n ∧ n * bytesOfE P el ≤ 140737488355328 ∧ n ≤ 140737488355328 then K (.own h.length) (h ++ [some (.arr el true ck (List.replicate n.toNat ck.dflt))]) else none) else none
      | none => none
    | _, _ => none := by
  have hl := hop l
  split
  · rename_i el k n hel hn
    rw [hn] at hl
    simp only [V, V2, V1] at hl
    split
    · rename_i ck hck
      refine Good.ite (fun hz => Good.ite (fun hb => ?_) (fun _ => Good.none_)) (fun _ => Good.none_)
      obtain ⟨hz, hsame⟩ := hz
      obtain ⟨i, z, hi, hzz, his, hzs, hisz⟩ := zOk_some hz
      have hc2 : ∃ k', a.eval c = .int k' n := by
        unfold isSame at hsame
        split at hsame
        · rename_i x y
          have := eq_of_beq hsame
          subst this
          exact ⟨k, hl⟩
        · rename_i k1 x k2 y
          have := eq_of_beq hsame
          subst this
          simp only [ev, ofVal] at hn
          injection hn with _ hn
          subst hn
          exact ⟨k2, rfl⟩
        · cases hsame
      obtain ⟨k', hc2⟩ := hc2
      obtain ⟨m, rfl⟩ := Int.eq_ofNat_of_zero_le hb.1
      have hby : bytesOfE P el = i.bytes := by simp [bytesOfE, hi]
      rw [hby] at hb
      have hbytes : i.bytes * m ≤ 281474976710656 := by
        have : ((i.bytes * m : Nat) : Int) ≤ 140737488355328 := by rw [Int.natCast_mul, Int.mul_comm]; exact hb.2.1
        omega
      obtain ⟨w', hr, hown, hg⟩ := run_make_full w base ty el i z ck.sz (elemT_under hel) hi hzz his k k' m hbytes (by unfold maxLen; omega) hH.bs
      have hblk : ∀ g, blkOf (.slice (some ⟨w.heap.size, 0, none⟩) m m) = some g → g = w.heap.size := fun g hg => by simp [blkOf] at hg; exact hg.symm
      obtain ⟨h1, h2⟩ := hH.arr (H1 := h) (w' := w') (v := .slice (some ⟨w.heap.size, 0, none⟩) m m) (e := el) (f := true) (c := ck) (xs := List.replicate m ck.dflt) (inner := (madeCells z.cells (m * ck.sz)).toList) rfl (fun _ _ h => h) hg.size (fun k hk _ => hg.block k hk (by simp)) (fun g hg => .inl (by have := hblk g hg; omega)) (by simpa using hown) (fun v' _ j y hj => by
          rw [List.getElem?_replicate] at hj
          split at hj
          · rename_i hjm
            injection hj with hj
            subst hj
            refine ⟨z.cells.toList, isZ_sound hisz _ _, fun i u hu => ?_⟩
            have hil : i < ck.sz := by have := (List.getElem?_eq_some_iff.1 hu).1; simp at this; omega
            have hlt : j * ck.sz + i < m * ck.sz := by
              have := Nat.mul_le_mul_right ck.sz (show j + 1 ≤ m from hjm)
              rw [Nat.add_mul] at this; omega
            have hmod : (j * ck.sz + i) % z.cells.size = i := by rw [hzs, Nat.mul_comm, Nat.mul_add_mod, Nat.mod_eq_of_lt hil]
            simp [madeCells, hlt, hmod]
            have hzi : z.cells[i]? = some u := by simpa using hu
            obtain ⟨hlt', he⟩ := Array.getElem?_eq_some_iff.1 hzi
            simp [hlt', he]
          · cases hj)
      refine (Good.now (Res.val (by rw [ho]; rfl) (exec_v (s := Instr.makeSlice ty (a.eval l) (a.eval c)) (by simp only [execOp, ho]) (by rw [hl, hc2]; exact hr)) h1 h2 (arr_V (by simp) rfl) (Kp.grown hg hH.bs (fun k hk => by cases hk)) (fun _ => ⟨hg.size, fun k hk => hg.block k hk (by simp)⟩))).eq fun _ _ => by simp
    · exact Good.none_
  · exact Good.none_
end
end FN

namespace FN
open Go Go.RowKit
section
variable {P : Program} {E : Env'} {gg : Bool} {w : World} {base : Nat} {ρ : Rh} {h : Hp} {pin : Pn} {R : Type} {r : R} {o : Oper} {a : Act} {t : List PV}
/-- A literal's cells, part by part. -/
theorem fill_lit {sz : Nat} : ∀ (l : List (Nat × Value)) (k : Nat) (cells : Array Value), l.map (·.1) = (List.range l.length).map (k + ·) → (∀ x ∈ l, x.2.cells.size = sz) → (k + l.length) * sz ≤ cells.size →
    ∃ cells', Instr.fill (fun i => some (i * sz, sz)) cells l = some cells' ∧ cells'.toList = cells.toList.take (k * sz) ++ (l.flatMap fun x => x.2.cells.toList) ++ cells.toList.drop ((k + l.length) * sz)
  | [], k, cells, _, _, _ => ⟨cells, rfl, by simp⟩
  | (i, v) :: l, k, cells, hi, hs, hl => by
    simp only [List.length_cons, List.range_succ_eq_map, List.map_cons, List.map_map] at hi hl
    injection hi with h1 h2
    simp only [Nat.add_zero] at h1
    subst h1
    have hsv := hs (i, v) (by simp)
    have hm : (i + (l.length + 1)) * sz = i * sz + sz + l.length * sz := by rw [Nat.add_mul, Nat.add_mul]; omega
    obtain ⟨c1, e1, e2⟩ := fill_cons (place := fun i => some (i * sz, sz)) (cells := cells) (i := i) (off := i * sz) (size := sz) (v := v) (rest := l) rfl hsv (by omega)
    have hvl : v.cells.toList.length = sz := by simpa using hsv
    have hcl : c1.toList.length = cells.toList.length := by
      rw [e2]
      simp only [List.length_append, List.length_take, List.length_drop, hvl, Array.length_toList]
      omega
    have hcl' : c1.size = cells.size := by simpa using hcl
    obtain ⟨c2, e3, e4⟩ := fill_lit l (i + 1) c1 (by rw [h2]; apply List.map_congr_left; intro x _; simp; omega) (fun x hx => hs x (by simp [hx])) (by rw [hcl', Nat.add_mul, Nat.add_mul]; omega)
    refine ⟨c2, e1.trans e3, ?_⟩
    have hfl : ∀ l : List (Nat × Value), (∀ x ∈ l, x.2.cells.size = sz) → (l.flatMap fun x => x.2.cells.toList).length = l.length * sz := by
      intro l
      induction l with
      | nil => intro _; simp
      | cons x l ih =>
        intro hx
        have := ih (fun y hy => hx y (by simp [hy]))
        have h0 := hx x (by simp)
        simp only [List.flatMap_cons, List.length_append, List.length_cons, this, Array.length_toList, h0, Nat.add_mul]
        omega
    have hf1 := hfl l (fun x hx => hs x (by simp [hx]))
    have e5 : (i + 1) * sz = i * sz + sz := by rw [Nat.add_mul]; omega
    have e6 : (i + 1 + l.length) * sz = i * sz + sz + l.length * sz := by rw [Nat.add_mul, Nat.add_mul]; omega
    have hcs : cells.toList.length = cells.size := by simp
    rw [e4, e5, e6, List.length_cons, hm]
    generalize hF : (l.flatMap fun x => x.2.cells.toList) = F at *
    have hcons : ((i, v) :: l).flatMap (fun x => x.2.cells.toList) = v.cells.toList ++ F := by rw [← hF]; simp
    rw [hcons]
    apply List.ext_getElem?
    intro j
    have s1 := seg_get c1.toList F (i * sz + sz) j (by rw [hcl, hcs]; omega)
    rw [hf1] at s1
    have s2 := seg_get cells.toList (v.cells.toList ++ F) (i * sz) j (by rw [List.length_append, hcs, hvl]; omega)
    rw [List.length_append, hvl, hf1, ← Nat.add_assoc] at s2
    have s3 := seg_get cells.toList v.cells.toList (i * sz) j (by rw [hcs, hvl]; omega)
    rw [s1, s2, e2, s3, hvl]
    by_cases b1 : j < i * sz
    · simp only [b1, if_true, show j < i * sz + sz by omega]
    · by_cases b2 : j < i * sz + sz
      · simp only [b1, b2, if_true, if_false, show j < i * sz + sz + l.length * sz by omega]
        rw [List.getElem?_append_left (by omega)]
      · by_cases b3 : j < i * sz + sz + l.length * sz
        · simp only [b1, b2, b3, if_true, if_false]
          rw [List.getElem?_append_right (by omega), hvl]
          congr 1; omega
        · simp only [b1, b2, b3, if_false]
theorem run_buildSlice_ {ty el : TypeId} {i : TypeInfo} {z : Value} {n sz : Nat} {parts : Array (Nat × Value)} {cells' : Array Value} (hu : P.underlying ty = some (.slice el)) (hi : P.info? el = some i) (hzz : i.zero = some z) (his : i.size = sz) (hb : n * sz ≤ 2 ^ 24)
    (e1 : Instr.fill (fun i => some (i * sz, sz)) ((Array.range (n * sz)).map (z.cells[· % z.cells.size]!)) parts.toList = some cells') :
    (Instr.buildSlice ty n parts).run P w = .ok (.slice (some ⟨w.heap.size, 0, none⟩) n n) (w.alloc (.cells cells' el)) := by
  subst his
  simp only [Instr.buildSlice, Sem.run_bind, run_underlying hu, Result.andThen_ok, run_sz hi]
  rw [if_neg (by omega)]
  by_cases h0 : n * i.size = 0
  · have hr0 : (Array.range (n * i.size)).map ((#[] : Array Value)[· % (#[] : Array Value).size]!) = (Array.range (n * i.size)).map (z.cells[· % z.cells.size]!) := by rw [h0]; simp
    rw [if_pos h0]
    simp only [Sem.run_bind, Sem.run_pure, Result.andThen_ok]
    rw [hr0, e1]
    simp [newRow]
  · rw [if_neg h0]
    simp only [zeroValue, Sem.run_bind, run_typeInfo w hi, Result.andThen_ok, hzz, Sem.run_pure]
    rw [e1]
    simp [newRow]
theorem lit_len {sz : Nat} : ∀ l : List (Nat × Value), (∀ x ∈ l, x.2.cells.size = sz) → (l.flatMap fun x => x.2.cells.toList).length = l.length * sz
  | [], _ => by simp
  | x :: l, hx => by
    have h1 := lit_len l (fun y hy => hx y (by simp [hy]))
    have h0 := hx x (by simp)
    simp only [List.flatMap_cons, List.length_append, List.length_cons, h1, Array.length_toList, h0, Nat.add_mul]
    omega
variable (hH : HRel (mine pin base) w base ρ h)
include hH
variable (hop : ∀ x, V (vw w base ρ h) (ev t x) (a.eval x))
include hop
theorem good_buildSlice {ty : TypeId} {n : Nat} {parts : Array (Nat × Operand)} (ho : o.op = .buildSlice ty n parts) : Good P pin base gg o a w ρ h fun _ K => match elemT P ty with
    | some el => match E.ck el with
      | some c =>
        if zOk P el c = true ∧ parts.toList.map (·.1) = List.range n ∧ n ≤ 1000 ∧ (parts.toList.all fun x => (cellsOf (ev t x.2)).length == c.sz && (cellsOf (ev t x.2)).all oneP) = true then
          let z := frzs h (parts.toList.flatMap fun x => cellsOf (ev t x.2))
          match decEs true c n z.1 with
          | some xs => K (.own z.2.length) (z.2 ++ [some (.arr el true c xs)])
          | none => match decEs false c n z.1 with
            | some xs => K (.own z.2.length) (z.2 ++ [some (.arr el false c xs)])
            | none => none
        else none
      | none => none
    | none => none := by
  split
  · rename_i el hel
    split
    · rename_i c hck
      refine Good.ite (fun hc => ?_) (fun _ => Good.none_)
      obtain ⟨hz, hidx, hn, hall⟩ := hc
      obtain ⟨i, z, hi, hzz, his, hzs, hisz⟩ := zOk_some hz
      have hallx : ∀ x ∈ parts.toList, (cellsOf (ev t x.2)).length = c.sz ∧ (cellsOf (ev t x.2)).all oneP = true := by
        intro x hx
        have := List.all_eq_true.1 hall x hx
        simpa using this
      have hlen : parts.toList.length = n := by have := congrArg List.length hidx; simpa using this
      -- the parts' cells
      have hF : F2 (V1 (vw w base ρ h)) (parts.toList.flatMap fun x => cellsOf (ev t x.2)) ((parts.toList.map fun x => (x.1, a.eval x.2)).flatMap fun x => x.2.cells.toList) := by
        have : ∀ l : List (Nat × Operand), (∀ x ∈ l, (cellsOf (ev t x.2)).all oneP = true) → F2 (V1 (vw w base ρ h)) (l.flatMap fun x => cellsOf (ev t x.2)) ((l.map fun x => (x.1, a.eval x.2)).flatMap fun x => x.2.cells.toList) := by
          intro l
          induction l with
          | nil => intro _; exact .nil
          | cons x l ih =>
            intro hl
            simp only [List.flatMap_cons, List.map_cons]
            exact (cells_V1 (hop x.2) (hl x (by simp))).1.app (ih fun y hy => hl y (by simp [hy]))
        exact this _ fun x hx => (hallx x hx).2
      dsimp only
      generalize hfz : frzs h (parts.toList.flatMap fun x => cellsOf (ev t x.2)) = fz
      obtain ⟨qs, h'⟩ := fz
      obtain ⟨ρ1, H1, L1, F1, N1, S1⟩ := frzs_sound hH hfz hF
      have hsize : ∀ x ∈ parts.toList.map (fun x => (x.1, a.eval x.2)), x.2.cells.size = c.sz := by
        intro x hx
        obtain ⟨y, hy, rfl⟩ := List.mem_map.1 hx
        have := (cells_V1 (hop y.2) (hallx y hy).2).1.len
        rw [(hallx y hy).1] at this
        simpa using this.symm
      -- what is made
      obtain ⟨cells', e1, e2⟩ := fill_lit (sz := c.sz) (parts.toList.map fun x => (x.1, a.eval x.2)) 0 (((Array.range (n * c.sz)).map (z.cells[· % z.cells.size]!))) (by simp [List.map_map, Function.comp_def, hidx, hlen]) hsize (by simp [hlen])
      have hlit : cells'.toList = (parts.toList.map fun x => (x.1, a.eval x.2)).flatMap fun x => x.2.cells.toList := by
        rw [e2]; simp [hlen]
      have hcz : n * c.sz ≤ 3000 := by
        have : c.sz ≤ 3 := by cases c <;> decide
        calc n * c.sz ≤ 1000 * 3 := Nat.mul_le_mul hn this
          _ = 3000 := by decide
      have hrun : (Instr.buildSlice ty n (parts.map fun x => (x.1, a.eval x.2))).run P w = .ok (.slice (some ⟨w.heap.size, 0, none⟩) n n) (w.alloc (.cells cells' el)) :=
        run_buildSlice_ (elemT_under hel) hi hzz his (by omega) (by simpa using e1)
      have hcs : cells'.size = n * c.sz := by
        have := congrArg List.length hlit
        rw [Array.length_toList] at this
        rw [this, lit_len _ hsize, List.length_map, hlen]
      have make : ∀ (f : Bool) (xs : List c.T), decEs f c n qs = some xs →
          Res P pin base gg o a w ρ h (.own h'.length) (h' ++ [some (.arr el f c xs)]) := by
        intro f xs hxs
        obtain ⟨d1, d2, _⟩ := decEs_sound hxs F1
        have hown : (w.alloc (.cells cells' el)).ownsRow base el c.sz (.slice (some ⟨w.heap.size, 0, none⟩) n n) xs.length cells'.toList := by
          refine ⟨by rw [d1]; simpa using hcs, .inr ⟨w.heap.size, n, cells', by rw [d1], hH.bs, heap_alloc_new w _, by omega, by unfold maxLen; omega, hcs, ?_⟩⟩
          rw [d1, List.take_of_length_le (by simp; omega)]
        obtain ⟨h1, h2⟩ := H1.arr (H1 := h') (w' := w.alloc (.cells cells' el)) (e := el) (f := f) (c := c) (xs := xs) rfl (fun _ _ h => h) (by simp) (fun k hk _ => heap_alloc_old w _ hk) (fun g hg => by simp [blkOf] at hg; exact .inl (by omega)) hown (fun v' hv' => by
          rw [hlit]
          exact (decEs_sound hxs (F1.imp fun _ _ => V1.le hv')).2.2)
        have hv : V (vw (w.alloc (.cells cells' el)) base (ext ρ1 h'.length [.slice (some ⟨w.heap.size, 0, none⟩) n n]) (h' ++ [some (.arr el f c xs)])) (.own h'.length) (.slice (some ⟨w.heap.size, 0, none⟩) n n) := arr_V (by simp) rfl
        have he : execOp a.eval o = (do pure (.value (← Instr.buildSlice ty n (parts.map fun x => (x.1, a.eval x.2))))) := by simp only [execOp, ho]
        exact Res.val (by rw [ho]; rfl) (exec_v he hrun) h1 (L1.trans h2) hv (Kp.alloc _ hH.bs) (fun _ => Grows.alloc _ _)
      split
      · rename_i xs hxs
        exact Good.now (make true xs hxs)
      · split
        · rename_i xs hxs
          exact Good.now (make false xs hxs)
        · exact Good.none_
    · exact Good.none_
  · exact Good.none_
end
end FN

namespace FN
open Go Go.RowKit
def goK {R : Type} (lo hi : Option PV) (n : Nat) (k : Nat → Nat → Option R) : Option R :=
  match lo, hi with
  | none, none => k 0 n
  | some (.int _ a), none => if 0 ≤ a ∧ a ≤ n then k a.toNat n else none
  | none, some (.int _ b) => if 0 ≤ b ∧ b ≤ n then k 0 b.toNat else none
  | some (.int _ a), some (.int _ b) => if 0 ≤ b ∧ b ≤ n then (if 0 ≤ a ∧ a ≤ b then k a.toNat b.toNat else none) else none
  | _, _ => none
theorem sliceK_eq {R : Type} {P : Program} {ty : TypeId} {x : PV} {lo hi : Option PV} {h : Hp} {K : PV → Hp → Option R} : sliceK P ty x lo hi h K = match x with
  | .str s => if strTy P ty = true then goK lo hi s.size fun a b => K (.str (s.extract a b)) h else none
  | .row f c xs => if (elemT P ty).map (szOf P) = some c.sz then goK lo hi xs.length fun a b => K (.row f c ((xs.take b).drop a)) h else none
  | .own id => match h.get id with
    | some (.arr _ f c xs) => if (elemT P ty).map (szOf P) = some c.sz then goK lo hi xs.length fun a b => K (.row f c ((xs.take b).drop a)) (h.set id none) else none
    | _ => none
  | _ => none := rfl
section
variable {P : Program} {E : Env'} {gg : Bool} {w : World} {base : Nat} {ρ : Rh} {h : Hp} {pin : Pn} {R : Type} {r : R} {o : Oper} {a : Act} {t : List PV}
theorem run_bounds {P : Program} {w : World} {isS : Bool} {n cap : Nat} {lo hi : Option Value} {l hh : Nat} (hl : (match hi with | some v => Instr.sliceBound v cap (if isS then .sliceAcap else .sliceAlen) | none => (pure n : Sem Nat)).run P w = .ok hh w)
    (h2 : (match lo with | some v => Instr.sliceBound v hh (if (none : Option Value).isSome then .slice3C else .sliceB) | none => (pure 0 : Sem Nat)).run P w = .ok l w) : (Instr.sliceBounds isS n cap lo hi none).run P w = .ok (l, hh, cap) w := by
  cases lo <;> cases hi <;> simp_all [Instr.sliceBounds]
theorem go_cases {v : Vw} (hop : ∀ x, V v (ev t x) (a.eval x)) (lo hi : Option Operand) (n : Nat) :
    (∀ (R : Type) (k : Nat → Nat → Option R), goK (lo.map (ev t)) (hi.map (ev t)) n k = none) ∨
    ∃ x y, x ≤ y ∧ y ≤ n ∧ (∀ (R : Type) (k : Nat → Nat → Option R), goK (lo.map (ev t)) (hi.map (ev t)) n k = k x y) ∧
      ∀ (w : World) isS cap, n ≤ cap → (Instr.sliceBounds isS n cap (lo.map a.eval) (hi.map a.eval) none).run P w = .ok (x, y, cap) w := by
  have hint : ∀ (x : Operand), (∃ k m, ev t x = .int k m ∧ a.eval x = .int k m) ∨ (∀ k m, ev t x ≠ .int k m) := by
    intro x
    have := hop x
    cases hx : ev t x
    case int k m => rw [hx] at this; simp only [V, V2, V1] at this; exact .inl ⟨k, m, rfl, this⟩
    all_goals exact .inr (fun _ _ h => by cases h)
  cases lo with
  | none =>
    cases hi with
    | none => exact .inr ⟨0, n, Nat.zero_le _, Nat.le_refl _, fun _ _ => rfl, fun w isS cap _ => run_bounds (by simp) (by simp)⟩
    | some y =>
      rcases hint y with ⟨k, m, e1, e2⟩ | hno
      · by_cases hc : 0 ≤ m ∧ m ≤ n
        · refine .inr ⟨0, m.toNat, Nat.zero_le _, by omega, fun _ _ => by simp [goK, e1, hc], fun w isS cap hcap => run_bounds (by simp only [Option.map_some, e2]; exact run_sliceBound _ _ _ _ _ hc.1 (by omega)) (by simp)⟩
        · exact .inl fun _ _ => by simp [goK, e1, hc]
      · refine .inl fun _ _ => ?_
        simp only [goK, Option.map_some, Option.map_none]
        split <;> first | rfl | (rename_i e; simp at e; done) | (rename_i e; injection e with e; exact absurd e (hno _ _)) | skip
        all_goals simp_all
  | some x =>
    rcases hint x with ⟨k, m, e1, e2⟩ | hno
    · cases hi with
      | none =>
        by_cases hc : 0 ≤ m ∧ m ≤ n
        · refine .inr ⟨m.toNat, n, by omega, by omega, fun _ _ => by simp [goK, e1, hc], fun w isS cap hcap => run_bounds (hh := n) (by simp) (by simp only [Option.map_some, e2]; exact run_sliceBound _ _ _ _ _ hc.1 (by omega))⟩
        · exact .inl fun _ _ => by simp [goK, e1, hc]
      | some y =>
        rcases hint y with ⟨k', m', e1', e2'⟩ | hno
        · by_cases hc : 0 ≤ m' ∧ m' ≤ n
          · by_cases hc' : 0 ≤ m ∧ m ≤ m'
            · refine .inr ⟨m.toNat, m'.toNat, by omega, by omega, fun _ _ => by simp [goK, e1, e1', hc, hc'], fun w isS cap hcap => run_bounds (hh := m'.toNat) (by simp only [Option.map_some, e2']; exact run_sliceBound _ _ _ _ _ hc.1 (by omega)) (by simp only [Option.map_some, e2]; exact run_sliceBound _ _ _ _ _ hc'.1 (by omega))⟩
            · exact .inl fun _ _ => by simp [goK, e1, e1', hc, hc']
          · exact .inl fun _ _ => by simp [goK, e1, e1', hc]
        · refine .inl fun _ _ => ?_
          simp only [goK, Option.map_some]
          split <;> first | rfl | skip
          all_goals simp_all
    · refine .inl fun _ _ => ?_
      cases hi <;> simp only [goK, Option.map_some, Option.map_none]
      all_goals split <;> first | rfl | skip
      all_goals simp_all
theorem RdAt.sub {W : World} {ok : Nat → Prop} {ad : Addr} {c : CK} {xs : List c.T} (h : RdAt W ok ad c xs) (x y : Nat) : RdAt W ok (ad.add (x * c.sz)) c ((xs.take y).drop x) := by
  obtain ⟨h1, h2, h3⟩ := h
  refine ⟨by rw [Addr.add_block]; exact h1, by rw [Addr.add_block]; exact h2, fun j z hj => ?_⟩
  rw [List.getElem?_drop] at hj
  have hj' : xs[x + j]? = some z := by
    rw [List.getElem?_take] at hj
    split at hj
    · exact hj
    · cases hj
  obtain ⟨cs, e1, e2⟩ := h3 _ z hj'
  refine ⟨cs, e1, fun i u hi => ?_⟩
  rw [Addr.add_add, ← Nat.add_assoc, ← Nat.add_mul]
  exact e2 i u hi
theorem SlR.sub {W : World} {ok : Nat → Prop} {c : CK} {xs : List c.T} {A : Option Addr} {n cp x y : Nat} (h : SlR W ok c xs (.slice A n cp)) (h1 : x ≤ y) (h2 : y ≤ xs.length) : n = xs.length ∧ xs.length ≤ cp ∧ SlR W ok c ((xs.take y).drop x) (.slice (if cp = x then A else A.map (·.add (x * c.sz))) (y - x) (cp - x)) := by
  obtain ⟨A', cp', e, h3, h4, h5⟩ := h
  injection e with e1 e2 e3
  subst e1; subst e2; subst e3
  have hl : ((xs.take y).drop x).length = y - x := by simp; omega
  refine ⟨rfl, h3, if cp = x then A else A.map (·.add (x * c.sz)), cp - x, by rw [hl], by rw [hl]; omega, by rw [hl]; omega, fun hn => ?_⟩
  have hn' : 0 < y - x := by
    rcases Nat.eq_zero_or_pos (y - x) with e | e
    · exact absurd (List.eq_nil_of_length_eq_zero (hl.trans e)) hn
    · exact e
  obtain ⟨ad, rfl, hr⟩ := h5 (fun e => by subst e; simp at h2; omega)
  rw [if_neg (by omega)]
  exact ⟨_, rfl, hr.sub x y⟩
theorem run_slice_sl {ty el : TypeId} {c : CK} {A : Option Addr} {n cp x y : Nat} {lo hi : Option Value} (hu : elemT P ty = some el) (hs : szOf P el = c.sz) (hb : (Instr.sliceBounds true n cp lo hi none).run P w = .ok (x, y, cp) w) :
    (Instr.sliceAt ty (.slice A n cp) lo hi none).run P w = .ok (.slice (if cp = x then A else A.map (·.add (x * c.sz))) (y - x) (cp - x)) w := by
  have hu' := elemT_under hu
  obtain ⟨i, hi, his⟩ := szOf_pos (P := P) (t := el) (by rw [hs]; have := c.sz_pos; omega)
  simp only [Instr.sliceAt, Sem.run_bind, run_underlying hu', Result.andThen_ok, Instr.slice, hb, run_sz hi, his, hs, Sem.run_pure]
theorem strTy_under {ty : TypeId} (h : strTy P ty = true) : P.underlying ty = some .string := by
  unfold strTy at h
  split at h
  · assumption
  · cases h
theorem run_slice_str {ty : TypeId} {s : ByteArray} {x y : Nat} {lo hi : Option Value} (hu : strTy P ty = true) (hb : (Instr.sliceBounds false s.size s.size lo hi none).run P w = .ok (x, y, s.size) w) :
    (Instr.sliceAt ty (.string s) lo hi none).run P w = .ok (.string (s.extract x y)) w := by
  have hu' := strTy_under hu
  simp only [Instr.sliceAt, Sem.run_bind, run_underlying hu', Result.andThen_ok, Instr.slice, hb, Sem.run_pure, Option.isSome_none, Bool.false_eq_true, if_false]
variable (hH : HRel (mine pin base) w base ρ h)
include hH
variable (hop : ∀ x, V (vw w base ρ h) (ev t x) (a.eval x))
include hop
theorem good_slice {ty : TypeId} {x : Operand} {lo hi : Option Operand} (ho : o.op = .slice ty x lo hi none) : Good P pin base gg o a w ρ h fun _ K => sliceK P ty (ev t x) (lo.map (ev t)) (hi.map (ev t)) h K := by
  have he : execOp a.eval o = (do pure (.value (← Instr.sliceAt ty (a.eval x) (lo.map a.eval) (hi.map a.eval) none))) := by simp only [execOp, ho, Option.map_none]
  have hx := hop x
  simp only [sliceK_eq]
  split
  · rename_i s hb
    rw [hb] at hx
    simp only [V, V2, V1] at hx
    refine Good.ite (fun hc => ?_) (fun _ => Good.none_)
    rcases go_cases (P := P) hop lo hi s.size with hno | ⟨x', y', h1, h2, h3, h4⟩
    · exact Good.none_.eq fun _ _ => hno _ _
    · refine (Good.now ?_).eq fun _ _ => h3 _ _
      rw [hx] at he
      exact Res.same hH (fun w => exec_v he (run_slice_str hc (h4 w false s.size (Nat.le_refl _)))) (by simp [V, V2, V1])
  · rename_i f c xs hb
    rw [hb] at hx
    refine Good.ite (fun hc => ?_) (fun _ => Good.none_)
    rcases go_cases (P := P) hop lo hi xs.length with hno | ⟨x', y', h1, h2, h3, h4⟩
    · exact Good.none_.eq fun _ _ => hno _ _
    · refine (Good.now ?_).eq fun _ _ => h3 _ _
      have hx' : SlR w ((vw w base ρ h).okf f) c xs (a.eval x) := hx
      obtain ⟨el, hel, hsz⟩ := Option.map_eq_some_iff.1 hc
      obtain ⟨A, cp, hu, hcp, _⟩ := id hx'
      rw [hu] at hx' he
      obtain ⟨_, hcp', hs⟩ := hx'.sub h1 h2
      exact Res.same hH (fun w => exec_v he (run_slice_sl hel hsz (h4 w true cp hcp))) (show V (vw w base ρ h) (.row f c _) _ from hs)
  · rename_i id hb
    rw [hb] at hx
    split
    · rename_i e f c xs hg
      refine Good.ite (fun hc => ?_) (fun _ => Good.none_)
      rcases go_cases (P := P) hop lo hi xs.length with hno | ⟨x', y', h1, h2, h3, h4⟩
      · exact Good.none_.eq fun _ _ => hno _ _
      · refine (Good.now ?_).eq fun _ _ => h3 _ _
        obtain ⟨ρ1, H1, L1, F1, N1, S1⟩ := frz_sound hH (p := .own id) (q := .row f c xs) (H' := h.set id none) (by simp [frz, hg]) (show V1 _ _ _ from hx)
        have hx' : SlR w ((vw w base ρ1 (h.set id none)).okf f) c xs (a.eval x) := F1
        obtain ⟨el, hel, hsz⟩ := Option.map_eq_some_iff.1 hc
        obtain ⟨A, cp, hu, hcp, _⟩ := _root_.id hx'
        rw [hu] at hx' he
        obtain ⟨_, hcp', hs⟩ := hx'.sub h1 h2
        exact Res.valM (by rw [ho]; rfl) (fun w => exec_v he (run_slice_sl hel hsz (h4 w true cp hcp))) H1 L1 (show V (vw w base ρ1 (h.set id none)) (.row f c _) _ from hs)
    · exact Good.none_
  · exact Good.none_
theorem good_sliceO {ty : TypeId} {x : Operand} {lo hi : Option Operand} (ho : o.op = .slice ty x lo hi none) : Good P pin base gg o a w ρ h fun _ K => sliceO P ty (ev t x) (lo.map (ev t)) (hi.map (ev t)) h K := by
  have main := good_slice (P := P) (gg := gg) hH hop ho
  have he : execOp a.eval o = (do pure (.value (← Instr.sliceAt ty (a.eval x) (lo.map a.eval) (hi.map a.eval) none))) := by simp only [execOp, ho, Option.map_none]
  have hx := hop x
  cases hxe : ev t x
  case own id =>
    rw [hxe] at hx main
    cases lo with
    | some l => cases hi <;> exact main
    | none =>
      cases hi with
      | none => exact main
      | some y =>
        have hy := hop y
        cases hye : ev t y
        case int k b =>
          rw [hye] at hy
          have hy' : a.eval y = .int k b := hy
          simp only [sliceO, Option.map_none, Option.map_some, hye]
          split
          · rename_i e f c xs hg
            refine Good.ite (fun hc => ?_) (fun _ => Good.none_)
            refine Good.ite (fun hb => ?_) (fun _ => Good.none_)
            refine Good.now ?_
            obtain ⟨el, hel, hsz⟩ := Option.map_eq_some_iff.1 hc
            obtain ⟨inner, hown, harr⟩ := hH.blk id _ hg
            obtain ⟨hid, hu, _⟩ := (show V1 (vw w base ρ h) (.own id) (a.eval x) from hx)
            have hu' : a.eval x = ρ id := hu
            have hbnd : ∀ (w : World) cap, xs.length ≤ cap → (Instr.sliceBounds true xs.length cap none (some (a.eval y)) none).run P w = .ok (0, b.toNat, cap) w := fun w cap hcap =>
              run_bounds (by simp only [hy']; exact run_sliceBound _ _ _ _ _ hb.1 (by omega)) (by simp)
            have hil : inner.length = xs.length * c.sz := hown.1
            have hlt : (xs.take b.toNat).length = b.toNat := by simp; omega
            have hmul : b.toNat * c.sz ≤ xs.length * c.sz := Nat.mul_le_mul_right _ (by omega)
            obtain ⟨A, cp, hρ, hcp, hown'⟩ : ∃ A cp, ρ id = .slice A xs.length cp ∧ xs.length ≤ cp ∧ w.ownsRow base e c.sz (.slice A b.toNat cp) b.toNat (inner.take (b.toNat * c.sz)) := by
              rcases hown.2 with ⟨h1, h2⟩ | ⟨g, cap, cur, h1, h2, h3, h4, h5, h6, h7⟩
              · have hb0 : b.toNat = 0 := by omega
                refine ⟨none, 0, by rw [h2]; exact h1, by omega, ?_, .inl ⟨by rw [hb0], hb0⟩⟩
                rw [hb0]; simp
              · refine ⟨_, cap, h1, h4, by rw [List.length_take]; omega, .inr ⟨g, cap, cur, rfl, h2, h3, by omega, h5, h6, ?_⟩⟩
                rw [← h7, List.take_take, Nat.min_eq_left hmul]
            have harr' : ∀ v', (vw w base ρ h).Le v' → ArrR v' f c (xs.take b.toNat) (inner.take (b.toNat * c.sz)) := by
              intro v' hl j z hj
              rw [List.getElem?_take] at hj
              split at hj
              · rename_i hjb
                obtain ⟨cs, h1, h2⟩ := harr j z hj
                refine ⟨cs, h1.tr (hl.okf f), fun i u hi => ?_⟩
                have hi' : i < c.sz := by have := (List.getElem?_eq_some_iff.1 hi).1; have := h1.len; omega
                have : j * c.sz + i < b.toNat * c.sz := by
                  have := Nat.mul_le_mul_right c.sz (show j + 1 ≤ b.toNat by omega)
                  rw [Nat.add_mul, Nat.one_mul] at this
                  omega
                rw [List.getElem?_take, if_pos this]
                exact h2 i u hi
              · cases hj
            have hsub : ∀ i b, (Hp.get (h.set id none) i) = some b → h.get i = some b := fun i b hb' => by
              rw [Hp.get_set] at hb'
              split at hb'
              · cases hb'
              · exact hb'
            obtain ⟨h1, h2⟩ := hH.arr (H1 := h.set id none) (w' := w) (v := .slice A b.toNat cp) (e := e) (f := f) (c := c) (xs := xs.take b.toNat) (inner := inner.take (b.toNat * c.sz)) (by simp) hsub (Nat.le_refl _) (fun k _ _ => rfl) (fun g hg' => by
              refine .inr ⟨id, by rw [hg]; simp, by rw [Hp.get_set, if_pos ⟨rfl, Hp.get_lt (by rw [hg]; simp)⟩], ?_⟩
              rw [hρ]
              cases A with
              | none => cases hg'
              | some ad => exact hg') (by rw [hlt]; exact hown') harr'
            have hV : V (vw w base (ext ρ h.length [.slice A b.toNat cp]) (h.set id none ++ [some (.arr e f c (xs.take b.toNat))])) (.own h.length) (.slice A b.toNat cp) := arr_V (by simp) (own_one hown')
            refine Res.valM (by rw [ho]; rfl) (fun w' => ?_) h1 h2 hV
            have hrun := run_slice_sl (P := P) (w := w') (A := A) (n := xs.length) (cp := cp) (x := 0) (y := b.toNat) (lo := none) (hi := some (a.eval y)) hel hsz (hbnd w' cp hcp)
            rw [hu', hρ] at he
            have hA : (if cp = 0 then A else A.map (·.add (0 * c.sz))) = A := by
              split
              · rfl
              · cases A with
                | none => rfl
                | some ad => simp [Addr.add]
            rw [hA, Nat.sub_zero, Nat.sub_zero] at hrun
            exact exec_v he hrun
          · exact Good.none_
        all_goals (rw [Option.map_some, hye] at main ⊢; exact main)
  all_goals (rw [hxe] at main; exact main)
theorem good_slice3 {ty : TypeId} {x hi mx : Operand} {lo : Option Operand} (ho : o.op = .slice ty x lo (some hi) (some mx)) : Good P pin base gg o a w ρ h fun _ K => slice3K P ty (ev t x) (lo.map (ev t)) (ev t hi) (ev t mx) h K := by
  have he : execOp a.eval o = (do pure (.value (← Instr.sliceAt ty (a.eval x) (lo.map a.eval) (some (a.eval hi)) (some (a.eval mx))))) := by simp only [execOp, ho, Option.map_some]
  have hx := hop x
  have hh := hop hi
  have hm := hop mx
  unfold slice3K
  split
  · rename_i f c xs kb b km m e1 e2 e3 e4
    rw [e1] at hx
    rw [e3] at hh
    rw [e4] at hm
    simp only [V, V2, V1] at hh hm
    have hlo : lo = none := by cases lo <;> simp at e2 ⊢
    subst hlo
    refine Good.ite (fun hc => Good.ite (fun hb => ?_) (fun _ => Good.none_)) (fun _ => Good.none_)
    obtain ⟨b0, b1, b2⟩ := hb
    have hx' : SlR w ((vw w base ρ h).okf f) c xs (a.eval x) := hx
    obtain ⟨el, hel, hsz⟩ := Option.map_eq_some_iff.1 hc
    obtain ⟨A, cp, hu, hcp, hml, hr⟩ := id hx'
    have hel' := elemT_under hel
    obtain ⟨i, hi', his⟩ := szOf_pos (P := P) (t := el) (by rw [hsz]; have := c.sz_pos; omega)
    have hbnd : ∀ w, (Instr.sliceBounds true xs.length cp none (some (a.eval hi)) (some (a.eval mx))).run P w = .ok (0, b.toNat, m.toNat) w := by
      intro w
      rw [hh, hm]
      simp only [Instr.sliceBounds, Sem.run_bind]
      first
        | (rw [run_sliceBound _ _ _ _ _ (show 0 ≤ m by omega) (show m ≤ (cp : Int) by omega)]; simp only [Result.andThen_ok]; rw [run_sliceBound _ _ _ _ _ b0 (show b ≤ (m.toNat : Int) by omega)]; simp)
    have hrun : ∀ w, (Instr.sliceAt ty (a.eval x) none (some (a.eval hi)) (some (a.eval mx))).run P w = .ok (.slice (if m.toNat = 0 then A else A.map (·.add (0 * c.sz))) (b.toNat - 0) (m.toNat - 0)) w := by
      intro w
      rw [hu]
      simp only [Instr.sliceAt, Sem.run_bind, run_underlying hel', Result.andThen_ok, Instr.slice, hbnd w, run_sz hi', his, hsz, Sem.run_pure]
    refine Good.ite (fun h0 => Good.now (Res.same hH (fun w => exec_v he (hrun w)) ?_)) (fun h0 => Good.now (Res.same hH (fun w => exec_v he (hrun w)) ?_))
    · have : b = 0 := by omega
      subst h0; subst this
      exact ⟨A, rfl⟩
    · rw [if_neg (by omega)]
      have hA : A.map (·.add (0 * c.sz)) = A := by
        cases A with
        | none => rfl
        | some ad => simp [Addr.add]
      rw [hA, Nat.sub_zero, Nat.sub_zero]
      have hl : (xs.take b.toNat).length = b.toNat := by rw [List.length_take]; omega
      refine ⟨A, m.toNat, by rw [hl], by rw [hl]; omega, by rw [hl]; omega, fun hne => ?_⟩
      obtain ⟨ad, rfl, q1, q2, q3⟩ := hr (by rintro rfl; simp at hne)
      refine ⟨ad, rfl, q1, q2, fun j y hj => ?_⟩
      rw [List.getElem?_take] at hj
      split at hj
      · exact q3 j y hj
      · cases hj
  · exact Good.none_
end
end FN

namespace FN
open Go Go.RowKit
section
variable {P : Program} {E : Env'} {gg : Bool} {w : World} {base : Nat} {ρ : Rh} {h : Hp} {pin : Pn} {R : Type} {r : R} {o : Oper} {a : Act} {t : List PV}
theorem ArrR.le {v v' : Vw} (hl : v.Le v') {f : Bool} {c : CK} {xs : List c.T} {inner : List Value} (h : ArrR v f c xs inner) : ArrR v' f c xs inner := by
  intro j y hj
  obtain ⟨cs, e1, e2⟩ := h j y hj
  exact ⟨cs, e1.tr (hl.okf f), e2⟩
theorem ArrR.one {v : Vw} {f : Bool} {c : CK} {xs : List c.T} {inner : List Value} (h : ArrR v f c xs inner) (hl : inner.length = xs.length * c.sz) : ∀ z ∈ inner, z.oneCell' = true := by
  intro z hz
  obtain ⟨i, hi⟩ := List.getElem?_of_mem hz
  have hp := c.sz_pos
  have hil : i < xs.length * c.sz := by rw [← hl]; exact (List.getElem?_eq_some_iff.1 hi).1
  have hj : i / c.sz < xs.length := Nat.div_lt_of_lt_mul (by rw [Nat.mul_comm]; exact hil)
  obtain ⟨cs, e1, e2⟩ := h (i / c.sz) _ (List.getElem?_eq_getElem hj)
  have hr : i % c.sz < cs.length := by rw [e1.len]; exact Nat.mod_lt _ hp
  have := e2 (i % c.sz) _ (List.getElem?_eq_getElem hr)
  rw [Nat.mul_comm, Nat.div_add_mod, hi] at this
  injection this with this
  rw [this]
  exact e1.one _ (List.getElem_mem hr)
def NewsR (w : World) (v : Vw) (f : Bool) (c : CK) (ys : List c.T) (u : Value) : Prop :=
  ∃ A cp, u = .slice A ys.length cp ∧ ys.length ≤ maxLen ∧ (ys = [] ∨ ∃ (ad : Addr) (news : List Value), A = some ad ∧ news.length = ys.length * c.sz ∧ (∀ (j : Nat) z, news[j]? = some z → w.cell? (ad.add j) = some z) ∧ (∀ z ∈ news, z.oneCell' = true) ∧ ArrR v f c ys news)
theorem ElR.flat {W : World} {ok ok' : Nat → Prop} {c : CK} (hc : c.flat = true) {x : c.T} {cs : List Value} (h : ElR W ok c x cs) : ElR W ok' c x cs := by
  cases c <;> first | (cases hc; done) | exact h
theorem ArrR.flat {v : Vw} {f : Bool} {c : CK} {xs : List c.T} {inner : List Value} (h : ArrR v f c xs inner) : ArrR v (f || c.flat) c xs inner := by
  cases hc : c.flat with
  | false => rw [Bool.or_false]; exact h
  | true =>
    intro j y hj
    obtain ⟨cs, e1, e2⟩ := h j y hj
    exact ⟨cs, e1.flat hc, e2⟩
theorem NewsR.flat {w : World} {v : Vw} {f : Bool} {c : CK} {ys : List c.T} {u : Value} (h : NewsR w v f c ys u) : NewsR w v (f || c.flat) c ys u := by
  obtain ⟨B, cp, h1, h2, h3⟩ := h
  refine ⟨B, cp, h1, h2, h3.imp id ?_⟩
  rintro ⟨ad, news, g1, g2, g3, g4, g5⟩
  exact ⟨ad, news, g1, g2, g3, g4, g5.flat⟩
theorem seen_cells (hH : HRel (mine pin base) w base ρ h) {H1 : Hp} (hsub : ∀ i b, H1.get i = some b → h.get i = some b) {p : PV} {u : Value} (hv : V (vw w base ρ h) p u) :
    (seen1 H1 p = .nilS → u = .slice none 0 0) ∧ ∀ f c ys, seen1 H1 p = .row f c ys → NewsR w (vw w base ρ h) f c ys u := by
  cases p <;> simp only [seen1] <;> try (first | exact ⟨fun e => PV.noConfusion e, fun _ _ _ e => PV.noConfusion e⟩ | skip)
  case nilS => exact ⟨fun _ => hv, fun _ _ _ e => by cases e⟩
  case row f c xs =>
    refine ⟨fun e => (by cases e), fun f' c' ys e => ?_⟩
    injection e with e1 e2 e3
    subst e1; subst e2
    have e3 := eq_of_heq e3
    subst e3
    have hs : SlR w ((vw w base ρ h).okf f) c xs u := hv
    obtain ⟨A, cp, hu, hm, hc⟩ := hs.cells
    refine ⟨A, cp, hu, hm, ?_⟩
    rcases hc with hc | ⟨ad, news, h1, h2, h3, h4, h5⟩
    · exact .inl hc
    · exact .inr ⟨ad, news, h1, h2, h3, h4, h5⟩
  case own id =>
    cases hb : H1.get id with
    | none => exact ⟨fun e => by simp at e, fun _ _ _ e => by simp at e⟩
    | some b =>
      cases b with
      | box => exact ⟨fun e => by simp at e, fun _ _ _ e => by simp at e⟩
      | arr el f c xs =>
        refine ⟨fun e => by simp at e, fun f' c' ys e => ?_⟩
        simp only at e
        injection e with e1 e2 e3
        subst e1; subst e2
        have e3 := eq_of_heq e3
        subst e3
        obtain ⟨inner, hown, ha⟩ := hH.blk id _ (hsub _ _ hb)
        have hu : u = ρ id := hv.2.1
        rcases hown.2 with ⟨h0, hn⟩ | ⟨g, cap, cur, hv', hbg, hh, hle, hm, hsz, htk⟩
        · have : xs = [] := List.eq_nil_of_length_eq_zero hn
          subst this
          exact ⟨none, 0, by rw [hu, h0]; rfl, Nat.zero_le _, .inl rfl⟩
        · exact ⟨_, cap, hu.trans hv', Nat.le_trans hle hm, .inr ⟨_, inner, rfl, hown.1, fun j z hj => hown.cells (g := g) (hv' ▸ rfl) j z hj, ha.one hown.1, ha⟩⟩
theorem exec_append {s x : Operand} {ty : TypeId} {as : Array Operand} {ts : Array TypeId} (ho : o.op = .call { callee := .builtin .append, args := as, argTypes := ts }) (ha : as.toList = [s, x]) (ht : ts.toList = [ty, ty]) {v : Value} {w' : World} (hr : (Builtin.append_ #[ty, ty] o.type #[a.eval s, a.eval x]).run P w = .ok v w') :
    (execOp a.eval o).run P w = .ok (.value v) w' := by
  have e1 : as = #[s, x] := argTypes_len ha
  have e2 : ts = #[ty, ty] := by rw [← Array.toArray_toList (xs := ts), ht]
  subst e1; subst e2
  simp only [execOp, ho, resolve, invoke, builtin, Sem.run_bind, Sem.run_pure, Result.andThen_ok, List.map_toArray, List.map_cons, List.map_nil, hr]
theorem run_append_zero {t ty e : TypeId} {i : TypeInfo} (ht : P.underlying t = some (.slice e)) (hi : P.info? e = some i) {A B : Option Addr} {n c m : Nat} (hle : n ≤ c) :
    (Builtin.append_ #[t, t] ty #[.slice A n c, .slice B 0 m]).run P w = .ok (.slice A n c) w := by
  cases A <;> cases B <;> simp [Builtin.append_, run_underlying ht, Go.sizeOf, typeInfo, hi, Builtin.lenOf, Builtin.firstCells, loadCells, loadCellsFrom, hle, storeCells]
/-- A slice of no capacity takes more as nil does. -/
theorem run_append_emp {t ty e : TypeId} {i : TypeInfo} (ht : P.underlying t = some (.slice e)) (hi : P.info? e = some i) {A B : Option Addr} {c m : Nat} (hm : 0 < m) {v : Value} {w' : World}
    (h : (Builtin.append_ #[t, t] ty #[.slice none 0 0, .slice B m c]).run P w = .ok v w') : (Builtin.append_ #[t, t] ty #[.slice A 0 0, .slice B m c]).run P w = .ok v w' := by
  cases A with
  | none => exact h
  | some ad =>
    have hn : ¬ (0 + m ≤ 0) := by omega
    simp only [Builtin.append_, Sem.run_bind] at h ⊢
    simp [run_underlying ht, Go.sizeOf, typeInfo, hi, Builtin.lenOf, Builtin.firstCells, loadCells, loadCellsFrom, hn, Nat.ne_of_gt hm] at h ⊢
    by_cases h1 : 9223372036854775807 < (m : Int) ∧ i.bytes = 0
    · rw [if_pos h1] at h
      simp [runtimePanic, Result.andThen] at h
    · rw [if_neg h1] at h ⊢
      by_cases h2 : 281474976710656 < Builtin.nextslicecap m 0 * i.bytes
      · exfalso
        rw [if_pos h2] at h
        revert h
        generalize (Sem.run P (Builtin.mayShare i.size 0 m none (Value.slice B m c)) w) = r
        intro h
        cases r <;> simp [Result.andThen] at h
      · rw [if_neg h2] at h ⊢
        exact h
theorem castRow_some {c c' : CK} {xs : List c'.T} {ys : List c.T} (h : castRow (c := c) xs = some ys) : ∃ e : c' = c, ys = e ▸ xs := by
  unfold castRow at h
  split at h
  · rename_i e
    injection h with h
    exact ⟨e, h.symm⟩
  · cases h
variable (hgg : gg = false) (hH : HRel (mine pin base) w base ρ h)
include hgg hH
/-- A row of the call's own takes more. -/
theorem good_app2 {s x : Operand} {ty el e : TypeId} {as : Array Operand} {ts : Array TypeId} (ho : o.op = .call { callee := .builtin .append, args := as, argTypes := ts }) (ha : as.toList = [s, x]) (ht : ts.toList = [ty, ty]) (hel : elemT P ty = some el)
    {y : PV} {H1 : Hp} (hl : H1.length = h.length) (hsub : ∀ i b, H1.get i = some b → h.get i = some b) {f : Bool} {c : CK} {xs : List c.T} {v : Value} {inner : List Value}
    (hv : a.eval s = v ∨ ((∃ A, a.eval s = .slice A 0 0) ∧ v = .slice none 0 0 ∧ ∃ f' c' ys, y = .row f' c' ys ∧ 0 < ys.length)) (hown : w.ownsRow base e c.sz v xs.length inner) (harr : ArrR (vw w base ρ h) f c xs inner)
    (hblk : ∀ g, blkOf v = some g → ∃ i, h.get i ≠ none ∧ H1.get i = none ∧ blkOf (ρ i) = some g)
    (hy0 : y = .nilS → a.eval x = .slice none 0 0) (hy : ∀ f' c' ys, y = .row f' c' ys → NewsR w (vw w base ρ h) f' c' ys (a.eval x)) : Good P pin base gg o a w ρ h fun _ K => app2K P el e f c xs y H1 K := by
  unfold app2K
  refine Good.ite (fun hc => ?_) (fun _ => Good.none_)
  obtain ⟨rfl, hz, hby⟩ := hc
  obtain ⟨i, z, hi, hzz, his, hzs, hisz⟩ := zOk_some hz
  have hun := elemT_under hel
  have hbytes : bytesOfE P e = i.bytes := by simp [bytesOfE, hi]
  have hle : ∃ A cp, v = .slice A xs.length cp ∧ xs.length ≤ cp ∧ cp ≤ maxLen := by
    rcases hown.2 with ⟨h0, hn⟩ | ⟨g, cap, cur, hv', hbg, hh, hle, hm, hsz, htk⟩
    · exact ⟨none, 0, by rw [h0, hn], by omega, Nat.zero_le _⟩
    · exact ⟨_, cap, hv', hle, hm⟩
  obtain ⟨A, cp, hve, hlecp, hcpm⟩ := hle
  -- nothing is added
  have zero : ∀ (B : Option Addr) (m : Nat) (ys : List c.T) (g : Bool), ys = [] → (g = true → f = true) → a.eval s = v → a.eval x = .slice B 0 m → Res P pin base gg o a w ρ h (.own H1.length) (H1 ++ [some (.arr e g c (xs ++ ys))]) := by
    intro B m ys g hys hg hv hx
    subst hys
    rw [List.append_nil]
    have hrun : (Builtin.append_ #[ty, ty] o.type #[a.eval s, a.eval x]).run P w = .ok v w := by
      rw [hv, hx, hve]; exact run_append_zero hun hi hlecp
    obtain ⟨h1, h2⟩ := hH.arr (H1 := H1) (w' := w) (v := v) (e := e) (f := g) (c := c) (xs := xs) hl hsub (Nat.le_refl _) (fun k _ _ => rfl) (fun g hg => .inr (hblk g hg)) hown (fun v' hv' => by
      intro j y hj
      obtain ⟨cs, e1, e2⟩ := harr.le hv' j y hj
      exact ⟨cs, e1.tr ⟨Nat.le_refl _, fun k hk _ => ⟨rfl, hk.1, fun hh => hk.2 (hg hh)⟩⟩, e2⟩)
    have hV : V (vw w base (ext ρ h.length [v]) (H1 ++ [some (.arr e g c xs)])) (.own h.length) v := arr_V (by simp [hl]) (own_one hown)
    rw [hl]
    exact Res.val (by rw [ho]; rfl) (exec_append ho ha ht hrun) h1 h2 hV (Kp.refl _ _ _) (fun _ => Grows.refl _)
  split
  · have := zero none 0 [] f rfl (fun h => h) (hv.resolve_right (by rintro ⟨_, _, f', c', ys, e, _⟩; cases e)) (hy0 rfl)
    rw [List.append_nil] at this
    exact Good.now this
  · rename_i f' c' ys'
    have hN := hy _ _ _ rfl
    split
    · rename_i ys hcast
      obtain ⟨rfl, rfl⟩ := castRow_some hcast
      refine Good.ite (fun hb => ?_) (fun _ => Good.none_)
      replace hN := hN.flat
      generalize (f' || c'.flat) = f1 at hN ⊢
      obtain ⟨B, cp', hu, hm, hnews⟩ := hN
      rcases hnews with hnil | ⟨ad, news, rfl, hln, hcells, hone, hArr⟩
      · subst hnil
        exact Good.now (zero B cp' [] (f && f1) rfl (fun h => by simp at h; exact h.1) (hv.resolve_right (by rintro ⟨_, _, f', c', ys, e, h⟩; cases e; simp at h)) hu)
      · rw [hbytes] at hb hby
        have hmul : xs.length + ys.length ≤ (xs.length + ys.length) * i.bytes := Nat.le_mul_of_pos_right _ hby
        obtain ⟨v', w', hrun, hown', hgr, _, hat⟩ := run_append_own_at (P := P) w base ty o.type e i z c'.sz i.bytes hun hi hzz his rfl hzs c'.sz_pos v xs.length inner hown ad ys.length cp' news hln hcells hone (by unfold maxLen; omega) hb hH.bs
        have hbv : blkOf v = v.ownBlock := own_blkOf hown
        have hbv' : blkOf v' = v'.ownBlock := own_blkOf hown'
        obtain ⟨h1, h2⟩ := hH.arr (H1 := H1) (w' := w') (v := v') (e := e) (f := f && f1) (c := c') (xs := xs ++ ys) (inner := inner ++ news) hl hsub hgr.size (fun k hk hor => hgr.block k hk (fun hkv => by
            rw [← hbv] at hkv
            obtain ⟨i', hi1, hi2, hi3⟩ := hblk k hkv.symm
            rcases hor with hok | ⟨j, hj1, hj2⟩
            · exact hok.2 i' hi1 hi3
            · have hj1' : h.get j ≠ none := by
                cases hb' : H1.get j with
                | none => exact absurd hb' hj1
                | some b => rw [hsub _ _ hb']; simp
              have := hH.inj j i' hj1' hi1 k hj2 hi3
              subst this
              exact hj1 hi2)) (fun g hg => by
            rw [hbv'] at hg
            rcases hat with hat | hat
            · right; exact hblk g (by rw [hbv, ← hat]; exact hg)
            · left; rw [hat] at hg; injection hg with hg; omega) (by rw [List.length_append]; exact hown') (fun v1 hv1 => (harr.le hv1).app (hArr.le hv1) hown.1)
        have hV : V (vw w' base (ext ρ h.length [v']) (H1 ++ [some (.arr e (f && f1) c' (xs ++ ys))])) (.own h.length) v' := arr_V (by simp [hl]) (own_one hown')
        refine Good.now ?_
        rw [hl]
        refine Res.val (by rw [ho]; rfl) (exec_append ho ha ht (by
          rcases hv with hv | ⟨⟨A0, hv⟩, hvn, _, _, _, hye, hpos⟩
          · rw [hv, hu]; exact hrun
          · rw [hv, hu]
            rw [hvn] at hrun
            cases hye
            exact run_append_emp hun hi hpos hrun)) h1 h2 hV (Kp.grown hgr hH.bs (fun k hk => ?_)) (fun h => by rw [hgg] at h; cases h)
        exact (World.ownsRow.lt hown _ hk).1
    · exact Good.none_
  · exact Good.none_
variable (hop : ∀ x, V (vw w base ρ h) (ev t x) (a.eval x))
include hop
theorem good_append {s x : Operand} {ty : TypeId} {as : Array Operand} {ts : Array TypeId} (ho : o.op = .call { callee := .builtin .append, args := as, argTypes := ts }) (ha : as.toList = [s, x]) (ht : ts.toList = [ty, ty]) : Good P pin base gg o a w ρ h fun _ K => appendK P E ty (ev t s) (ev t x) h K := by
  have hs := hop s
  have hx := hop x
  unfold appendK
  split
  · exact Good.none_
  · rename_i el hel
    split
    · rename_i id hb
      rw [hb] at hs
      split
      · rename_i e f c xs hg
        have hsub : ∀ i b, Hp.get (h.set id none) i = some b → h.get i = some b := fun i b hb' => by
          rw [Hp.get_set] at hb'
          split at hb'
          · cases hb'
          · exact hb'
        obtain ⟨inner, hown, harr⟩ := hH.blk id _ hg
        have hsc := seen_cells hH hsub hx
        exact good_app2 hgg hH ho ha ht hel (by simp) hsub (.inl hs.2.1) hown harr (fun g hg' => ⟨id, by rw [hg]; simp, by rw [Hp.get_set, if_pos ⟨rfl, hs.1⟩], hg'⟩) hsc.1 hsc.2
      · exact Good.none_
    · rename_i hb
      rw [hb] at hs
      split
      · rename_i c hck
        have hsc := seen_cells hH (H1 := h) (fun _ _ h => h) hx
        have hs' : a.eval s = .slice none 0 0 := hs
        exact good_app2 hgg hH ho ha ht hel rfl (fun _ _ h => h) (.inl hs') (World.ownsRow_nil w base el c.sz) (fun j y hj => by simp at hj) (fun g hg => by simp [blkOf] at hg) hsc.1 hsc.2
      · exact Good.none_
    · rename_i hb
      rw [hb] at hs
      split
      · rename_i c f' c' ys hck hys
        refine Good.ite (fun hpos => ?_) (fun _ => Good.none_)
        have hsc := seen_cells hH (H1 := h) (fun _ _ h => h) hx
        rw [hys] at hsc
        exact good_app2 hgg hH ho ha ht hel rfl (fun _ _ h => h) (.inr ⟨hs, rfl, f', c', ys, rfl, hpos⟩) (World.ownsRow_nil w base el c.sz) (fun j y hj => by simp at hj) (fun g hg => by simp [blkOf] at hg) hsc.1 hsc.2
      · exact Good.none_
    · exact Good.none_
end
end FN

namespace FN
open Go Go.RowKit
section
variable {A B : Type}
theorem D.none_ : D (A := A) fun _ _ => none := fun _ _ _ h => by cases h
theorem D.now (a : A) : D fun _ K => K a := fun _ _ _ h => ⟨a, h, fun _ _ => rfl⟩
theorem D.ite {c : Prop} [Decidable c] {F G : (R : Type) → (A → Option R) → Option R} (hF : c → D F) (hG : ¬ c → D G) : D fun R K => if c then F R K else G R K := by
  intro R K r h
  by_cases hc : c
  · simp only [hc, if_true] at h
    obtain ⟨a, h1, h2⟩ := hF hc R K r h
    exact ⟨a, h1, fun R' K' => by simp only [hc, if_true]; exact h2 R' K'⟩
  · simp only [hc, if_false] at h
    obtain ⟨a, h1, h2⟩ := hG hc R K r h
    exact ⟨a, h1, fun R' K' => by simp only [hc, if_false]; exact h2 R' K'⟩
theorem D.cond {c : Bool} {F G : (R : Type) → (A → Option R) → Option R} (hF : D F) (hG : D G) : D fun R K => cond c (F R K) (G R K) := by
  cases c
  · exact hG
  · exact hF
theorem D.condA {c : Bool} {F G : (R : Type) → (A → Option R) → Option R} (hF : D F) (hG : D G) : D fun R K => condA c (F R K) (G R K) := by cases c <;> assumption
theorem D.bind {F : (R : Type) → (A → Option R) → Option R} {G : A → (R : Type) → (B → Option R) → Option R} (hF : D F) (hG : ∀ a, D (G a)) : D fun R K => F R fun a => G a R K := by
  intro R K r h
  obtain ⟨a, h1, h2⟩ := hF R _ r h
  obtain ⟨b, h3, h4⟩ := hG a R K r h1
  exact ⟨b, h3, fun R' K' => (h2 R' _).trans (h4 R' K')⟩
theorem D.obind {o : Option B} {G : B → (R : Type) → (A → Option R) → Option R} (hG : ∀ b, D (G b)) : D fun R K => o.bind fun b => G b R K := by
  cases o with
  | none => exact D.none_
  | some b => exact hG b
theorem D.mono {F : (R : Type) → (A → Option R) → Option R} (hF : D F) {R : Type} {K K' : A → Option R} {r : R} (h : F R K = some r) (hk : ∀ a, K a = some r → K' a = some r) : F R K' = some r := by
  obtain ⟨a, h1, h2⟩ := hF R K r h
  rw [h2]; exact hk a h1
end
section
variable (P : Program) (E : Env')
theorem binK_D (tb ts : Bool) (st : Option (List Nat)) (op : BinOp) (x y : PV) : D fun R (K : PV → Option R) => binK tb ts st op x y K := by
  unfold binK
  split
  all_goals repeat' (first | exact D.none_ | exact D.now _ | refine D.ite (fun _ => ?_) (fun _ => ?_) | split)
theorem unK_D (op : UnOp) (x : PV) : D fun R (K : PV → Option R) => unK op x K := by
  unfold unK
  split
  all_goals repeat' (first | exact D.none_ | exact D.now _ | refine D.ite (fun _ => ?_) (fun _ => ?_))
theorem readK_D (t : TypeId) (cells : List PV) (off : Nat) : D fun R (K : PV → Option R) => readK P t cells off K := by
  unfold readK
  repeat' (first | exact D.none_ | exact D.now _ | refine D.ite (fun _ => ?_) (fun _ => ?_) | split)
theorem loadK_D (t : TypeId) (p : PV) (h : Hp) : D fun R (K : PV → Option R) => loadK P t p h K := by
  unfold loadK
  repeat' (first | exact D.none_ | exact readK_D P _ _ _ | refine D.ite (fun _ => ?_) (fun _ => ?_) | split)
theorem storeK_D (t : TypeId) (p v : PV) (h : Hp) : D fun R (K : Hp → Option R) => storeK P t p v h K := by
  unfold storeK
  dsimp only
  repeat' (first | exact D.none_ | exact D.now _ | refine D.ite (fun _ => ?_) (fun _ => ?_) | split)
theorem lenK_D (ty : TypeId) (x : PV) (h : Hp) : D fun R (K : PV → Option R) => lenK P ty x h K := by
  unfold lenK
  repeat' (first | exact D.none_ | exact D.now _ | refine D.ite (fun _ => ?_) (fun _ => ?_) | split)
def uc {R : Type} {A B : Type} (K : A × B → Option R) (a : A) (b : B) : Option R := K (a, b)
theorem D.now2 {A B : Type} (a : A) (b : B) : D fun R (K : A × B → Option R) => uc K a b := D.now (a, b)
theorem goK_D (lo hi : Option PV) (n : Nat) : D fun R (K : Nat × Nat → Option R) => goK lo hi n (uc K) := by
  unfold goK
  repeat' (first | exact D.none_ | exact D.now2 _ _ | refine D.ite (fun _ => ?_) (fun _ => ?_) | split)
theorem D.comap {A B C : Type} {F : (R : Type) → (A × B → Option R) → Option R} (hF : D F) (f : A → B → C) : D fun R (K : C → Option R) => F R fun x => K (f x.1 x.2) := by
  intro R K r h
  obtain ⟨a, h1, h2⟩ := hF R _ r h
  exact ⟨f a.1 a.2, h1, fun R' K' => h2 R' _⟩
theorem sliceK_D (ty : TypeId) (x : PV) (lo hi : Option PV) (h : Hp) : D fun R (K : PV × Hp → Option R) => sliceK P ty x lo hi h (uc K) := by
  simp only [sliceK_eq]
  split
  · rename_i s
    exact D.ite (fun _ => D.comap (C := PV × Hp) (F := fun R K => goK lo hi _ (uc K)) (goK_D lo hi _) fun a b => (PV.str (s.extract a b), h)) (fun _ => D.none_)
  · rename_i f c xs
    exact D.ite (fun _ => D.comap (C := PV × Hp) (F := fun R K => goK lo hi _ (uc K)) (goK_D lo hi _) fun a b => (PV.row f c ((xs.take b).drop a), h)) (fun _ => D.none_)
  · rename_i id
    split
    · rename_i e f c xs _
      exact D.ite (fun _ => D.comap (C := PV × Hp) (F := fun R K => goK lo hi _ (uc K)) (goK_D lo hi _) fun a b => (PV.row f c ((xs.take b).drop a), h.set id none)) (fun _ => D.none_)
    · exact D.none_
  · exact D.none_
theorem sliceO_D (ty : TypeId) (x : PV) (lo hi : Option PV) (h : Hp) : D fun R (K : PV × Hp → Option R) => sliceO P ty x lo hi h (uc K) := by
  unfold sliceO
  split
  · repeat' (first | exact D.none_ | exact D.now2 _ _ | refine D.ite (fun _ => ?_) (fun _ => ?_) | split)
  · exact sliceK_D P _ _ _ _ _
theorem app2K_D (el e : TypeId) (f : Bool) (c : CK) (xs : List c.T) (y : PV) (h : Hp) : D fun R (K : PV × Hp → Option R) => app2K P el e f c xs y h (uc K) := by
  unfold app2K
  repeat' (first | exact D.none_ | exact D.now2 _ _ | refine D.ite (fun _ => ?_) (fun _ => ?_) | split)
theorem appendK_D (ty : TypeId) (s x : PV) (h : Hp) : D fun R (K : PV × Hp → Option R) => appendK P E ty s x h (uc K) := by
  unfold appendK
  repeat' (first | exact D.none_ | exact app2K_D P _ _ _ _ _ _ _ | split)
theorem resK_D (sig : Sig) (mine : Bool) (res : List PV) (h : Hp) : D fun R (K : PV × Hp → Option R) => resK sig mine res h (uc K) := by
  unfold resK
  dsimp only
  split
  all_goals exact D.now2 _ _
theorem callG_D (c : Ctr') (args : List PV) (mine : Bool) (h : Hp) : D fun R (K : PV × Hp → Option R) => callG c args mine h (uc K) := by
  unfold callG
  split
  · dsimp only
    split
    · exact D.none_
    · split
      · exact D.none_
      · refine D.obind fun b => ?_
        refine D.condA (D.now2 _ _) ?_
        split
        · exact resK_D _ _ _ _
        · split
          · exact D.now2 _ _
          · exact D.none_
  · split
    · exact D.none_
    · dsimp only
      split
      · exact D.none_
      · split
        · exact D.none_
        · refine D.obind fun b => ?_
          split
          · exact resK_D _ _ _ _
          · exact D.none_
theorem callK_D (f : FuncId) (args : List PV) (mine : Bool) (h : Hp) : D fun R (K : PV × Hp → Option R) => callK E f args mine h (uc K) := by
  unfold callK
  split
  · exact E.wrD f args h
  · exact callG_D _ _ _ _
theorem D.lift {F : (R : Type) → (PV → Option R) → Option R} (hF : D F) (h : Hp) : D fun R (K : PV × Hp → Option R) => F R fun p => uc K p h := by
  intro R K r hh
  obtain ⟨a, h1, h2⟩ := hF R _ r hh
  exact ⟨(a, h), h1, fun R' K' => h2 R' _⟩
theorem D.liftH {F : (R : Type) → (Hp → Option R) → Option R} (hF : D F) (p : PV) : D fun R (K : PV × Hp → Option R) => F R fun h => uc K p h := by
  intro R K r hh
  obtain ⟨a, h1, h2⟩ := hF R _ r hh
  exact ⟨(p, a), h1, fun R' K' => h2 R' _⟩
theorem cloK_D (p : PV) (args : List PV) (h : Hp) : D fun R (K : PV × Hp → Option R) => cloK E p args h (uc K) := by
  unfold cloK
  split
  · rename_i f c cs
    refine D.ite (fun _ => ?_) (fun _ => D.none_)
    intro R K r hk
    obtain ⟨h', h1, h2⟩ := E.cloD f (args ++ c :: cs) h R _ r hk
    exact ⟨(.tup [], h'), h1, fun R' K' => h2 R' _⟩
  · exact D.none_
theorem slice3K_D (ty : TypeId) (x : PV) (lo : Option PV) (hi mx : PV) (h : Hp) : D fun R (K : PV × Hp → Option R) => slice3K P ty x lo hi mx h (uc K) := by
  unfold slice3K
  repeat' (first | exact D.none_ | exact D.now2 _ _ | refine D.ite (fun _ => ?_) (fun _ => ?_) | split)
theorem opK_D (o : Oper) (t : List PV) (h : Hp) : D fun R (K : PV × Hp → Option R) => opK P E o t h (uc K) := by
  unfold opK
  dsimp only
  split
  all_goals repeat' (first | exact D.none_ | exact D.now2 _ _ | exact (binK_D _ _ _ _ _ _).lift h | exact (unK_D _ _).lift h | exact (loadK_D P _ _ _).lift h | exact (readK_D P _ _ _).lift h | exact (storeK_D P _ _ _ _).liftH _ | exact (lenK_D P _ _ _).lift h | exact sliceK_D P _ _ _ _ _ | exact sliceO_D P _ _ _ _ _ | exact slice3K_D P _ _ _ _ _ _ | exact appendK_D P E _ _ _ _ | exact callK_D E _ _ _ _ | exact cloK_D E _ _ _ | refine D.ite (fun _ => ?_) (fun _ => ?_) | exact D.cond (D.now2 _ _) (D.now2 _ _) | split)
end
end FN

namespace FN
open Go Go.RowKit
section
variable (P : Program) (E : Env')
theorem exOps_D (all : Array Oper) : ∀ (ops : List Oper) (t : List PV) (h : Hp), D fun R (K : List PV × Hp → Option R) => exOps P E all ops t h (uc K)
  | [], t, h => D.now2 t h
  | o :: rest, t, h => by
    have hop : ∀ t' : List PV, D fun R (K : List PV × Hp → Option R) => opK P E o t' h fun p h' => exOps P E all rest (putT t' o.dst p) h' (uc K) := fun t' =>
      D.bind (A := PV × Hp) (F := fun R K => opK P E o t' h (uc K)) (opK_D P E o t' h) (G := fun a R K => exOps P E all rest (putT t' o.dst a.1) a.2 (uc K)) fun a => exOps_D all rest (putT t' o.dst a.1) a.2
    have hgo : ∀ (d : Tmp) (want bv : Bool), D fun R (K : List PV × Hp → Option R) => (if bv == want then opK P E o (t.set d (.bool bv)) h fun p h' => exOps P E all rest (putT (t.set d (.bool bv)) o.dst p) h' (uc K)
            else exOps P E all rest (putT (t.set d (.bool bv)) o.dst (.tup [])) h (uc K)) := fun d want bv => D.ite (fun _ => hop _) (fun _ => exOps_D all rest _ _)
    cases hg : o.guard with
    | none =>
      simp only [exOps, hg]
      exact hop t
    | some g =>
      obtain ⟨j, want⟩ := g
      simp only [exOps, hg]
      split
      · exact D.none_
      · rename_i d _
        split
        · exact D.cond (hgo d want true) (hgo d want false)
        · exact exOps_D all rest _ _
        · exact D.none_
variable {E}
theorem cutK_some {R : Type} {c : Code} {s : St} {K K' : St → Option R} {r : R} (h : cutK E c s K = some r) (hk : ∀ s', K s' = some r → K' s' = some r) : cutK E c s K' = some r := by
  unfold cutK at h ⊢
  split at h
  · exact hk _ h
  · split at h
    · exact hk _ h
    · split at h
      · rename_i hc; rw [if_pos hc]; exact hk _ h
      · cases h
/-- It goes on with some answers, all to one end, or not at all. -/
def Df {A : Type} (F : (R : Type) → (A → Option R) → Option R) : Prop := ∀ (R : Type) (K : A → Option R) (r : R), F R K = some r → ∃ l : List A, (∀ a ∈ l, K a = some r) ∧ ∀ (R' : Type) (K' : A → Option R') (r' : R'), (∀ a ∈ l, K' a = some r') → F R' K' = some r'
section
variable {A B C : Type}
theorem D.df {F : (R : Type) → (A → Option R) → Option R} (h : D F) : Df F := fun R K r hk => by
  obtain ⟨a, h1, h2⟩ := h R K r hk
  exact ⟨[a], by simpa using h1, fun R' K' r' hk' => (h2 R' K').trans (hk' a (by simp))⟩
theorem Df.mono {F : (R : Type) → (A → Option R) → Option R} (hF : Df F) {R : Type} {K K' : A → Option R} {r : R} (h : F R K = some r) (hk : ∀ a, K a = some r → K' a = some r) : F R K' = some r := by
  obtain ⟨l, h1, h2⟩ := hF R K r h
  exact h2 R K' r fun a ha => hk a (h1 a ha)
theorem Df.cond {c : Bool} {F G : (R : Type) → (A → Option R) → Option R} (hF : Df F) (hG : Df G) : Df fun R K => cond c (F R K) (G R K) := by cases c; exact hG; exact hF
theorem Df.ite {c : Prop} [Decidable c] {F G : (R : Type) → (A → Option R) → Option R} (hF : c → Df F) (hG : ¬ c → Df G) : Df fun R K => if c then F R K else G R K := by
  by_cases h : c
  · have : (fun (R : Type) (K : A → Option R) => if c then F R K else G R K) = F := by funext R K; exact if_pos h
    rw [this]; exact hF h
  · have : (fun (R : Type) (K : A → Option R) => if c then F R K else G R K) = G := by funext R K; exact if_neg h
    rw [this]; exact hG h
theorem Df.lists {G : A → (R : Type) → (B → Option R) → Option R} (hG : ∀ a, Df (G a)) {R : Type} {K : B → Option R} {r : R} : ∀ l : List A, (∀ a ∈ l, G a R K = some r) → ∃ m : List B, (∀ b ∈ m, K b = some r) ∧ ∀ (R' : Type) (K' : B → Option R') (r' : R'), (∀ b ∈ m, K' b = some r') → ∀ a ∈ l, G a R' K' = some r'
  | [], _ => ⟨[], by simp, by simp⟩
  | a :: l, h => by
    obtain ⟨m1, h1, h2⟩ := hG a R K r (h a (by simp))
    obtain ⟨m2, h3, h4⟩ := Df.lists hG l fun x hx => h x (by simp [hx])
    refine ⟨m1 ++ m2, fun b hb => ?_, fun R' K' r' hk x hx => ?_⟩
    · rcases List.mem_append.1 hb with hb | hb
      · exact h1 b hb
      · exact h3 b hb
    · rcases List.mem_cons.1 hx with rfl | hx
      · exact h2 R' K' r' fun b hb => hk b (by simp [hb])
      · exact h4 R' K' r' (fun b hb => hk b (by simp [hb])) x hx
theorem Df.bind {F : (R : Type) → (A → Option R) → Option R} {G : A → (R : Type) → (B → Option R) → Option R} (hF : Df F) (hG : ∀ a, Df (G a)) : Df fun R K => F R fun a => G a R K := by
  intro R K r h
  obtain ⟨l, h1, h2⟩ := hF R _ r h
  obtain ⟨m, h3, h4⟩ := Df.lists hG l h1
  exact ⟨m, h3, fun R' K' r' hk => h2 R' _ r' (h4 R' K' r' hk)⟩
theorem Df.comap {F : (R : Type) → (A × B → Option R) → Option R} (hF : Df F) (f : A → B → C) : Df fun R (K : C → Option R) => F R fun x => K (f x.1 x.2) :=
  Df.bind hF (G := fun x R K => K (f x.1 x.2)) fun x => (D.now (f x.1 x.2)).df
theorem same_some {R : Type} {l : List (Option R)} {r : R} (h : same l = some r) : l ≠ [] ∧ ∀ x ∈ l, x = some r := by
  match l with
  | [] => cases h
  | [x] => exact ⟨by simp, by simpa [same] using h⟩
  | x :: y :: l =>
    simp only [same] at h
    split at h
    · rename_i hh
      exact ⟨by simp, fun z hz => by
        rcases List.mem_cons.1 hz with rfl | hz
        · exact h
        · exact (hh z hz).trans h⟩
    · cases h
theorem same_of {R : Type} {l : List (Option R)} {r : R} (hl : l ≠ []) (h : ∀ x ∈ l, x = some r) : same l = some r := by
  match l with
  | [] => exact absurd rfl hl
  | [x] => exact h x (by simp)
  | x :: y :: l =>
    simp only [same]
    rw [if_pos fun z hz => (h z (by simp [List.mem_cons.1 hz])).trans (h x (by simp)).symm]
    exact h x (by simp)
theorem same_rep {R : Type} (n : Nat) (x : Option R) : same (List.replicate (n + 1) x) = x := by
  cases x with
  | some r => exact same_of (by simp) fun y hy => List.eq_of_mem_replicate hy
  | none =>
    cases h : same (List.replicate (n + 1) (none : Option R)) with
    | none => rfl
    | some r => exact absurd ((same_some h).2 none (by simp)) (by simp)
theorem Df.same {I : Type} {is : List I} {F : I → (R : Type) → (A → Option R) → Option R} (hF : ∀ i, Df (F i)) : Df fun R K => FN.same (is.map fun i => F i R K) := by
  intro R K r h
  obtain ⟨h0, h1⟩ := same_some h
  obtain ⟨m, h3, h4⟩ := Df.lists hF is fun i hi => h1 _ (List.mem_map_of_mem hi)
  exact ⟨m, h3, fun R' K' r' hk => same_of (by simpa using h0) fun x hx => by
    obtain ⟨i, hi, rfl⟩ := List.mem_map.1 hx
    exact h4 R' K' r' hk i hi⟩
end
theorem exTree_D (P : Program) (E : Env') (ops : Array Oper) : ∀ (n : Nat) (listed : Array Bool) (t : List PV) (h : Hp), Df fun R (K : List PV × Hp → Option R) => exTree P E ops n listed t h (uc K)
  | 0, listed, t, h => by
    simp only [exTree]
    exact (D.ite (fun _ => D.now2 _ _) (fun _ => D.none_)).df
  | n + 1, listed, t, h => by
    have one : ∀ i : Nat, Df fun R (K : List PV × Hp → Option R) => match ops[i]? with
        | some o => exOps P E ops [o] t h fun t h => exTree P E ops n (listed.setIfInBounds i true) t h (uc K)
        | none => none := fun i => by
      cases ops[i]? with
      | none => exact D.none_.df
      | some o => exact Df.bind (A := List PV × Hp) (F := fun R K => exOps P E ops [o] t h (uc K)) (exOps_D P E ops [o] t h).df (G := fun a R K => exTree P E ops n (listed.setIfInBounds i true) a.1 a.2 (uc K)) fun a => exTree_D P E ops n _ a.1 a.2
    simp only [exTree]
    split
    · exact (D.now2 _ _).df
    · split
      · exact one _
      · exact Df.same one
theorem exReg_D (P : Program) (E : Env') (ops : Array Oper) (d : Bool) (t : List PV) (h : Hp) : Df fun R (K : List PV × Hp → Option R) => exReg P E ops d t h (uc K) := by
  unfold exReg
  exact Df.ite (fun _ => exTree_D P E ops _ _ t h) (fun _ => D.none_.df)
theorem cutK_Df {E : Env'} {A : Type} (c : Code) (s : St) {G : St → (R : Type) → (A → Option R) → Option R} (hG : ∀ s, Df (G s)) : Df fun R K => cutK E c s fun s' => G s' R K := by
  unfold cutK
  split
  · exact hG s
  · split
    · exact hG s
    · exact Df.ite (fun _ => hG _) (fun _ => D.none_.df)
theorem cutS_Df {E : Env'} {A : Type} (c : Code) (s : St) {f : (R : Type) → St → (AX → St → Option R) → Option R} {W : (R : Type) → (A → Option R) → AX → St → Option R} (hG : ∀ s, Df fun R K => f R s (W R K)) : Df fun R K => cutS E c (f R) s (W R K) := by
  unfold cutS
  split
  · exact hG s
  · split
    · exact hG s
    · split
      · exact hG s
      · exact Df.ite (fun _ => hG _) (fun _ => D.none_.df)
theorem max_of {A : Type} {p : A → Nat → Prop} (hp : ∀ a n m, n ≤ m → p a n → p a m) : ∀ l : List A, (∀ a ∈ l, ∃ n, p a n) → ∃ n, ∀ a ∈ l, p a n
  | [], _ => ⟨0, by simp⟩
  | a :: l, h => by
    obtain ⟨n, hn⟩ := h a (by simp)
    obtain ⟨m, hm⟩ := max_of hp l fun x hx => h x (by simp [hx])
    refine ⟨max n m, fun x hx => ?_⟩
    rcases List.mem_cons.1 hx with rfl | hx
    · exact hp _ _ _ (Nat.le_max_left _ _) hn
    · exact hp _ _ _ (Nat.le_max_right _ _) (hm x hx)
/-- A round's next. -/
def nextK {R : Type} (E : Env') (b : Code) (go : St → Option R) (K : AX → St → Option R) (e : AX) (s' : St) : Option R := match e with
  | .norm => cutK E b s' go
  | e => K e s'
section
variable {b : Code} {body : (R : Type) → St → (AX → St → Option R) → Option R} (hD : ∀ s, Df fun R (K : AX × St → Option R) => body R s (uc K))
theorem loopN_succ {R : Type} (n : Nat) (s : St) (K : AX → St → Option R) : loopN E (body R) b (n + 1) s K = body R s (nextK E b (fun s'' => loopN E (body R) b n s'' K) K) := by
  simp only [loopN]
  congr 1
include hD
theorem body_mono {R : Type} {s : St} {K K' : AX → St → Option R} {r : R} (h : body R s K = some r) (hk : ∀ e s', K e s' = some r → K' e s' = some r) : body R s K' = some r :=
  (hD s).mono (K := fun x => K x.1 x.2) (K' := fun x => K' x.1 x.2) h fun a ha => hk _ _ ha
theorem loopN_mono {R : Type} : ∀ (n : Nat) (s : St) (K : AX → St → Option R) (r : R), loopN E (body R) b n s K = some r → loopN E (body R) b (n + 1) s K = some r
  | 0, s, K, r, h => by simp [loopN] at h
  | n + 1, s, K, r, h => by
    rw [loopN_succ] at h ⊢
    refine body_mono hD h fun e s' hk => ?_
    cases e with
    | norm => exact cutK_some (K := fun s'' => loopN E (body R) b n s'' K) hk fun s'' h' => loopN_mono n s'' K r h'
    | ex i => exact hk
    | ret => exact hk
theorem loopN_le {R : Type} {n m : Nat} (hnm : n ≤ m) {s : St} {K : AX → St → Option R} {r : R} (h : loopN E (body R) b n s K = some r) : loopN E (body R) b m s K = some r := by
  induction hnm with
  | refl => exact h
  | step _ ih => exact loopN_mono hD _ s K r ih
theorem loopN_one {R : Type} {n m : Nat} {s : St} {K : AX → St → Option R} {r r' : R} (h : loopN E (body R) b n s K = some r) (h' : loopN E (body R) b m s K = some r') : r = r' := by
  have h1 := loopN_le hD (Nat.le_max_left n m) h
  have h2 := loopN_le hD (Nat.le_max_right n m) h'
  rw [h1] at h2
  exact Option.some.inj h2
theorem loopK_some {R : Type} {s : St} {K : AX → St → Option R} {r : R} : loopK E (body R) b s K = some r ↔ ∃ n, loopN E (body R) b n s K = some r := by
  unfold loopK lim
  constructor
  · intro h
    split at h
    · exact ⟨_, h⟩
    · cases h
  · rintro ⟨n, hn⟩
    have hex : ∃ n r, loopN E (body R) b n s K = some r := ⟨n, r, hn⟩
    rw [dif_pos hex]
    obtain ⟨r', hr'⟩ := hex.choose_spec
    exact hr'.trans (congrArg some (loopN_one hD hr' hn))
theorem loopN_D : ∀ (n : Nat) (s : St), Df fun R (K : AX × St → Option R) => loopN E (body R) b n s (uc K)
  | 0, s => D.none_.df
  | n + 1, s => by
    have : Df fun R (K : AX × St → Option R) => body R s (nextK E b (fun s'' => loopN E (body R) b n s'' (uc K)) (uc K)) := by
      refine Df.bind (hD s) (G := fun a R K => nextK E b (fun s'' => loopN E (body R) b n s'' (uc K)) (uc K) a.1 a.2) fun a => ?_
      obtain ⟨e, s'⟩ := a
      cases e with
      | norm => exact cutK_Df b s' (G := fun s'' R K => loopN E (body R) b n s'' (uc K)) fun s'' => loopN_D n s''
      | ex i => exact (D.now2 _ _).df
      | ret => exact (D.now2 _ _).df
    intro R K r h
    obtain ⟨l, h1, h2⟩ := this R K r ((loopN_succ n s (uc K)).symm.trans h)
    exact ⟨l, h1, fun R' K' r' hk => (loopN_succ n s (uc K')).trans (h2 R' K' r' hk)⟩
theorem loopK_D (s : St) : Df fun R (K : AX × St → Option R) => loopK E (body R) b s (uc K) := by
  intro R K r h
  obtain ⟨n, hn⟩ := (loopK_some hD).1 h
  obtain ⟨l, h1, h2⟩ := loopN_D hD n s R K r hn
  exact ⟨l, h1, fun R' K' r' hk => (loopK_some hD).2 ⟨n, h2 R' K' r' hk⟩⟩
theorem loopK_eq_ {R : Type} (s : St) (K : AX → St → Option R) : loopK E (body R) b s K = body R s (nextK E b (fun s'' => loopK E (body R) b s'' K) K) := by
  refine Option.ext fun r => ?_
  rw [loopK_some hD]
  constructor
  · rintro ⟨n, hn⟩
    cases n with
    | zero => simp [loopN] at hn
    | succ m =>
      rw [loopN_succ] at hn
      refine body_mono hD hn fun e s' hk => ?_
      cases e with
      | norm => exact cutK_some (K := fun s'' => loopN E (body R) b m s'' K) hk fun s'' h' => (loopK_some hD).2 ⟨m, h'⟩
      | ex i => exact hk
      | ret => exact hk
  · intro h
    obtain ⟨l, h1, h2⟩ := hD s R (fun x => nextK E b (fun s'' => loopK E (body R) b s'' K) K x.1 x.2) r h
    obtain ⟨m, hm⟩ := max_of (p := fun (a : AX × St) m => nextK E b (fun s'' => loopN E (body R) b m s'' K) K a.1 a.2 = some r) (fun a n m hnm hp => by
      obtain ⟨e, s'⟩ := a
      cases e with
      | norm => exact cutK_some (K := fun s'' => loopN E (body R) b n s'' K) hp fun s'' h' => loopN_le hD hnm h'
      | ex i => exact hp
      | ret => exact hp) l (fun a ha => by
      have h3 := h1 a ha
      obtain ⟨e, s'⟩ := a
      cases e with
      | ex i => exact ⟨0, h3⟩
      | ret => exact ⟨0, h3⟩
      | norm =>
        have h3 : cutK E b s' (fun s'' => loopK E (body R) b s'' K) = some r := h3
        show ∃ m, cutK E b s' (fun s'' => loopN E (body R) b m s'' K) = some r
        unfold cutK at h3 ⊢
        split at h3
        · exact (loopK_some hD).1 h3
        · split at h3
          · exact (loopK_some hD).1 h3
          · split at h3
            · rename_i hc
              obtain ⟨m, hm⟩ := (loopK_some hD).1 h3
              exact ⟨m, by rw [if_pos hc]; exact hm⟩
            · cases h3)
    exact ⟨m + 1, by rw [loopN_succ]; exact h2 R (fun x => nextK E b (fun s'' => loopN E (body R) b m s'' K) K x.1 x.2) r hm⟩
end
variable (E)
theorem exCode_D : ∀ (c : Code) (s : St), Df fun R (K : AX × St → Option R) => exCode P E c s (uc K)
  | .skip, s => by simp only [exCode]; exact (D.now2 _ _).df
  | .region id ops d, s => by
    simp only [exCode]
    split
    · rename_i l _
      exact (D.comap (C := AX × St) (F := fun R K => exOps P E ops l s.t s.h (uc K)) (exOps_D P E ops l s.t s.h) fun t h => (.norm, ⟨t, h⟩)).df
    · exact Df.comap (C := AX × St) (F := fun R K => exReg P E ops d s.t s.h (uc K)) (exReg_D P E ops d s.t s.h) fun t h => (.norm, ⟨t, h⟩)
  | .seq x y, s => by
    simp only [exCode]
    refine Df.bind (exCode_D x s) (G := fun a R K => match a.1 with | .norm => cutS E y (exCode P E y) a.2 (uc K) | e => uc K e a.2) fun a => ?_
    obtain ⟨e, s'⟩ := a
    cases e with
    | norm => exact cutS_Df y s' (f := fun R => exCode P E y) (W := fun R K => uc K) fun s'' => exCode_D y s''
    | ex i => exact (D.now2 _ _).df
    | ret => exact (D.now2 _ _).df
  | .cond c x y, s => by
    simp only [exCode]
    split
    · exact Df.cond (exCode_D x s) (exCode_D y s)
    · exact D.none_.df
  | .block id b, s => by
    simp only [exCode]
    refine Df.bind (exCode_D b s) (G := fun a R K => match a.1 with | .ex i => if i = id then uc K .norm a.2 else uc K (.ex i) a.2 | e => uc K e a.2) fun a => ?_
    obtain ⟨e, s'⟩ := a
    cases e with
    | norm => exact (D.now2 _ _).df
    | ex i => exact Df.ite (fun _ => (D.now2 _ _).df) (fun _ => (D.now2 _ _).df)
    | ret => exact (D.now2 _ _).df
  | .loop b, s => by
    simp only [exCode]
    exact cutK_Df b s (G := fun s' R K => loopK E (exCode P E b) b s' (uc K)) fun s' => loopK_D (body := fun R => exCode P E b) (fun s => exCode_D b s) s'
  | .exit id, s => by simp only [exCode]; exact (D.now2 _ _).df
  | .ret, s => by simp only [exCode]; exact (D.now2 _ _).df
  | .label _, s => by simp only [exCode]; exact D.none_.df
  | .goto _, s => by simp only [exCode]; exact D.none_.df
  | .rangeFunc .., s => by simp only [exCode]; exact D.none_.df
  | .scope .., s => by simp only [exCode]; exact D.none_.df
  | .refuse .., s => by simp only [exCode]; exact D.none_.df
theorem loopK_eq {R : Type} (b : Code) (s : St) (K : AX → St → Option R) : loopK E (exCode P E b) b s K = exCode P E b s fun e s' => match e with
    | .norm => cutK E b s' fun s'' => loopK E (exCode P E b) b s'' K
    | e => K e s' :=
  loopK_eq_ (body := fun R => exCode P E b) (fun s => exCode_D P E b s) s K
end
end FN

namespace FN
open Go Go.RowKit
/-- A list of values, structs opened. -/
def flatV : List (Option Nat) → List Value → Option (List Value)
  | [], [] => some []
  | none :: as, u :: us => (flatV as us).map (u :: ·)
  | some n :: as, .agg vs :: us => if vs.size = n then (flatV as us).map (vs.toList ++ ·) else none
  | _, _ => none
def tupV : List Value → Value
  | [v] => v
  | vs => .tuple vs.toArray
def av (w : World) (ok : Nat → Prop) : Vw := ⟨w, ok, 0, 0, fun _ => undef⟩
section
variable {v : Vw}
theorem V2_of_V1 {p : PV} {u : Value} (h : V1 v p u) : V2 v p u := by
  unfold V2
  split
  · simp [V1] at h
  · rename_i f caps
    cases caps with
    | nil => exact ⟨#[], h, .nil⟩
    | cons => simp [V1] at h
  · exact h
theorem flat_V : ∀ {ps : List (Option Nat)} {args fl : List PV} {us : List Value}, flat ps args = some fl → F2 (V2 v) args us → ∃ fls, flatV ps us = some fls ∧ F2 (V2 v) fl fls
  | [], [], fl, us, h, hf => by
    simp only [flat] at h
    injection h with h
    subst h
    cases hf
    exact ⟨[], rfl, .nil⟩
  | none :: as, p :: ps, fl, us, h, hf => by
    simp only [flat] at h
    obtain ⟨fl', h1, rfl⟩ := Option.map_eq_some_iff.1 h
    cases hf with
    | cons hp hps =>
      obtain ⟨fls, e1, e2⟩ := flat_V h1 hps
      exact ⟨_ :: fls, by simp [flatV, e1], .cons hp e2⟩
  | some n :: as, .agg cs :: ps, fl, us, h, hf => by
    simp only [flat] at h
    split at h
    · rename_i hn
      obtain ⟨fl', h1, rfl⟩ := Option.map_eq_some_iff.1 h
      cases hf with
      | cons hp hps =>
        obtain ⟨fls, e1, e2⟩ := flat_V h1 hps
        obtain ⟨vs, rfl, hv⟩ := hp
        refine ⟨vs.toList ++ fls, ?_, (hv.imp fun _ _ => V2_of_V1).app e2⟩
        have : vs.size = n := by have := hv.len; simp at this; omega
        simp [flatV, e1, this]
    · cases h
  | [], _ :: _, fl, us, h, hf => by simp [flat] at h
  | none :: _, [], fl, us, h, hf => by simp [flat] at h
  | some _ :: _, [], fl, us, h, hf => by simp [flat] at h
  | some n :: as, .int .. :: ps, fl, us, h, hf => by simp [flat] at h
  | some n :: as, .bool .. :: ps, fl, us, h, hf => by simp [flat] at h
  | some n :: as, .str .. :: ps, fl, us, h, hf => by simp [flat] at h
  | some n :: as, .nilS :: ps, fl, us, h, hf => by simp [flat] at h
  | some n :: as, .row .. :: ps, fl, us, h, hf => by simp [flat] at h
  | some n :: as, .rp .. :: ps, fl, us, h, hf => by simp [flat] at h
  | some n :: as, .own .. :: ps, fl, us, h, hf => by simp [flat] at h
  | some n :: as, .ep .. :: ps, fl, us, h, hf => by simp [flat] at h
  | some n :: as, .ptr .. :: ps, fl, us, h, hf => by simp [flat] at h
  | some n :: as, .tup .. :: ps, fl, us, h, hf => by simp [flat] at h
  | some n :: as, .fn .. :: ps, fl, us, h, hf => by simp [flat] at h
  | some n :: as, .junk :: ps, fl, us, h, hf => by simp [flat] at h
theorem castRow_V {ok : Nat → Prop} {w : World} {c c' : CK} {xs : List c'.T} {ys : List c.T} {u : Value} (h : castRow (c := c) xs = some ys) (hs : SlR w ok c' xs u) : SlR w ok c ys u := by
  obtain ⟨rfl, rfl⟩ := castRow_some h
  exact hs
theorem okf_false {f : Bool} {c : CK} {xs : List c.T} {u : Value} (h : SlR v.W (v.okf f) c xs u) : SlR v.W (v.okf false) c xs u :=
  h.tr ⟨Nat.le_refl _, fun _ hk _ => ⟨rfl, hk.1, fun e => by cases e⟩⟩
theorem inC_V {r : RS} {x : r.T} {p : PV} {u : Value} (h : inC r p = some x) (hv : V2 v p u) : V1 v (inP r x) u := by
  unfold inC at h
  split at h
  · split at h
    · rename_i e; subst e; injection h with h; subst h; exact hv
    · cases h
  · injection h with h; subst h; exact hv
  · injection h with h; subst h; exact hv
  · injection h with h
    subst h
    have hv' : u = .slice none 0 0 := hv
    exact ⟨none, 0, hv', Nat.le_refl _, Nat.zero_le _, fun hx => absurd rfl hx⟩
  · exact hv
  · exact okf_false (castRow_V h hv)
  · cases h
theorem inCs_V : ∀ {rs : List RS} {x : Ts rs} {ps : List PV} {us : List Value}, inCs rs ps = some x → F2 (V2 v) ps us → F2 (V1 v) (inPs rs x) us
  | [], x, [], us, h, hf => by cases hf; exact .nil
  | [a], x, [p], us, h, hf => by
    cases hf with
    | cons hp hps => cases hps; exact .cons (inC_V h hp) .nil
  | a :: b :: as, x, p :: q :: ps, us, h, hf => by
    simp only [inCs] at h
    obtain ⟨x1, h1, h⟩ := Option.bind_eq_some_iff.1 h
    obtain ⟨x2, h2, h⟩ := Option.bind_eq_some_iff.1 h
    injection h with h
    subst h
    cases hf with
    | cons hp hps => exact .cons (inC_V h1 hp) (inCs_V h2 hps)
  | [], x, _ :: _, us, h, hf => by simp [inCs] at h
  | [a], x, [], us, h, hf => by simp [inCs] at h
  | [a], x, _ :: _ :: _, us, h, hf => by simp [inCs] at h
  | _ :: _ :: _, x, [], us, h, hf => by simp [inCs] at h
  | _ :: _ :: _, x, [_], us, h, hf => by simp [inCs] at h
theorem unflat_V : ∀ {rs : List (Option Nat)} {vs us : List Value} {qs : List PV}, flatV rs vs = some us → F2 (V1 v) qs us → F2 (V2 v) (unflat rs qs) vs
  | [], [], us, qs, h, hf => by
    simp only [flatV] at h
    injection h with h
    subst h
    cases hf
    exact .nil
  | none :: as, u :: vs, us, qs, h, hf => by
    simp only [flatV] at h
    obtain ⟨us', h1, rfl⟩ := Option.map_eq_some_iff.1 h
    cases hf with
    | cons hq hqs => exact .cons (V2_of_V1 hq) (unflat_V h1 hqs)
  | some n :: as, u :: vs, us, qs, h, hf => by
    cases u
    case agg ws =>
      simp only [flatV] at h
      split at h
      · rename_i hn
        obtain ⟨us', h1, rfl⟩ := Option.map_eq_some_iff.1 h
        have hl : ws.toList.length = n := by simpa using hn
        have h2 := hf.take n
        have h3 := hf.drop n
        rw [← hl, List.take_left, hl] at h2
        rw [← hl, List.drop_left, hl] at h3
        have ht : F2 (V2 v) (.agg (qs.take n) :: unflat as (qs.drop n)) (.agg ws :: vs) := .cons ⟨ws, rfl, h2⟩ (unflat_V h1 h3)
        cases qs with
        | nil => exact ht
        | cons q qs => exact ht
      · cases h
    all_goals simp [flatV] at h
  | [], _ :: _, us, qs, h, hf => by simp [flatV] at h
  | none :: _, [], us, qs, h, hf => by simp [flatV] at h
  | some _ :: _, [], us, qs, h, hf => by simp [flatV] at h
end
end FN

namespace FN
open Go Go.RowKit
section
variable {P : Program} {E : Env'} {w : World} {base : Nat} {ρ : Rh} {h : Hp} {pin : Pn} {mn : Mn}
theorem frzD_sound {p q : PV} {H' : Hp} {u : Value} (hH : HRel mn w base ρ h) (hf : frzD h p = (q, H')) (hv : V (vw w base ρ h) p u) :
    ∃ ρ', HRel mn w base ρ' H' ∧ (vw w base ρ h).Le (vw w base ρ' H') ∧ V (vw w base ρ' H') q u ∧ H'.length = h.length ∧ (∀ i b, H'.get i = some b → h.get i = some b) := by
  unfold frzD at hf
  split at hf
  · rename_i ps
    obtain ⟨vs, rfl, hvs⟩ := hv
    injection hf with h1 h2
    subst h1; subst h2
    obtain ⟨ρ1, a1, a2, a3, a4, a5⟩ := frzs_sound hH (qs := (frzs h ps).1) (H' := (frzs h ps).2) rfl hvs
    exact ⟨ρ1, a1, a2, ⟨vs, rfl, a3⟩, a4, a5⟩
  · rename_i hne
    cases p
    case agg => exact absurd rfl (hne _)
    case own id =>
      obtain ⟨ρ1, a1, a2, a3, a4, a5⟩ := frz_sound hH hf (show V1 _ (.own id) u from hv)
      exact ⟨ρ1, a1, a2, V_of_V1 a3, a4, a5⟩
    all_goals
      simp only [frz] at hf
      injection hf with h1 h2
      subst h1; subst h2
      exact ⟨ρ, hH, Vw.Le.refl _, hv, rfl, fun _ _ h => h⟩
theorem frzDs_sound : ∀ {ps : List PV} {ρ : Rh} {h H' : Hp} {qs : List PV} {us : List Value}, HRel mn w base ρ h → frzDs h ps = (qs, H') → F2 (V (vw w base ρ h)) ps us →
    ∃ ρ', HRel mn w base ρ' H' ∧ (vw w base ρ h).Le (vw w base ρ' H') ∧ F2 (V (vw w base ρ' H')) qs us ∧ H'.length = h.length ∧ (∀ i b, H'.get i = some b → h.get i = some b)
  | [], ρ, h, H', qs, us, hH, hf, hv => by
    simp only [frzDs] at hf
    injection hf with h1 h2
    subst h1; subst h2
    cases hv
    exact ⟨ρ, hH, Vw.Le.refl _, .nil, rfl, fun _ _ h => h⟩
  | p :: ps, ρ, h, H', qs, us, hH, hf, hv => by
    simp only [frzDs] at hf
    injection hf with h1 h2
    subst h1; subst h2
    cases hv with
    | cons hp hps =>
      obtain ⟨ρ1, a1, a2, a3, a4, a5⟩ := frzD_sound hH (q := (frzD h p).1) (H' := (frzD h p).2) rfl hp
      obtain ⟨ρ2, b1, b2, b3, b4, b5⟩ := frzDs_sound a1 (qs := (frzDs (frzD h p).2 ps).1) (H' := (frzDs (frzD h p).2 ps).2) rfl (hps.imp fun _ _ => V.le a2)
      exact ⟨ρ2, b1, a2.trans b2, .cons (V.le b2 a3) b3, b4.trans a4, fun i b hb => a5 i b (b5 i b hb)⟩
/-- frz never takes a box. -/
theorem frzs_box : ∀ {ps : List PV} {h : Hp} {i : Nat} {t : TypeId} {cells : List PV}, h.get i = some (.box t cells) → (frzs h ps).2.get i = some (.box t cells)
  | [], h, i, t, cells, hb => hb
  | p :: ps, h, i, t, cells, hb => by
    simp only [frzs]
    refine frzs_box ?_
    unfold frz
    split
    · split
      · rename_i id e f c xs hg
        rw [Hp.get_set]
        split
        · rename_i he; rw [he.1, hg] at hb; cases hb
        · exact hb
      · exact hb
    · exact hb
theorem frzDs_box : ∀ {ps : List PV} {h : Hp} {i : Nat} {t : TypeId} {cells : List PV}, h.get i = some (.box t cells) → (frzDs h ps).2.get i = some (.box t cells)
  | [], h, i, t, cells, hb => hb
  | p :: ps, h, i, t, cells, hb => by
    simp only [frzDs]
    refine frzDs_box ?_
    unfold frzD
    split
    · exact frzs_box hb
    · exact frzs_box (ps := [p]) hb
theorem seen_V {p : PV} {u : Value} (hH : HRel mn w base ρ h) (hv : V (vw w base ρ h) p u) {ok : Nat → Prop} (hok : ∀ k, ok k) : V2 (av w ok) (seen h p) u := by
  cases p
  case agg ps =>
    obtain ⟨vs, rfl, hvs⟩ := hv
    exact ⟨vs, rfl, F2.map (hvs.imp fun _ _ hx => seen1_V hH hx hok)⟩
  case own id => exact V2_of_V1 (seen1_V hH (show V1 _ (.own id) u from hv) hok)
  case row f c xs => exact V2_of_V1 (seen1_V hH (show V1 _ (.row f c xs) u from hv) hok)
  all_goals first | exact hv | trivial
/-- Results are handed on. -/
theorem resK_sound {R : Type} {sig : Sig} {mine' : Bool} {res : List PV} {us vs : List Value} (hH : HRel mn w base ρ h) (hf : F2 (V1 (vw w base ρ h)) res us) (hvs : flatV sig.rs vs = some us) :
    ∃ p h' ρ', (∀ (R : Type) (K : PV → Hp → Option R), resK sig mine' res h K = K p h') ∧ HRel mn w base ρ' h' ∧ (vw w base ρ h).Le (vw w base ρ' h') ∧ V (vw w base ρ' h') p (tupV vs) := by
  have key : ∀ (q : List PV × Hp), (∃ ρ', HRel mn w base ρ' q.2 ∧ (vw w base ρ h).Le (vw w base ρ' q.2) ∧ F2 (V1 (vw w base ρ' q.2)) q.1 us) →
      ∃ p h' ρ', (∀ (R : Type) (K : PV → Hp → Option R), (match unflat sig.rs q.1 with | [p] => K p q.2 | ps => K (.tup ps) q.2) = K p h') ∧ HRel mn w base ρ' h' ∧ (vw w base ρ h).Le (vw w base ρ' h') ∧ V (vw w base ρ' h') p (tupV vs) := by
    rintro q ⟨ρ', a1, a2, a3⟩
    have hu := unflat_V hvs a3
    cases hqs : unflat sig.rs q.1 with
    | nil =>
      rw [hqs] at hu
      cases hu
      exact ⟨.tup [], q.2, ρ', fun _ _ => rfl, a1, a2, ⟨#[], rfl, .nil⟩⟩
    | cons p ps =>
      rw [hqs] at hu
      cases hu with
      | cons h1 h2 =>
        cases ps with
        | nil => cases h2; exact ⟨p, q.2, ρ', fun _ _ => rfl, a1, a2, V_of_V2 h1⟩
        | cons p' ps =>
          cases h2 with
          | cons h3 h4 => exact ⟨.tup (p :: p' :: ps), q.2, ρ', fun _ _ => rfl, a1, a2, ⟨_, rfl, .cons h1 (.cons h3 h4)⟩⟩
  unfold resK
  dsimp only
  cases mine' with
  | true => exact key (res, h) ⟨ρ, hH, Vw.Le.refl _, hf⟩
  | false =>
    obtain ⟨ρ1, a1, a2, a3, _⟩ := frzs_sound hH (qs := (frzs h res).1) (H' := (frzs h res).2) rfl hf
    exact key (frzs h res) ⟨ρ1, a1, a2, a3⟩
end
end FN

namespace FN
open Go Go.RowKit
/-- The results' rows. -/
def rowsV : List RS → List Value → List Value
  | .row _ _ :: as, u :: us => u :: rowsV as us
  | _ :: as, _ :: us => rowsV as us
  | _, _ => []
def OutC (W : World) (base : Nat) (okr okv : Nat → Prop) : (r : RS) → r.T → Value → Prop
  | .int k, n, u => u = .int k n
  | .bool, b, u => u = .bool b
  | .str, s, u => u = .string s
  | .row e c, xs, u => ∃ inner, W.ownsRow base e c.sz u xs.length inner ∧ ArrR ⟨W, okr, base, 0, fun _ => undef⟩ true c xs inner
  | .view c, xs, u => SlR W okv c xs u
  | .any, _, _ => True
  | .fview c, xs, u => SlR W (fun k => okv k ∧ base ≤ k) c xs u
  | .nil, _, u => u = .slice none 0 0
def OutsR (W : World) (base : Nat) (okr okv : Nat → Prop) : (rs : List RS) → Ts rs → List Value → Prop
  | [], _, us => us = []
  | [a], x, us => ∃ u, us = [u] ∧ OutC W base okr okv a x u
  | a :: b :: as, x, us => ∃ u us', us = u :: us' ∧ OutC W base okr okv a x.1 u ∧ OutsR W base okr okv (b :: as) x.2 us'
/-- What is handed to a function: the blocks in okc may be read. -/
def ArgR (sig : Sig) (w : World) (okc : Nat → Prop) (args : List Value) (bx : Option (Nat × List Int)) (x : Ts sig.pc) : Prop :=
  match sig.rd with
  | none => bx = none ∧ ∃ fl, flatV sig.ps args = some fl ∧ F2 (V1 (av w okc)) (inPs sig.pc x) fl
  | some t => ∃ g b u p rest fl ps, bx = some (g, b) ∧ args = .pointer (some ⟨g, 0, none⟩) :: rest ∧ w.heap[g]? = some (.cells #[u, p] t (0, 0)) ∧ ¬ okc g ∧ flatV sig.ps rest = some fl ∧
      inPs sig.pc x = .row false .u8 b :: ps ∧ F2 (V1 (av w okc)) (inPs sig.pc x) (u :: p :: fl)
/-- What comes back. -/
def RetR (sig : Sig) (w w' : World) (okc : Nat → Prop) (bx : Option (Nat × List Int)) (r : Ts sig.rc) (v : Value) : Prop :=
  ∃ (us : List Value) (sp : Nat → Prop),
    OutsR w' w.heap.size (fun k => ∀ u ∈ rowsV sig.rc us, blkOf u ≠ some k) (fun k => (okc k ∨ w.heap.size ≤ k) ∧ (∀ u ∈ rowsV sig.rc us, blkOf u ≠ some k) ∧ ¬ sp k) sig.rc r us ∧
    (∀ (i j : Nat) u u' g, (rowsV sig.rc us)[i]? = some u → (rowsV sig.rc us)[j]? = some u' → blkOf u = some g → blkOf u' = some g → i = j) ∧
    match sig.rd, sig.nw with
    | none, none => (∀ k, ¬ sp k) ∧ (nnB sig r = true → v = .slice none 0 0) ∧ ∃ vs, flatV sig.rs vs = some us ∧ v = tupV vs
    | none, some t => ∃ g u p, us = [u, p] ∧ v = .pointer (some ⟨g, 0, none⟩) ∧ w.heap.size ≤ g ∧ w'.heap[g]? = some (.cells #[u, p] t (0, 0)) ∧ ∀ k, sp k ↔ k = g
    | some t, none => ∃ g b u' q us0 vs, bx = some (g, b) ∧ us = us0 ++ [q] ∧ flatV sig.rs vs = some us0 ∧ v = tupV vs ∧ w'.heap[g]? = some (.cells #[u', q] t (0, 0)) ∧
        SlR w' (fun k => (okc k ∨ w.heap.size ≤ k) ∧ (∀ u ∈ rowsV sig.rc us, blkOf u ≠ some k) ∧ ¬ sp k) .u8 b u' ∧ ∀ k, sp k ↔ k = g
    | _, _ => False
section
/-- What is asked of the memory that stood at the start, beside the arguments; the readers' types. -/
class Gl where
  I : World → Prop
  rd : TypeId → Prop
  keep : ∀ {w w' : World} (g : Option Nat), I w → w.heap.size ≤ w'.heap.size → (∀ k, k < w.heap.size → g ≠ some k → w'.heap[k]? = w.heap[k]?) → (∀ k, g = some k → ∃ u p t, rd t ∧ w.heap[k]? = some (.cells #[u, p] t (0, 0))) → I w'
variable [Gl]
/-- What a contract says of the function. -/
def CtrOk (P : Program) (f : FuncId) (c : Ctr') : Prop :=
  ∀ (w : World) (okc : Nat → Prop) (args : Array Value) (bx : Option (Nat × List Int)) (x : Ts c.sig.pc) (r : Ts c.sig.rc), Gl.I w → ArgR c.sig w okc args.toList bx x → c.run x = some r →
    Calls P f args w fun e w' => ∃ v, e = .returned v ∧ RetR c.sig w w' okc bx r v ∧ Kp ⟨fun k => ∃ b, bx = some (k, b), fun _ => True⟩ w.heap.size w w'
def Entb (P : Program) (f : FuncId) : Prop := ∃ fn, P.funcs[f]? = some fn ∧ (fn.name == "runtime.NumGoroutine") = false ∧ fn.body.isSome = true
/-- What is entered in place does what it says. -/
def CloOk (P : Program) (E : Env') : Prop := ∀ (f : FuncId) (ps : List PV) (h h' : Hp) (pin : Pn) (base : Nat) (w : World) (ρ : Rh) (args : Array Value), E.clo Hp f ps h some = some h' → (∀ w', Kp pin base w w' → Gl.I w') → HRel (mine pin base) w base ρ h → F2 (V1 (vw w base ρ h)) ps args.toList →
  Entb P f ∧ Calls P f args w fun e w' => e = .returned (.tuple #[]) ∧ ∃ ρ', HRel (mine pin base) w' base ρ' h' ∧ (vw w base ρ h).Le (vw w' base ρ' h') ∧ Kp pin base w w'
/-- What writes into what it is handed does what it says. -/
def WrOk (P : Program) (E : Env') : Prop := ∀ (f : FuncId) (ps : List PV) (h h' : Hp) (p : PV) (pin : Pn) (base : Nat) (w : World) (ρ : Rh) (us : List Value), E.wr (PV × Hp) f ps h (fun p h => some (p, h)) = some (p, h') → (∀ w', Kp pin base w w' → Gl.I w') → HRel (mine pin base) w base ρ h → F2 (V (vw w base ρ h)) ps us →
  Entb P f ∧ Calls P f us.toArray w fun e w' => ∃ v, e = .returned v ∧ ∃ ρ', HRel (mine pin base) w' base ρ' h' ∧ (vw w base ρ h).Le (vw w' base ρ' h') ∧ V (vw w' base ρ' h') p v ∧ Kp pin base w w'
def EnvOk (P : Program) (E : Env') : Prop := (∀ f c, E.fn f = some c → CtrOk P f c ∧ Entb P f) ∧ CloOk P E ∧ WrOk P E
end

section
variable {W : World} {base : Nat} {okr okv : Nat → Prop}
theorem outs_all : ∀ {rs : List RS} {x : Ts rs} {us : List Value} (b : Nat), OutsR W base okr okv rs x us →
    (outCs b rs x).1.length = (rowsV rs us).length ∧
    (∀ (j : Nat) blk u, (outCs b rs x).1[j]? = some blk → (rowsV rs us)[j]? = some u → ∃ e c xs inner, blk = .arr e true c xs ∧ W.ownsRow base e c.sz u xs.length inner ∧ ArrR ⟨W, okr, base, 0, fun _ => undef⟩ true c xs inner) ∧
    ∀ v' : Vw, (rs.any isView = true → ∀ (c : CK) xs u, SlR W okv c xs u → SlR v'.W (v'.okf false) c xs u) → (∀ (c : CK) xs u, SlR W (fun k => okv k ∧ base ≤ k) c xs u → SlR v'.W (v'.okf true) c xs u) → (∀ (j : Nat) u, (rowsV rs us)[j]? = some u → v'.ρ (b + j) = u ∧ b + j < v'.N) → F2 (V1 v') (outCs b rs x).2 us := by
  have one : ∀ (a : RS) (x : a.T) (u : Value) (b : Nat) (us : List Value), OutC W base okr okv a x u →
      ((outC b a x).1 = [] ∧ (∀ as, rowsV (a :: as) (u :: us) = rowsV as us) ∧ ∀ v' : Vw, (isView a = true → ∀ (c : CK) xs u, SlR W okv c xs u → SlR v'.W (v'.okf false) c xs u) → (∀ (c : CK) xs u, SlR W (fun k => okv k ∧ base ≤ k) c xs u → SlR v'.W (v'.okf true) c xs u) → V1 v' (outC b a x).2 u) ∨
      (∃ e c xs inner, (outC b a x).1 = [.arr e true c xs] ∧ (∀ as, rowsV (a :: as) (u :: us) = u :: rowsV as us) ∧ W.ownsRow base e c.sz u xs.length inner ∧ ArrR ⟨W, okr, base, 0, fun _ => undef⟩ true c xs inner ∧ (outC b a x).2 = .own b) := by
    intro a x u b us h
    cases a with
    | int k => exact .inl ⟨rfl, fun _ => rfl, fun _ _ _ => h⟩
    | bool => exact .inl ⟨rfl, fun _ => rfl, fun _ _ _ => h⟩
    | str => exact .inl ⟨rfl, fun _ => rfl, fun _ _ _ => h⟩
    | row e c =>
      obtain ⟨inner, h1, h2⟩ := h
      exact .inr ⟨e, c, x, inner, rfl, fun _ => rfl, h1, h2, rfl⟩
    | view c => exact .inl ⟨rfl, fun _ => rfl, fun v' hv _ => hv rfl c x u h⟩
    | any => exact .inl ⟨rfl, fun _ => rfl, fun _ _ _ => trivial⟩
    | fview c => exact .inl ⟨rfl, fun _ => rfl, fun v' _ hf => hf c x u h⟩
    | nil => exact .inl ⟨rfl, fun _ => rfl, fun _ _ _ => h⟩
  intro rs
  induction rs with
  | nil =>
    intro x us b h
    simp only [OutsR] at h
    subst h
    exact ⟨rfl, fun j blk u hb => by simp [outCs] at hb, fun _ _ _ _ => .nil⟩
  | cons a as ih =>
    intro x us b h
    -- the head
    have main : ∀ (xa : a.T) (u : Value) (us' : List Value) (tl : Nat → List Blk × List PV), us = u :: us' → OutC W base okr okv a xa u →
        (∀ b', (tl b').1.length = (rowsV as us').length ∧
          (∀ (j : Nat) blk u, (tl b').1[j]? = some blk → (rowsV as us')[j]? = some u → ∃ e c xs inner, blk = .arr e true c xs ∧ W.ownsRow base e c.sz u xs.length inner ∧ ArrR ⟨W, okr, base, 0, fun _ => undef⟩ true c xs inner) ∧
          ∀ v' : Vw, (as.any isView = true → ∀ (c : CK) xs u, SlR W okv c xs u → SlR v'.W (v'.okf false) c xs u) → (∀ (c : CK) xs u, SlR W (fun k => okv k ∧ base ≤ k) c xs u → SlR v'.W (v'.okf true) c xs u) → (∀ (j : Nat) u, (rowsV as us')[j]? = some u → v'.ρ (b' + j) = u ∧ b' + j < v'.N) → F2 (V1 v') (tl b').2 us') →
        ∀ (o : List Blk × List PV), o = ((outC b a xa).1 ++ (tl (b + (outC b a xa).1.length)).1, (outC b a xa).2 :: (tl (b + (outC b a xa).1.length)).2) →
        o.1.length = (rowsV (a :: as) us).length ∧
        (∀ (j : Nat) blk u, o.1[j]? = some blk → (rowsV (a :: as) us)[j]? = some u → ∃ e c xs inner, blk = .arr e true c xs ∧ W.ownsRow base e c.sz u xs.length inner ∧ ArrR ⟨W, okr, base, 0, fun _ => undef⟩ true c xs inner) ∧
        ∀ v' : Vw, ((a :: as).any isView = true → ∀ (c : CK) xs u, SlR W okv c xs u → SlR v'.W (v'.okf false) c xs u) → (∀ (c : CK) xs u, SlR W (fun k => okv k ∧ base ≤ k) c xs u → SlR v'.W (v'.okf true) c xs u) → (∀ (j : Nat) u, (rowsV (a :: as) us)[j]? = some u → v'.ρ (b + j) = u ∧ b + j < v'.N) → F2 (V1 v') o.2 us := by
      rintro xa u us' tl rfl hC htl o rfl
      rcases one a xa u b us' hC with ⟨e1, e2, e3⟩ | ⟨e, c, xs, inner, e1, e2, e3, e4, e5⟩
      · obtain ⟨t1, t2, t3⟩ := htl b
        simp only [e1, e2 as, List.nil_append, List.length_nil, Nat.add_zero]
        exact ⟨t1, t2, fun v' hv hf hr => .cons (e3 v' (fun hh => hv (by simp [hh])) hf) (t3 v' (fun hh => hv (by simp only [List.any_cons, hh, Bool.or_true])) hf hr)⟩
      · obtain ⟨t1, t2, t3⟩ := htl (b + 1)
        simp only [e1, e2 as, List.length_cons, List.length_nil, Nat.zero_add, List.cons_append, List.nil_append]
        refine ⟨by rw [t1], fun j blk u' hb hu => ?_, fun v' hv hf hr => ?_⟩
        · cases j with
          | zero =>
            simp at hb hu
            subst hb; subst hu
            exact ⟨e, c, xs, inner, rfl, e3, e4⟩
          | succ j => exact t2 j blk u' (by simpa using hb) (by simpa using hu)
        · have h0 := hr 0 u rfl
          refine .cons ?_ (t3 v' (fun hh => hv (by simp only [List.any_cons, hh, Bool.or_true])) hf fun j u' hu => ?_)
          · rw [e5]
            exact ⟨h0.2, h0.1.symm, own_one e3⟩
          · have := hr (j + 1) u' (by simpa using hu)
            rwa [show b + (j + 1) = b + 1 + j by omega] at this
    cases as with
    | nil =>
      simp only [OutsR] at h
      obtain ⟨u, rfl, hC⟩ := h
      refine main x u [] (fun _ => ([], [])) rfl hC (fun b' => ⟨rfl, fun j blk u hb => by simp at hb, fun _ _ _ _ => .nil⟩) _ ?_
      simp [outCs]
    | cons a' as =>
      simp only [OutsR] at h
      obtain ⟨u, us', rfl, hC, hR⟩ := h
      exact main x.1 u us' (fun b' => outCs b' (a' :: as) x.2) rfl hC (fun b' => ih b' hR) _ rfl
end
end FN

namespace FN
open Go Go.RowKit
theorem plain1_av {v : Vw} {p : PV} {u : Value} (hv : V1 v p u) : V1 (av v.W v.ok) (plain1 p) u := by
  unfold plain1
  split
  case h_5 => exact SlR.tr ⟨Nat.le_refl _, fun k hk _ => ⟨rfl, hk.1, fun _ => Nat.zero_le _⟩⟩ (show SlR v.W (v.okf _) _ _ u from hv)
  all_goals first | exact hv | trivial
theorem plain_av {v : Vw} {p : PV} {u : Value} (hv : V v p u) : V2 (av v.W v.ok) (plain p) u := by
  cases p
  case agg ps =>
    obtain ⟨vs, rfl, hvs⟩ := hv
    exact ⟨vs, rfl, F2.map (hvs.imp fun _ _ h => plain1_av h)⟩
  case row f c xs => exact V2_of_V1 (plain1_av (p := .row f c xs) hv)
  all_goals first | exact hv | trivial
section
variable {P : Program} {E : Env'} {w w' : World} {base : Nat} {ρ : Rh} {h : Hp} {pin : Pn}
/-- The memory behind a call, for the caller: its rows are new. -/
theorem grow_outs (hH : HRel (mine pin base) w base ρ h) {rs : List RS} {x : Ts rs} {us : List Value} {okv : Nat → Prop} {W : World}
    (hs : w.heap.size ≤ W.heap.size) (hag : ∀ k, k < w.heap.size → W.heap[k]? = w.heap[k]?)
    (hrow : ∀ k, w.heap.size ≤ k → W.heap[k]? = w'.heap[k]?)
    (ho : OutsR w' w.heap.size (fun k => ∀ u ∈ rowsV rs us, blkOf u ≠ some k) okv rs x us)
    (hinj : ∀ (i j : Nat) u u' g, (rowsV rs us)[i]? = some u → (rowsV rs us)[j]? = some u' → blkOf u = some g → blkOf u' = some g → i = j)
    (hsz : w'.heap.size = W.heap.size)
    (hokv : ∀ k, okv k → ∀ u ∈ rowsV rs us, blkOf u ≠ some k)
    (hview : rs.any isView = true → ∀ (c : CK) xs u, SlR w' okv c xs u → SlR W (fun k => (okOf ρ h k ∨ w.heap.size ≤ k) ∧ ∀ u ∈ rowsV rs us, blkOf u ≠ some k) c xs u) :
    HRel (mine pin base) W base (ext ρ h.length (rowsV rs us)) (h ++ (outCs h.length rs x).1.map some) ∧
    (vw w base ρ h).Le (vw W base (ext ρ h.length (rowsV rs us)) (h ++ (outCs h.length rs x).1.map some)) ∧
    F2 (V1 (vw W base (ext ρ h.length (rowsV rs us)) (h ++ (outCs h.length rs x).1.map some))) (outCs h.length rs x).2 us := by
  obtain ⟨hln, hblk, hV⟩ := outs_all h.length ho
  have hbig : ∀ (j : Nat) u g, (rowsV rs us)[j]? = some u → blkOf u = some g → w.heap.size ≤ g := by
    intro j u g hj hg
    obtain ⟨e, c, xs, inner, _, hown, _⟩ := hblk j _ u (List.getElem?_eq_getElem (by have := (List.getElem?_eq_some_iff.1 hj).1; omega)) hj
    rw [own_blkOf hown] at hg
    exact (World.ownsRow.lt hown _ hg).1
  have hok : ∀ k, ((okOf ρ h k ∨ w.heap.size ≤ k) ∧ ∀ u ∈ rowsV rs us, blkOf u ≠ some k) → okOf (ext ρ h.length (rowsV rs us)) (h ++ (outCs h.length rs x).1.map some) k := by
    rintro k ⟨hk, hr⟩
    refine ⟨?_, fun i hi hb => ?_⟩
    · rcases hk with hk | hk
      · exact hk.1
      · exact hH.ok0 k (Nat.le_trans hH.bs hk)
    · rw [Hp.get_app] at hi
      by_cases hc : i < h.length
      · rw [if_pos hc] at hi
        rw [ext_old hc] at hb
        rcases hk with hk | hk
        · exact hk.2 i hi hb
        · have := hH.lt hi hb; omega
      · rw [if_neg hc] at hi
        have hj : i - h.length < (rowsV rs us).length := by
          rcases Nat.lt_or_ge (i - h.length) (outCs h.length rs x).1.length with h' | h'
          · omega
          · rw [List.getElem?_eq_none h'] at hi; exact absurd rfl hi
        have he := ext_new (ρ := ρ) (N := h.length) (List.getElem?_eq_getElem hj)
        rw [show h.length + (i - h.length) = i by omega] at he
        rw [he] at hb
        exact hr _ (List.getElem_mem hj) hb
  obtain ⟨a1, a2⟩ := hH.grow (H1 := h) (W' := W) (news := (outCs h.length rs x).1) (vs := rowsV rs us) rfl (fun _ _ h => h) hs (fun k hk _ => hag k hk) hln (fun j v g hv hg => .inl (hbig j v g hv hg)) hinj (fun hle j b v hb hv => by
    obtain ⟨e, c, xs, inner, rfl, hown, harr⟩ := hblk j b v hb hv
    refine ⟨inner, ⟨hown.1, ?_⟩, fun i y hy => ?_⟩
    · rcases hown.2 with h2 | ⟨g, cap, cur, hv', hb', hh, r⟩
      · exact .inl h2
      · exact .inr ⟨g, cap, cur, hv', Nat.le_trans hH.bs hb', (hrow g hb').trans hh, r⟩
    · obtain ⟨cs, e1, e2⟩ := harr i y hy
      refine ⟨cs, e1.tr ⟨Nat.le_of_eq hsz, fun k hk _ => ⟨hrow k (hk.2 rfl), hok k ⟨.inr (hk.2 rfl), hk.1⟩, fun _ => Nat.le_trans hH.bs (hk.2 rfl)⟩⟩, e2⟩)
  refine ⟨a1, a2, hV _ (fun hv c xs u hu => ?_) (fun c xs u hu => hu.tr ⟨Nat.le_of_eq hsz, fun k hk _ => ⟨hrow k hk.2, hok k ⟨.inr hk.2, hokv k hk.1⟩, fun _ => Nat.le_trans hH.bs hk.2⟩⟩) (fun j u hj => ⟨ext_new hj, ?_⟩)⟩
  · exact (hview hv c xs u hu).tr ⟨Nat.le_refl _, fun k hk _ => ⟨rfl, hok k hk, fun e => by cases e⟩⟩
  · have := (List.getElem?_eq_some_iff.1 hj).1
    simp [vw]; omega
end
end FN

