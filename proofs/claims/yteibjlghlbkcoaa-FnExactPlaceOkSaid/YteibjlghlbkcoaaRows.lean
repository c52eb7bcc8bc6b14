/-
  No cell of these rows narrows 'for every input' (looked for: loops, veiled, ifaces, maps, wideKeys, modest, calm, conditions, laid).
  DERIVED. THE GIVEN ROWS OF THIS SEAT. 6 by the template 'for every input the law returns true; each argument reads behind the call as it read before'; 0 by the template 'total and deterministic' (their statements: YteibjlghlbkcoaaTotals.lean).
  GIVEN WITH THE SEED: the statements are not yours to turn. If you find one false, say at which input.
  Laid BY PROGRAM, IN A SANDBOX (cutbox-rows.mjs): the forced cells as the released guide's own fill.sh prints them over the translation 7ef0b0e410d956dd… (all of the seat's roots in one cut). By AI agents, Wed Nov 11 2026. No macro, syntax, notation, axiom, sorry.
-/
import Derived.Test.YteibjlghlbkcoaaChecked
import GoSem.Claim
import GoSem.ClaimJoined
import GoSem.ClaimMapViews
import Derived.JoinedTies
import Derived.KernelRfl
namespace Go.Proofs.Yteibjlghlbkcoaa
/- THE CELL 'sum', in the pinned program and in every row, IS THE sha256 OF THE DUMP (.gsa) THAT YteibjlghlbkcoaaProg.lean LOADS. Nothing in Lean hashes anything: it is a label: what it is worth is what the hold of that sum in a sandbox is worth. -/
noncomputable def Try.pinned : Pinned := { name := "yteibjlghlbkcoaa", sum := "7ef0b0e410d956dd215b8b0b3acfb6051fdd39eb164695f8c4bac752ae287717", checked := Try.checked }
namespace Rows
def none {H : Type} : Left H := { results := [], args := [] }

/-- 'laws.FnSquareTours': WHATEVER THE INPUT: true; the input reads as it did. -/
def fnSquareToursSpec : ChangeSpec := { name := "fnSquareTours", fn := fun _ => fun
  | [d] => { results := [.lit (.bool true)], args := [d] }
  | _ => none }
def fnSquareToursRow : OpenClaim := { program := "yteibjlghlbkcoaa", sum := "7ef0b0e410d956dd215b8b0b3acfb6051fdd39eb164695f8c4bac752ae287717", func := "loop.example/firingnets/laws.FnSquareTours", spec := "fnSquareTours", unfollowed := true, recurses := true, apart := false }
def FnSquareToursSaid : Prop := fnSquareToursRow.holds Try.pinned (OpenSpec.ofChange fnSquareToursSpec)

/-- ITS FALSE NEIGHBOUR: 'it returns false'. Refute it at one input. -/
def fnSquareToursWrong : ChangeSpec := { name := "fnSquareTours", fn := fun _ => fun
  | [d] => { results := [.lit (.bool false)], args := [d] }
  | _ => none }
def FnSquareToursWrongFalsely : Prop := fnSquareToursRow.holds Try.pinned (OpenSpec.ofChange fnSquareToursWrong)

/-- 'laws.FnExactPlaceOk': WHATEVER THE INPUT: true; the input reads as it did. -/
def fnExactPlaceOkSpec : ChangeSpec := { name := "fnExactPlaceOk", fn := fun _ => fun
  | [d] => { results := [.lit (.bool true)], args := [d] }
  | _ => none }
def fnExactPlaceOkRow : OpenClaim := { program := "yteibjlghlbkcoaa", sum := "7ef0b0e410d956dd215b8b0b3acfb6051fdd39eb164695f8c4bac752ae287717", func := "loop.example/firingnets/laws.FnExactPlaceOk", spec := "fnExactPlaceOk", apart := false }
def FnExactPlaceOkSaid : Prop := fnExactPlaceOkRow.holds Try.pinned (OpenSpec.ofChange fnExactPlaceOkSpec)

/-- ITS FALSE NEIGHBOUR: 'it returns false'. Refute it at one input. -/
def fnExactPlaceOkWrong : ChangeSpec := { name := "fnExactPlaceOk", fn := fun _ => fun
  | [d] => { results := [.lit (.bool false)], args := [d] }
  | _ => none }
def FnExactPlaceOkWrongFalsely : Prop := fnExactPlaceOkRow.holds Try.pinned (OpenSpec.ofChange fnExactPlaceOkWrong)

/-- 'laws.FnGridNet': WHATEVER THE INPUT: true; the input reads as it did. -/
def fnGridNetSpec : ChangeSpec := { name := "fnGridNet", fn := fun _ => fun
  | [d] => { results := [.lit (.bool true)], args := [d] }
  | _ => none }
def fnGridNetRow : OpenClaim := { program := "yteibjlghlbkcoaa", sum := "7ef0b0e410d956dd215b8b0b3acfb6051fdd39eb164695f8c4bac752ae287717", func := "loop.example/firingnets/laws.FnGridNet", spec := "fnGridNet", unfollowed := true, recurses := true, apart := false }
def FnGridNetSaid : Prop := fnGridNetRow.holds Try.pinned (OpenSpec.ofChange fnGridNetSpec)

/-- ITS FALSE NEIGHBOUR: 'it returns false'. Refute it at one input. -/
def fnGridNetWrong : ChangeSpec := { name := "fnGridNet", fn := fun _ => fun
  | [d] => { results := [.lit (.bool false)], args := [d] }
  | _ => none }
def FnGridNetWrongFalsely : Prop := fnGridNetRow.holds Try.pinned (OpenSpec.ofChange fnGridNetWrong)

/-- 'laws.FnBorderTour': WHATEVER THE INPUT: true; the input reads as it did. -/
def fnBorderTourSpec : ChangeSpec := { name := "fnBorderTour", fn := fun _ => fun
  | [d] => { results := [.lit (.bool true)], args := [d] }
  | _ => none }
def fnBorderTourRow : OpenClaim := { program := "yteibjlghlbkcoaa", sum := "7ef0b0e410d956dd215b8b0b3acfb6051fdd39eb164695f8c4bac752ae287717", func := "loop.example/firingnets/laws.FnBorderTour", spec := "fnBorderTour", unfollowed := true, recurses := true, apart := false }
def FnBorderTourSaid : Prop := fnBorderTourRow.holds Try.pinned (OpenSpec.ofChange fnBorderTourSpec)

/-- ITS FALSE NEIGHBOUR: 'it returns false'. Refute it at one input. -/
def fnBorderTourWrong : ChangeSpec := { name := "fnBorderTour", fn := fun _ => fun
  | [d] => { results := [.lit (.bool false)], args := [d] }
  | _ => none }
def FnBorderTourWrongFalsely : Prop := fnBorderTourRow.holds Try.pinned (OpenSpec.ofChange fnBorderTourWrong)

/-- 'laws.FnGridFar': WHATEVER THE INPUT: true; the input reads as it did. -/
def fnGridFarSpec : ChangeSpec := { name := "fnGridFar", fn := fun _ => fun
  | [d] => { results := [.lit (.bool true)], args := [d] }
  | _ => none }
def fnGridFarRow : OpenClaim := { program := "yteibjlghlbkcoaa", sum := "7ef0b0e410d956dd215b8b0b3acfb6051fdd39eb164695f8c4bac752ae287717", func := "loop.example/firingnets/laws.FnGridFar", spec := "fnGridFar", unfollowed := true, recurses := true, apart := false }
def FnGridFarSaid : Prop := fnGridFarRow.holds Try.pinned (OpenSpec.ofChange fnGridFarSpec)

/-- ITS FALSE NEIGHBOUR: 'it returns false'. Refute it at one input. -/
def fnGridFarWrong : ChangeSpec := { name := "fnGridFar", fn := fun _ => fun
  | [d] => { results := [.lit (.bool false)], args := [d] }
  | _ => none }
def FnGridFarWrongFalsely : Prop := fnGridFarRow.holds Try.pinned (OpenSpec.ofChange fnGridFarWrong)

/-- 'laws.FnPlaceOk': WHATEVER THE INPUT: true; the input reads as it did. -/
def fnPlaceOkSpec : ChangeSpec := { name := "fnPlaceOk", fn := fun _ => fun
  | [d] => { results := [.lit (.bool true)], args := [d] }
  | _ => none }
def fnPlaceOkRow : OpenClaim := { program := "yteibjlghlbkcoaa", sum := "7ef0b0e410d956dd215b8b0b3acfb6051fdd39eb164695f8c4bac752ae287717", func := "loop.example/firingnets/laws.FnPlaceOk", spec := "fnPlaceOk", apart := false }
def FnPlaceOkSaid : Prop := fnPlaceOkRow.holds Try.pinned (OpenSpec.ofChange fnPlaceOkSpec)

/-- ITS FALSE NEIGHBOUR: 'it returns false'. Refute it at one input. -/
def fnPlaceOkWrong : ChangeSpec := { name := "fnPlaceOk", fn := fun _ => fun
  | [d] => { results := [.lit (.bool false)], args := [d] }
  | _ => none }
def FnPlaceOkWrongFalsely : Prop := fnPlaceOkRow.holds Try.pinned (OpenSpec.ofChange fnPlaceOkWrong)

/- THE SECOND FORM. 'bulk': how many values and letters a reading holds, each counted each time it is reached (what is shared counts as often as it is met; a slice's spare places count too). A statement '..UptoSaid' is the law's where the arguments, and the package variables that the reading takes, are together of bulk at most 1048576: NARROWER than '..Said'. Prove '..Said' where nothing that the law and all that it calls make is longer than what came in: it says more and counts as full. Else prove '..UptoSaid'. A law counts once. -/
mutual
def uptoBulk {H : Type} : DataW H → Nat
  | .lit (.string bytes) => bytes.length + 1
  | .lit _ => 1
  | .nil => 1
  | .ptr d => uptoBulk d + 1
  | .slice elems spare => uptoBulkAll elems + uptoBulkAll spare + 1
  | .agg parts => uptoBulkAll parts + 1
  | .iface _ d => uptoBulk d + 1
  | .map entries => uptoBulkEntries entries + 1
  | .held _ => 1
def uptoBulkAll {H : Type} : List (DataW H) → Nat
  | [] => 0
  | d :: r => uptoBulk d + uptoBulkAll r
def uptoBulkEntries {H : Type} : List (Lit × DataW H) → Nat
  | [] => 0
  | x :: r => uptoBulkEntry x + uptoBulkEntries r
def uptoBulkEntry {H : Type} : Lit × DataW H → Nat
  | (.string bytes, d) => bytes.length + uptoBulk d + 1
  | (_, d) => uptoBulk d + 1
 end
def uptoSmall : (H : Type) → List (DataW H) → Bool := fun _ ds => decide (uptoBulkAll ds ≤ 1048576)
def OpenSpec.upto (s : _root_.Go.ChangeSpec) : _root_.Go.OpenSpec := { _root_.Go.OpenSpec.ofChange s with cond := some uptoSmall }

/-- 'laws.FnSquareTours', WHERE WHAT IT READS IS OF BULK AT MOST 1048576: true; the input reads as it did. -/
def fnSquareToursUptoRow : OpenClaim := { program := "yteibjlghlbkcoaa", sum := "7ef0b0e410d956dd215b8b0b3acfb6051fdd39eb164695f8c4bac752ae287717", func := "loop.example/firingnets/laws.FnSquareTours", spec := "fnSquareTours", unfollowed := true, recurses := true, apart := false, narrowed := true }
def FnSquareToursUptoSaid : Prop := fnSquareToursUptoRow.holds Try.pinned (OpenSpec.upto fnSquareToursSpec)

/-- 'laws.FnExactPlaceOk', WHERE WHAT IT READS IS OF BULK AT MOST 1048576: true; the input reads as it did. -/
def fnExactPlaceOkUptoRow : OpenClaim := { program := "yteibjlghlbkcoaa", sum := "7ef0b0e410d956dd215b8b0b3acfb6051fdd39eb164695f8c4bac752ae287717", func := "loop.example/firingnets/laws.FnExactPlaceOk", spec := "fnExactPlaceOk", apart := false, narrowed := true }
def FnExactPlaceOkUptoSaid : Prop := fnExactPlaceOkUptoRow.holds Try.pinned (OpenSpec.upto fnExactPlaceOkSpec)

/-- 'laws.FnGridNet', WHERE WHAT IT READS IS OF BULK AT MOST 1048576: true; the input reads as it did. -/
def fnGridNetUptoRow : OpenClaim := { program := "yteibjlghlbkcoaa", sum := "7ef0b0e410d956dd215b8b0b3acfb6051fdd39eb164695f8c4bac752ae287717", func := "loop.example/firingnets/laws.FnGridNet", spec := "fnGridNet", unfollowed := true, recurses := true, apart := false, narrowed := true }
def FnGridNetUptoSaid : Prop := fnGridNetUptoRow.holds Try.pinned (OpenSpec.upto fnGridNetSpec)

/-- 'laws.FnBorderTour', WHERE WHAT IT READS IS OF BULK AT MOST 1048576: true; the input reads as it did. -/
def fnBorderTourUptoRow : OpenClaim := { program := "yteibjlghlbkcoaa", sum := "7ef0b0e410d956dd215b8b0b3acfb6051fdd39eb164695f8c4bac752ae287717", func := "loop.example/firingnets/laws.FnBorderTour", spec := "fnBorderTour", unfollowed := true, recurses := true, apart := false, narrowed := true }
def FnBorderTourUptoSaid : Prop := fnBorderTourUptoRow.holds Try.pinned (OpenSpec.upto fnBorderTourSpec)

/-- 'laws.FnGridFar', WHERE WHAT IT READS IS OF BULK AT MOST 1048576: true; the input reads as it did. -/
def fnGridFarUptoRow : OpenClaim := { program := "yteibjlghlbkcoaa", sum := "7ef0b0e410d956dd215b8b0b3acfb6051fdd39eb164695f8c4bac752ae287717", func := "loop.example/firingnets/laws.FnGridFar", spec := "fnGridFar", unfollowed := true, recurses := true, apart := false, narrowed := true }
def FnGridFarUptoSaid : Prop := fnGridFarUptoRow.holds Try.pinned (OpenSpec.upto fnGridFarSpec)

/-- 'laws.FnPlaceOk', WHERE WHAT IT READS IS OF BULK AT MOST 1048576: true; the input reads as it did. -/
def fnPlaceOkUptoRow : OpenClaim := { program := "yteibjlghlbkcoaa", sum := "7ef0b0e410d956dd215b8b0b3acfb6051fdd39eb164695f8c4bac752ae287717", func := "loop.example/firingnets/laws.FnPlaceOk", spec := "fnPlaceOk", apart := false, narrowed := true }
def FnPlaceOkUptoSaid : Prop := fnPlaceOkUptoRow.holds Try.pinned (OpenSpec.upto fnPlaceOkSpec)

end Rows
end Go.Proofs.Yteibjlghlbkcoaa
