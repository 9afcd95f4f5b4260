/-
  No cell of these rows narrows 'for every input' (looked for: loops, veiled, ifaces, maps, wideKeys, modest, calm, conditions, laid).
  DERIVED. THE GIVEN ROWS OF THIS SEAT. 7 by the template 'for every input the law returns true; each argument reads behind the call as it read before'; 0 by the template 'total and deterministic' (their statements: YtlhadociaekkhaaTotals.lean).
  GIVEN WITH THE SEED: the statements are not yours to turn. If you find one false, say at which input.
  Laid BY PROGRAM, IN A SANDBOX (cutbox-rows.mjs): the forced cells as the released guide's own fill.sh prints them over the translation 09aa4b70d9f898f1… (all of the seat's roots in one cut). By AI agents, Wed Nov 11 2026. No macro, syntax, notation, axiom, sorry.
-/
import Derived.Test.YtlhadociaekkhaaChecked
import GoSem.Claim
import GoSem.ClaimJoined
import GoSem.ClaimMapViews
import Derived.JoinedTies
import Derived.KernelRfl
namespace Go.Proofs.Ytlhadociaekkhaa
/- THE CELL 'sum', in the pinned program and in every row, IS THE sha256 OF THE DUMP (.gsa) THAT YtlhadociaekkhaaProg.lean LOADS. Nothing in Lean hashes anything: it is a label: what it is worth is what the hold of that sum in a sandbox is worth. -/
noncomputable def Try.pinned : Pinned := { name := "ytlhadociaekkhaa", sum := "09aa4b70d9f898f179348cfdbd357fe17900b45087656145358e392bf7b39233", checked := Try.checked }
namespace Rows
def none {H : Type} : Left H := { results := [], args := [] }

/-- 'binnaclelaw07.MatProducts': WHATEVER THE INPUT: true; the input reads as it did. -/
def matProductsSpec : ChangeSpec := { name := "matProducts", fn := fun _ => fun
  | [d1, d2, d3] => { results := [.lit (.bool true)], args := [d1, d2, d3] }
  | _ => none }
def matProductsRow : OpenClaim := { program := "ytlhadociaekkhaa", sum := "09aa4b70d9f898f179348cfdbd357fe17900b45087656145358e392bf7b39233", func := "binnacle/binnaclelaw07.MatProducts", spec := "matProducts", inPlace := ["math/bits.Sub64", "math/bits.Add64"], unfollowed := true, recurses := true, apart := false }
def MatProductsSaid : Prop := matProductsRow.holds Try.pinned (OpenSpec.ofChange matProductsSpec)

/-- ITS FALSE NEIGHBOUR: 'it returns false'. Refute it at one input. -/
def matProductsWrong : ChangeSpec := { name := "matProducts", fn := fun _ => fun
  | [d1, d2, d3] => { results := [.lit (.bool false)], args := [d1, d2, d3] }
  | _ => none }
def MatProductsWrongFalsely : Prop := matProductsRow.holds Try.pinned (OpenSpec.ofChange matProductsWrong)

/-- 'binnaclelaw07.MatTurned': WHATEVER THE INPUT: true; the input reads as it did. -/
def matTurnedSpec : ChangeSpec := { name := "matTurned", fn := fun _ => fun
  | [d1, d2] => { results := [.lit (.bool true)], args := [d1, d2] }
  | _ => none }
def matTurnedRow : OpenClaim := { program := "ytlhadociaekkhaa", sum := "09aa4b70d9f898f179348cfdbd357fe17900b45087656145358e392bf7b39233", func := "binnacle/binnaclelaw07.MatTurned", spec := "matTurned", inPlace := ["math/bits.Sub64", "math/bits.Add64"], unfollowed := true, recurses := true, apart := false }
def MatTurnedSaid : Prop := matTurnedRow.holds Try.pinned (OpenSpec.ofChange matTurnedSpec)

/-- ITS FALSE NEIGHBOUR: 'it returns false'. Refute it at one input. -/
def matTurnedWrong : ChangeSpec := { name := "matTurned", fn := fun _ => fun
  | [d1, d2] => { results := [.lit (.bool false)], args := [d1, d2] }
  | _ => none }
def MatTurnedWrongFalsely : Prop := matTurnedRow.holds Try.pinned (OpenSpec.ofChange matTurnedWrong)

/-- 'binnaclelaw07.MatShapes': WHATEVER THE INPUT: true; the input reads as it did. -/
def matShapesSpec : ChangeSpec := { name := "matShapes", fn := fun _ => fun
  | [d1, d2, d3] => { results := [.lit (.bool true)], args := [d1, d2, d3] }
  | _ => none }
def matShapesRow : OpenClaim := { program := "ytlhadociaekkhaa", sum := "09aa4b70d9f898f179348cfdbd357fe17900b45087656145358e392bf7b39233", func := "binnacle/binnaclelaw07.MatShapes", spec := "matShapes", inPlace := ["math/bits.Sub64", "math/bits.Add64"], unfollowed := true, recurses := true, apart := false }
def MatShapesSaid : Prop := matShapesRow.holds Try.pinned (OpenSpec.ofChange matShapesSpec)

/-- ITS FALSE NEIGHBOUR: 'it returns false'. Refute it at one input. -/
def matShapesWrong : ChangeSpec := { name := "matShapes", fn := fun _ => fun
  | [d1, d2, d3] => { results := [.lit (.bool false)], args := [d1, d2, d3] }
  | _ => none }
def MatShapesWrongFalsely : Prop := matShapesRow.holds Try.pinned (OpenSpec.ofChange matShapesWrong)

/-- 'binnaclelaw07.MatSums': WHATEVER THE INPUT: true; the input reads as it did. -/
def matSumsSpec : ChangeSpec := { name := "matSums", fn := fun _ => fun
  | [d1, d2, d3] => { results := [.lit (.bool true)], args := [d1, d2, d3] }
  | _ => none }
def matSumsRow : OpenClaim := { program := "ytlhadociaekkhaa", sum := "09aa4b70d9f898f179348cfdbd357fe17900b45087656145358e392bf7b39233", func := "binnacle/binnaclelaw07.MatSums", spec := "matSums", inPlace := ["math/bits.Sub64", "math/bits.Add64"], unfollowed := true, recurses := true, apart := false }
def MatSumsSaid : Prop := matSumsRow.holds Try.pinned (OpenSpec.ofChange matSumsSpec)

/-- ITS FALSE NEIGHBOUR: 'it returns false'. Refute it at one input. -/
def matSumsWrong : ChangeSpec := { name := "matSums", fn := fun _ => fun
  | [d1, d2, d3] => { results := [.lit (.bool false)], args := [d1, d2, d3] }
  | _ => none }
def MatSumsWrongFalsely : Prop := matSumsRow.holds Try.pinned (OpenSpec.ofChange matSumsWrong)

/-- 'binnaclelaw07.MatNone': WHATEVER THE INPUT: true; the input reads as it did. -/
def matNoneSpec : ChangeSpec := { name := "matNone", fn := fun _ => fun
  | [d1, d2] => { results := [.lit (.bool true)], args := [d1, d2] }
  | _ => none }
def matNoneRow : OpenClaim := { program := "ytlhadociaekkhaa", sum := "09aa4b70d9f898f179348cfdbd357fe17900b45087656145358e392bf7b39233", func := "binnacle/binnaclelaw07.MatNone", spec := "matNone", inPlace := ["math/bits.Sub64", "math/bits.Add64"], unfollowed := true, recurses := true, apart := false }
def MatNoneSaid : Prop := matNoneRow.holds Try.pinned (OpenSpec.ofChange matNoneSpec)

/-- ITS FALSE NEIGHBOUR: 'it returns false'. Refute it at one input. -/
def matNoneWrong : ChangeSpec := { name := "matNone", fn := fun _ => fun
  | [d1, d2] => { results := [.lit (.bool false)], args := [d1, d2] }
  | _ => none }
def MatNoneWrongFalsely : Prop := matNoneRow.holds Try.pinned (OpenSpec.ofChange matNoneWrong)

/-- 'binnaclelaw07.MatKnown': WHATEVER THE INPUT: true; the input reads as it did. -/
def matKnownSpec : ChangeSpec := { name := "matKnown", fn := fun _ => fun
  | [] => { results := [.lit (.bool true)], args := [] }
  | _ => none }
def matKnownRow : OpenClaim := { program := "ytlhadociaekkhaa", sum := "09aa4b70d9f898f179348cfdbd357fe17900b45087656145358e392bf7b39233", func := "binnacle/binnaclelaw07.MatKnown", spec := "matKnown", inPlace := ["math/bits.Sub64", "math/bits.Add64"], unfollowed := true, recurses := true, apart := false }
def MatKnownSaid : Prop := matKnownRow.holds Try.pinned (OpenSpec.ofChange matKnownSpec)

/-- ITS FALSE NEIGHBOUR: 'it returns false'. Refute it at one input. -/
def matKnownWrong : ChangeSpec := { name := "matKnown", fn := fun _ => fun
  | [] => { results := [.lit (.bool false)], args := [] }
  | _ => none }
def MatKnownWrongFalsely : Prop := matKnownRow.holds Try.pinned (OpenSpec.ofChange matKnownWrong)

/-- 'binnaclelaw07.MatWhole': WHATEVER THE INPUT: true; the input reads as it did. -/
def matWholeSpec : ChangeSpec := { name := "matWhole", fn := fun _ => fun
  | [d1, d2, d3, d4] => { results := [.lit (.bool true)], args := [d1, d2, d3, d4] }
  | _ => none }
def matWholeRow : OpenClaim := { program := "ytlhadociaekkhaa", sum := "09aa4b70d9f898f179348cfdbd357fe17900b45087656145358e392bf7b39233", func := "binnacle/binnaclelaw07.MatWhole", spec := "matWhole", inPlace := ["math/bits.Sub64", "math/bits.Add64"], unfollowed := true, recurses := true, apart := false }
def MatWholeSaid : Prop := matWholeRow.holds Try.pinned (OpenSpec.ofChange matWholeSpec)

/-- ITS FALSE NEIGHBOUR: 'it returns false'. Refute it at one input. -/
def matWholeWrong : ChangeSpec := { name := "matWhole", fn := fun _ => fun
  | [d1, d2, d3, d4] => { results := [.lit (.bool false)], args := [d1, d2, d3, d4] }
  | _ => none }
def MatWholeWrongFalsely : Prop := matWholeRow.holds Try.pinned (OpenSpec.ofChange matWholeWrong)

/- THE SECOND FORM. 'bulk': how many values and letters a reading holds, each counted each time it is reached (what is shared counts as often as it is met; a slice's spare places count too). A statement '..UptoSaid' is the law's where the arguments, and the package variables that the reading takes, are together of bulk at most 1048576: NARROWER than '..Said'. Prove '..Said' where nothing that the law and all that it calls make is longer than what came in: it says more and counts as full. Else prove '..UptoSaid'. A law counts once. -/
mutual
def uptoBulk {H : Type} : DataW H → Nat
  | .lit (.string bytes) => bytes.length + 1
  | .lit _ => 1
  | .nil => 1
  | .ptr d => uptoBulk d + 1
  | .slice elems spare => uptoBulkAll elems + uptoBulkAll spare + 1
  | .agg parts => uptoBulkAll parts + 1
  | .iface _ d => uptoBulk d + 1
  | .map entries => uptoBulkEntries entries + 1
  | .held _ => 1
def uptoBulkAll {H : Type} : List (DataW H) → Nat
  | [] => 0
  | d :: r => uptoBulk d + uptoBulkAll r
def uptoBulkEntries {H : Type} : List (Lit × DataW H) → Nat
  | [] => 0
  | x :: r => uptoBulkEntry x + uptoBulkEntries r
def uptoBulkEntry {H : Type} : Lit × DataW H → Nat
  | (.string bytes, d) => bytes.length + uptoBulk d + 1
  | (_, d) => uptoBulk d + 1
 end
def uptoSmall : (H : Type) → List (DataW H) → Bool := fun _ ds => decide (uptoBulkAll ds ≤ 1048576)
def OpenSpec.upto (s : _root_.Go.ChangeSpec) : _root_.Go.OpenSpec := { _root_.Go.OpenSpec.ofChange s with cond := some uptoSmall }

/-- 'binnaclelaw07.MatProducts', WHERE WHAT IT READS IS OF BULK AT MOST 1048576: true; the input reads as it did. -/
def matProductsUptoRow : OpenClaim := { program := "ytlhadociaekkhaa", sum := "09aa4b70d9f898f179348cfdbd357fe17900b45087656145358e392bf7b39233", func := "binnacle/binnaclelaw07.MatProducts", spec := "matProducts", inPlace := ["math/bits.Sub64", "math/bits.Add64"], unfollowed := true, recurses := true, apart := false, narrowed := true }
def MatProductsUptoSaid : Prop := matProductsUptoRow.holds Try.pinned (OpenSpec.upto matProductsSpec)

/-- 'binnaclelaw07.MatTurned', WHERE WHAT IT READS IS OF BULK AT MOST 1048576: true; the input reads as it did. -/
def matTurnedUptoRow : OpenClaim := { program := "ytlhadociaekkhaa", sum := "09aa4b70d9f898f179348cfdbd357fe17900b45087656145358e392bf7b39233", func := "binnacle/binnaclelaw07.MatTurned", spec := "matTurned", inPlace := ["math/bits.Sub64", "math/bits.Add64"], unfollowed := true, recurses := true, apart := false, narrowed := true }
def MatTurnedUptoSaid : Prop := matTurnedUptoRow.holds Try.pinned (OpenSpec.upto matTurnedSpec)

/-- 'binnaclelaw07.MatShapes', WHERE WHAT IT READS IS OF BULK AT MOST 1048576: true; the input reads as it did. -/
def matShapesUptoRow : OpenClaim := { program := "ytlhadociaekkhaa", sum := "09aa4b70d9f898f179348cfdbd357fe17900b45087656145358e392bf7b39233", func := "binnacle/binnaclelaw07.MatShapes", spec := "matShapes", inPlace := ["math/bits.Sub64", "math/bits.Add64"], unfollowed := true, recurses := true, apart := false, narrowed := true }
def MatShapesUptoSaid : Prop := matShapesUptoRow.holds Try.pinned (OpenSpec.upto matShapesSpec)

/-- 'binnaclelaw07.MatSums', WHERE WHAT IT READS IS OF BULK AT MOST 1048576: true; the input reads as it did. -/
def matSumsUptoRow : OpenClaim := { program := "ytlhadociaekkhaa", sum := "09aa4b70d9f898f179348cfdbd357fe17900b45087656145358e392bf7b39233", func := "binnacle/binnaclelaw07.MatSums", spec := "matSums", inPlace := ["math/bits.Sub64", "math/bits.Add64"], unfollowed := true, recurses := true, apart := false, narrowed := true }
def MatSumsUptoSaid : Prop := matSumsUptoRow.holds Try.pinned (OpenSpec.upto matSumsSpec)

/-- 'binnaclelaw07.MatNone', WHERE WHAT IT READS IS OF BULK AT MOST 1048576: true; the input reads as it did. -/
def matNoneUptoRow : OpenClaim := { program := "ytlhadociaekkhaa", sum := "09aa4b70d9f898f179348cfdbd357fe17900b45087656145358e392bf7b39233", func := "binnacle/binnaclelaw07.MatNone", spec := "matNone", inPlace := ["math/bits.Sub64", "math/bits.Add64"], unfollowed := true, recurses := true, apart := false, narrowed := true }
def MatNoneUptoSaid : Prop := matNoneUptoRow.holds Try.pinned (OpenSpec.upto matNoneSpec)

/-- 'binnaclelaw07.MatKnown', WHERE WHAT IT READS IS OF BULK AT MOST 1048576: true; the input reads as it did. -/
def matKnownUptoRow : OpenClaim := { program := "ytlhadociaekkhaa", sum := "09aa4b70d9f898f179348cfdbd357fe17900b45087656145358e392bf7b39233", func := "binnacle/binnaclelaw07.MatKnown", spec := "matKnown", inPlace := ["math/bits.Sub64", "math/bits.Add64"], unfollowed := true, recurses := true, apart := false, narrowed := true }
def MatKnownUptoSaid : Prop := matKnownUptoRow.holds Try.pinned (OpenSpec.upto matKnownSpec)

/-- 'binnaclelaw07.MatWhole', WHERE WHAT IT READS IS OF BULK AT MOST 1048576: true; the input reads as it did. -/
def matWholeUptoRow : OpenClaim := { program := "ytlhadociaekkhaa", sum := "09aa4b70d9f898f179348cfdbd357fe17900b45087656145358e392bf7b39233", func := "binnacle/binnaclelaw07.MatWhole", spec := "matWhole", inPlace := ["math/bits.Sub64", "math/bits.Add64"], unfollowed := true, recurses := true, apart := false, narrowed := true }
def MatWholeUptoSaid : Prop := matWholeUptoRow.holds Try.pinned (OpenSpec.upto matWholeSpec)

end Rows
end Go.Proofs.Ytlhadociaekkhaa
