/-
  No cell of these rows narrows 'for every input' (looked for: loops, veiled, ifaces, maps, wideKeys, modest, calm, conditions, laid).
  DERIVED. THE GIVEN ROWS OF THIS SEAT. 12 by the template 'for every input the law returns true; each argument reads behind the call as it read before'; 0 by the template 'total and deterministic' (their statements: YtfhiodclbabdkaaTotals.lean).
  GIVEN WITH THE SEED: the statements are not yours to turn. If you find one false, say at which input.
  Laid BY PROGRAM, IN A SANDBOX (cutbox-rows.mjs): the forced cells as the released guide's own fill.sh prints them over the translation be04a838ccf72b5c… (all of the seat's roots in one cut). By AI agents, Wed Nov 11 2026. No macro, syntax, notation, axiom, sorry.
-/
import Derived.Test.YtfhiodclbabdkaaChecked
import GoSem.Claim
import GoSem.ClaimJoined
import GoSem.ClaimMapViews
import Derived.JoinedTies
import Derived.KernelRfl
namespace Go.Proofs.Ytfhiodclbabdkaa
/- THE CELL 'sum', in the pinned program and in every row, IS THE sha256 OF THE DUMP (.gsa) THAT YtfhiodclbabdkaaProg.lean LOADS. Nothing in Lean hashes anything: it is a label: what it is worth is what the hold of that sum in a sandbox is worth. -/
noncomputable def Try.pinned : Pinned := { name := "ytfhiodclbabdkaa", sum := "be04a838ccf72b5cb0b4fa9f6dbb8ade688e60f0e449fe900b4d8f31e8b048a5", checked := Try.checked }
namespace Rows
def none {H : Type} : Left H := { results := [], args := [] }

/-- 'binnaclelaw06.VecDots': WHATEVER THE INPUT: true; the input reads as it did. -/
def vecDotsSpec : ChangeSpec := { name := "vecDots", fn := fun _ => fun
  | [d1, d2, d3] => { results := [.lit (.bool true)], args := [d1, d2, d3] }
  | _ => none }
def vecDotsRow : OpenClaim := { program := "ytfhiodclbabdkaa", sum := "be04a838ccf72b5cb0b4fa9f6dbb8ade688e60f0e449fe900b4d8f31e8b048a5", func := "binnacle/binnaclelaw06.VecDots", spec := "vecDots", inPlace := ["math/bits.Add64", "math/bits.Sub64"], unfollowed := true, recurses := true, apart := false }
def VecDotsSaid : Prop := vecDotsRow.holds Try.pinned (OpenSpec.ofChange vecDotsSpec)

/-- ITS FALSE NEIGHBOUR: 'it returns false'. Refute it at one input. -/
def vecDotsWrong : ChangeSpec := { name := "vecDots", fn := fun _ => fun
  | [d1, d2, d3] => { results := [.lit (.bool false)], args := [d1, d2, d3] }
  | _ => none }
def VecDotsWrongFalsely : Prop := vecDotsRow.holds Try.pinned (OpenSpec.ofChange vecDotsWrong)

/-- 'binnaclelaw06.VecNone': WHATEVER THE INPUT: true; the input reads as it did. -/
def vecNoneSpec : ChangeSpec := { name := "vecNone", fn := fun _ => fun
  | [d1, d2] => { results := [.lit (.bool true)], args := [d1, d2] }
  | _ => none }
def vecNoneRow : OpenClaim := { program := "ytfhiodclbabdkaa", sum := "be04a838ccf72b5cb0b4fa9f6dbb8ade688e60f0e449fe900b4d8f31e8b048a5", func := "binnacle/binnaclelaw06.VecNone", spec := "vecNone", inPlace := ["math/bits.Add64", "math/bits.Sub64"], unfollowed := true, recurses := true, apart := false }
def VecNoneSaid : Prop := vecNoneRow.holds Try.pinned (OpenSpec.ofChange vecNoneSpec)

/-- ITS FALSE NEIGHBOUR: 'it returns false'. Refute it at one input. -/
def vecNoneWrong : ChangeSpec := { name := "vecNone", fn := fun _ => fun
  | [d1, d2] => { results := [.lit (.bool false)], args := [d1, d2] }
  | _ => none }
def VecNoneWrongFalsely : Prop := vecNoneRow.holds Try.pinned (OpenSpec.ofChange vecNoneWrong)

/-- 'binnaclelaw06.VecKnown': WHATEVER THE INPUT: true; the input reads as it did. -/
def vecKnownSpec : ChangeSpec := { name := "vecKnown", fn := fun _ => fun
  | [] => { results := [.lit (.bool true)], args := [] }
  | _ => none }
def vecKnownRow : OpenClaim := { program := "ytfhiodclbabdkaa", sum := "be04a838ccf72b5cb0b4fa9f6dbb8ade688e60f0e449fe900b4d8f31e8b048a5", func := "binnacle/binnaclelaw06.VecKnown", spec := "vecKnown", inPlace := ["math/bits.Sub64", "math/bits.Add64"], unfollowed := true, recurses := true, apart := false }
def VecKnownSaid : Prop := vecKnownRow.holds Try.pinned (OpenSpec.ofChange vecKnownSpec)

/-- ITS FALSE NEIGHBOUR: 'it returns false'. Refute it at one input. -/
def vecKnownWrong : ChangeSpec := { name := "vecKnown", fn := fun _ => fun
  | [] => { results := [.lit (.bool false)], args := [] }
  | _ => none }
def VecKnownWrongFalsely : Prop := vecKnownRow.holds Try.pinned (OpenSpec.ofChange vecKnownWrong)

/-- 'binnaclelaw06.VecMost': WHATEVER THE INPUT: true; the input reads as it did. -/
def vecMostSpec : ChangeSpec := { name := "vecMost", fn := fun _ => fun
  | [d] => { results := [.lit (.bool true)], args := [d] }
  | _ => none }
def vecMostRow : OpenClaim := { program := "ytfhiodclbabdkaa", sum := "be04a838ccf72b5cb0b4fa9f6dbb8ade688e60f0e449fe900b4d8f31e8b048a5", func := "binnacle/binnaclelaw06.VecMost", spec := "vecMost", inPlace := ["math/bits.Add64", "math/bits.Sub64"], unfollowed := true, recurses := true, apart := false }
def VecMostSaid : Prop := vecMostRow.holds Try.pinned (OpenSpec.ofChange vecMostSpec)

/-- ITS FALSE NEIGHBOUR: 'it returns false'. Refute it at one input. -/
def vecMostWrong : ChangeSpec := { name := "vecMost", fn := fun _ => fun
  | [d] => { results := [.lit (.bool false)], args := [d] }
  | _ => none }
def VecMostWrongFalsely : Prop := vecMostRow.holds Try.pinned (OpenSpec.ofChange vecMostWrong)

/-- 'binnaclelaw06.VecBack': WHATEVER THE INPUT: true; the input reads as it did. -/
def vecBackSpec : ChangeSpec := { name := "vecBack", fn := fun _ => fun
  | [d1, d2] => { results := [.lit (.bool true)], args := [d1, d2] }
  | _ => none }
def vecBackRow : OpenClaim := { program := "ytfhiodclbabdkaa", sum := "be04a838ccf72b5cb0b4fa9f6dbb8ade688e60f0e449fe900b4d8f31e8b048a5", func := "binnacle/binnaclelaw06.VecBack", spec := "vecBack", inPlace := ["math/bits.Sub64", "math/bits.Add64"], unfollowed := true, recurses := true, apart := false }
def VecBackSaid : Prop := vecBackRow.holds Try.pinned (OpenSpec.ofChange vecBackSpec)

/-- ITS FALSE NEIGHBOUR: 'it returns false'. Refute it at one input. -/
def vecBackWrong : ChangeSpec := { name := "vecBack", fn := fun _ => fun
  | [d1, d2] => { results := [.lit (.bool false)], args := [d1, d2] }
  | _ => none }
def VecBackWrongFalsely : Prop := vecBackRow.holds Try.pinned (OpenSpec.ofChange vecBackWrong)

/-- 'binnaclelaw06.VecReckons': WHATEVER THE INPUT: true; the input reads as it did. -/
def vecReckonsSpec : ChangeSpec := { name := "vecReckons", fn := fun _ => fun
  | [d1, d2, d3] => { results := [.lit (.bool true)], args := [d1, d2, d3] }
  | _ => none }
def vecReckonsRow : OpenClaim := { program := "ytfhiodclbabdkaa", sum := "be04a838ccf72b5cb0b4fa9f6dbb8ade688e60f0e449fe900b4d8f31e8b048a5", func := "binnacle/binnaclelaw06.VecReckons", spec := "vecReckons", inPlace := ["math/bits.Add64", "math/bits.Sub64"], unfollowed := true, recurses := true, apart := false }
def VecReckonsSaid : Prop := vecReckonsRow.holds Try.pinned (OpenSpec.ofChange vecReckonsSpec)

/-- ITS FALSE NEIGHBOUR: 'it returns false'. Refute it at one input. -/
def vecReckonsWrong : ChangeSpec := { name := "vecReckons", fn := fun _ => fun
  | [d1, d2, d3] => { results := [.lit (.bool false)], args := [d1, d2, d3] }
  | _ => none }
def VecReckonsWrongFalsely : Prop := vecReckonsRow.holds Try.pinned (OpenSpec.ofChange vecReckonsWrong)

/-- 'binnaclelaw02.FixTimes': WHATEVER THE INPUT: true; the input reads as it did. -/
def fixTimesSpec : ChangeSpec := { name := "fixTimes", fn := fun _ => fun
  | [d1, d2] => { results := [.lit (.bool true)], args := [d1, d2] }
  | _ => none }
def fixTimesRow : OpenClaim := { program := "ytfhiodclbabdkaa", sum := "be04a838ccf72b5cb0b4fa9f6dbb8ade688e60f0e449fe900b4d8f31e8b048a5", func := "binnacle/binnaclelaw02.FixTimes", spec := "fixTimes", inPlace := ["math/bits.Sub64", "math/bits.Add64"], unfollowed := true, recurses := true, named := ["math/bits.divideError", "math/bits.overflowError"], apart := false }
def FixTimesSaid : Prop := fixTimesRow.holds Try.pinned (OpenSpec.ofChange fixTimesSpec)

/-- ITS FALSE NEIGHBOUR: 'it returns false'. Refute it at one input. -/
def fixTimesWrong : ChangeSpec := { name := "fixTimes", fn := fun _ => fun
  | [d1, d2] => { results := [.lit (.bool false)], args := [d1, d2] }
  | _ => none }
def FixTimesWrongFalsely : Prop := fixTimesRow.holds Try.pinned (OpenSpec.ofChange fixTimesWrong)

/-- 'binnaclelaw02.FixAdds': WHATEVER THE INPUT: true; the input reads as it did. -/
def fixAddsSpec : ChangeSpec := { name := "fixAdds", fn := fun _ => fun
  | [d1, d2] => { results := [.lit (.bool true)], args := [d1, d2] }
  | _ => none }
def fixAddsRow : OpenClaim := { program := "ytfhiodclbabdkaa", sum := "be04a838ccf72b5cb0b4fa9f6dbb8ade688e60f0e449fe900b4d8f31e8b048a5", func := "binnacle/binnaclelaw02.FixAdds", spec := "fixAdds", inPlace := ["math/bits.Add64", "math/bits.Sub64"], unfollowed := true, recurses := true, named := ["math/bits.divideError", "math/bits.overflowError"], apart := false }
def FixAddsSaid : Prop := fixAddsRow.holds Try.pinned (OpenSpec.ofChange fixAddsSpec)

/-- ITS FALSE NEIGHBOUR: 'it returns false'. Refute it at one input. -/
def fixAddsWrong : ChangeSpec := { name := "fixAdds", fn := fun _ => fun
  | [d1, d2] => { results := [.lit (.bool false)], args := [d1, d2] }
  | _ => none }
def FixAddsWrongFalsely : Prop := fixAddsRow.holds Try.pinned (OpenSpec.ofChange fixAddsWrong)

/-- 'binnaclelaw02.FixKnown': WHATEVER THE INPUT: true; the input reads as it did. -/
def fixKnownSpec : ChangeSpec := { name := "fixKnown", fn := fun _ => fun
  | [] => { results := [.lit (.bool true)], args := [] }
  | _ => none }
def fixKnownRow : OpenClaim := { program := "ytfhiodclbabdkaa", sum := "be04a838ccf72b5cb0b4fa9f6dbb8ade688e60f0e449fe900b4d8f31e8b048a5", func := "binnacle/binnaclelaw02.FixKnown", spec := "fixKnown", inPlace := ["math/bits.Add64", "math/bits.Sub64"], unfollowed := true, recurses := true, named := ["math/bits.divideError", "math/bits.overflowError"], apart := false }
def FixKnownSaid : Prop := fixKnownRow.holds Try.pinned (OpenSpec.ofChange fixKnownSpec)

/-- ITS FALSE NEIGHBOUR: 'it returns false'. Refute it at one input. -/
def fixKnownWrong : ChangeSpec := { name := "fixKnown", fn := fun _ => fun
  | [] => { results := [.lit (.bool false)], args := [] }
  | _ => none }
def FixKnownWrongFalsely : Prop := fixKnownRow.holds Try.pinned (OpenSpec.ofChange fixKnownWrong)

/-- 'binnaclelaw02.FixSame': WHATEVER THE INPUT: true; the input reads as it did. -/
def fixSameSpec : ChangeSpec := { name := "fixSame", fn := fun _ => fun
  | [d1, d2] => { results := [.lit (.bool true)], args := [d1, d2] }
  | _ => none }
def fixSameRow : OpenClaim := { program := "ytfhiodclbabdkaa", sum := "be04a838ccf72b5cb0b4fa9f6dbb8ade688e60f0e449fe900b4d8f31e8b048a5", func := "binnacle/binnaclelaw02.FixSame", spec := "fixSame", inPlace := ["math/bits.Add64", "math/bits.Sub64"], unfollowed := true, recurses := true, named := ["math/bits.divideError", "math/bits.overflowError"], apart := false }
def FixSameSaid : Prop := fixSameRow.holds Try.pinned (OpenSpec.ofChange fixSameSpec)

/-- ITS FALSE NEIGHBOUR: 'it returns false'. Refute it at one input. -/
def fixSameWrong : ChangeSpec := { name := "fixSame", fn := fun _ => fun
  | [d1, d2] => { results := [.lit (.bool false)], args := [d1, d2] }
  | _ => none }
def FixSameWrongFalsely : Prop := fixSameRow.holds Try.pinned (OpenSpec.ofChange fixSameWrong)

/-- 'binnaclelaw04.UnitNone': WHATEVER THE INPUT: true; the input reads as it did. -/
def unitNoneSpec : ChangeSpec := { name := "unitNone", fn := fun _ => fun
  | [d] => { results := [.lit (.bool true)], args := [d] }
  | _ => none }
def unitNoneRow : OpenClaim := { program := "ytfhiodclbabdkaa", sum := "be04a838ccf72b5cb0b4fa9f6dbb8ade688e60f0e449fe900b4d8f31e8b048a5", func := "binnacle/binnaclelaw04.UnitNone", spec := "unitNone", inPlace := ["math/bits.Add64", "math/bits.Sub64"], unfollowed := true, recurses := true, named := ["math/bits.divideError", "math/bits.overflowError"], apart := false }
def UnitNoneSaid : Prop := unitNoneRow.holds Try.pinned (OpenSpec.ofChange unitNoneSpec)

/-- ITS FALSE NEIGHBOUR: 'it returns false'. Refute it at one input. -/
def unitNoneWrong : ChangeSpec := { name := "unitNone", fn := fun _ => fun
  | [d] => { results := [.lit (.bool false)], args := [d] }
  | _ => none }
def UnitNoneWrongFalsely : Prop := unitNoneRow.holds Try.pinned (OpenSpec.ofChange unitNoneWrong)

/-- 'binnaclelaw04.UnitKeeps': WHATEVER THE INPUT: true; the input reads as it did. -/
def unitKeepsSpec : ChangeSpec := { name := "unitKeeps", fn := fun _ => fun
  | [d] => { results := [.lit (.bool true)], args := [d] }
  | _ => none }
def unitKeepsRow : OpenClaim := { program := "ytfhiodclbabdkaa", sum := "be04a838ccf72b5cb0b4fa9f6dbb8ade688e60f0e449fe900b4d8f31e8b048a5", func := "binnacle/binnaclelaw04.UnitKeeps", spec := "unitKeeps", inPlace := ["math/bits.Add64", "math/bits.Sub64"], unfollowed := true, recurses := true, named := ["math/bits.divideError", "math/bits.overflowError"], apart := false }
def UnitKeepsSaid : Prop := unitKeepsRow.holds Try.pinned (OpenSpec.ofChange unitKeepsSpec)

/-- ITS FALSE NEIGHBOUR: 'it returns false'. Refute it at one input. -/
def unitKeepsWrong : ChangeSpec := { name := "unitKeeps", fn := fun _ => fun
  | [d] => { results := [.lit (.bool false)], args := [d] }
  | _ => none }
def UnitKeepsWrongFalsely : Prop := unitKeepsRow.holds Try.pinned (OpenSpec.ofChange unitKeepsWrong)

/- THE SECOND FORM. 'bulk': how many values and letters a reading holds, each counted each time it is reached (what is shared counts as often as it is met; a slice's spare places count too). A statement '..UptoSaid' is the law's where the arguments, and the package variables that the reading takes, are together of bulk at most 1048576: NARROWER than '..Said'. Prove '..Said' where nothing that the law and all that it calls make is longer than what came in: it says more and counts as full. Else prove '..UptoSaid'. A law counts once. -/
mutual
def uptoBulk {H : Type} : DataW H → Nat
  | .lit (.string bytes) => bytes.length + 1
  | .lit _ => 1
  | .nil => 1
  | .ptr d => uptoBulk d + 1
  | .slice elems spare => uptoBulkAll elems + uptoBulkAll spare + 1
  | .agg parts => uptoBulkAll parts + 1
  | .iface _ d => uptoBulk d + 1
  | .map entries => uptoBulkEntries entries + 1
  | .held _ => 1
def uptoBulkAll {H : Type} : List (DataW H) → Nat
  | [] => 0
  | d :: r => uptoBulk d + uptoBulkAll r
def uptoBulkEntries {H : Type} : List (Lit × DataW H) → Nat
  | [] => 0
  | x :: r => uptoBulkEntry x + uptoBulkEntries r
def uptoBulkEntry {H : Type} : Lit × DataW H → Nat
  | (.string bytes, d) => bytes.length + uptoBulk d + 1
  | (_, d) => uptoBulk d + 1
 end
def uptoSmall : (H : Type) → List (DataW H) → Bool := fun _ ds => decide (uptoBulkAll ds ≤ 1048576)
def OpenSpec.upto (s : _root_.Go.ChangeSpec) : _root_.Go.OpenSpec := { _root_.Go.OpenSpec.ofChange s with cond := some uptoSmall }

/-- 'binnaclelaw06.VecDots', WHERE WHAT IT READS IS OF BULK AT MOST 1048576: true; the input reads as it did. -/
def vecDotsUptoRow : OpenClaim := { program := "ytfhiodclbabdkaa", sum := "be04a838ccf72b5cb0b4fa9f6dbb8ade688e60f0e449fe900b4d8f31e8b048a5", func := "binnacle/binnaclelaw06.VecDots", spec := "vecDots", inPlace := ["math/bits.Add64", "math/bits.Sub64"], unfollowed := true, recurses := true, apart := false, narrowed := true }
def VecDotsUptoSaid : Prop := vecDotsUptoRow.holds Try.pinned (OpenSpec.upto vecDotsSpec)

/-- 'binnaclelaw06.VecNone', WHERE WHAT IT READS IS OF BULK AT MOST 1048576: true; the input reads as it did. -/
def vecNoneUptoRow : OpenClaim := { program := "ytfhiodclbabdkaa", sum := "be04a838ccf72b5cb0b4fa9f6dbb8ade688e60f0e449fe900b4d8f31e8b048a5", func := "binnacle/binnaclelaw06.VecNone", spec := "vecNone", inPlace := ["math/bits.Add64", "math/bits.Sub64"], unfollowed := true, recurses := true, apart := false, narrowed := true }
def VecNoneUptoSaid : Prop := vecNoneUptoRow.holds Try.pinned (OpenSpec.upto vecNoneSpec)

/-- 'binnaclelaw06.VecKnown', WHERE WHAT IT READS IS OF BULK AT MOST 1048576: true; the input reads as it did. -/
def vecKnownUptoRow : OpenClaim := { program := "ytfhiodclbabdkaa", sum := "be04a838ccf72b5cb0b4fa9f6dbb8ade688e60f0e449fe900b4d8f31e8b048a5", func := "binnacle/binnaclelaw06.VecKnown", spec := "vecKnown", inPlace := ["math/bits.Sub64", "math/bits.Add64"], unfollowed := true, recurses := true, apart := false, narrowed := true }
def VecKnownUptoSaid : Prop := vecKnownUptoRow.holds Try.pinned (OpenSpec.upto vecKnownSpec)

/-- 'binnaclelaw06.VecMost', WHERE WHAT IT READS IS OF BULK AT MOST 1048576: true; the input reads as it did. -/
def vecMostUptoRow : OpenClaim := { program := "ytfhiodclbabdkaa", sum := "be04a838ccf72b5cb0b4fa9f6dbb8ade688e60f0e449fe900b4d8f31e8b048a5", func := "binnacle/binnaclelaw06.VecMost", spec := "vecMost", inPlace := ["math/bits.Add64", "math/bits.Sub64"], unfollowed := true, recurses := true, apart := false, narrowed := true }
def VecMostUptoSaid : Prop := vecMostUptoRow.holds Try.pinned (OpenSpec.upto vecMostSpec)

/-- 'binnaclelaw06.VecBack', WHERE WHAT IT READS IS OF BULK AT MOST 1048576: true; the input reads as it did. -/
def vecBackUptoRow : OpenClaim := { program := "ytfhiodclbabdkaa", sum := "be04a838ccf72b5cb0b4fa9f6dbb8ade688e60f0e449fe900b4d8f31e8b048a5", func := "binnacle/binnaclelaw06.VecBack", spec := "vecBack", inPlace := ["math/bits.Sub64", "math/bits.Add64"], unfollowed := true, recurses := true, apart := false, narrowed := true }
def VecBackUptoSaid : Prop := vecBackUptoRow.holds Try.pinned (OpenSpec.upto vecBackSpec)

/-- 'binnaclelaw06.VecReckons', WHERE WHAT IT READS IS OF BULK AT MOST 1048576: true; the input reads as it did. -/
def vecReckonsUptoRow : OpenClaim := { program := "ytfhiodclbabdkaa", sum := "be04a838ccf72b5cb0b4fa9f6dbb8ade688e60f0e449fe900b4d8f31e8b048a5", func := "binnacle/binnaclelaw06.VecReckons", spec := "vecReckons", inPlace := ["math/bits.Add64", "math/bits.Sub64"], unfollowed := true, recurses := true, apart := false, narrowed := true }
def VecReckonsUptoSaid : Prop := vecReckonsUptoRow.holds Try.pinned (OpenSpec.upto vecReckonsSpec)

/-- 'binnaclelaw02.FixTimes', WHERE WHAT IT READS IS OF BULK AT MOST 1048576: true; the input reads as it did. -/
def fixTimesUptoRow : OpenClaim := { program := "ytfhiodclbabdkaa", sum := "be04a838ccf72b5cb0b4fa9f6dbb8ade688e60f0e449fe900b4d8f31e8b048a5", func := "binnacle/binnaclelaw02.FixTimes", spec := "fixTimes", inPlace := ["math/bits.Sub64", "math/bits.Add64"], unfollowed := true, recurses := true, named := ["math/bits.divideError", "math/bits.overflowError"], apart := false, narrowed := true }
def FixTimesUptoSaid : Prop := fixTimesUptoRow.holds Try.pinned (OpenSpec.upto fixTimesSpec)

/-- 'binnaclelaw02.FixAdds', WHERE WHAT IT READS IS OF BULK AT MOST 1048576: true; the input reads as it did. -/
def fixAddsUptoRow : OpenClaim := { program := "ytfhiodclbabdkaa", sum := "be04a838ccf72b5cb0b4fa9f6dbb8ade688e60f0e449fe900b4d8f31e8b048a5", func := "binnacle/binnaclelaw02.FixAdds", spec := "fixAdds", inPlace := ["math/bits.Add64", "math/bits.Sub64"], unfollowed := true, recurses := true, named := ["math/bits.divideError", "math/bits.overflowError"], apart := false, narrowed := true }
def FixAddsUptoSaid : Prop := fixAddsUptoRow.holds Try.pinned (OpenSpec.upto fixAddsSpec)

/-- 'binnaclelaw02.FixKnown', WHERE WHAT IT READS IS OF BULK AT MOST 1048576: true; the input reads as it did. -/
def fixKnownUptoRow : OpenClaim := { program := "ytfhiodclbabdkaa", sum := "be04a838ccf72b5cb0b4fa9f6dbb8ade688e60f0e449fe900b4d8f31e8b048a5", func := "binnacle/binnaclelaw02.FixKnown", spec := "fixKnown", inPlace := ["math/bits.Add64", "math/bits.Sub64"], unfollowed := true, recurses := true, named := ["math/bits.divideError", "math/bits.overflowError"], apart := false, narrowed := true }
def FixKnownUptoSaid : Prop := fixKnownUptoRow.holds Try.pinned (OpenSpec.upto fixKnownSpec)

/-- 'binnaclelaw02.FixSame', WHERE WHAT IT READS IS OF BULK AT MOST 1048576: true; the input reads as it did. -/
def fixSameUptoRow : OpenClaim := { program := "ytfhiodclbabdkaa", sum := "be04a838ccf72b5cb0b4fa9f6dbb8ade688e60f0e449fe900b4d8f31e8b048a5", func := "binnacle/binnaclelaw02.FixSame", spec := "fixSame", inPlace := ["math/bits.Add64", "math/bits.Sub64"], unfollowed := true, recurses := true, named := ["math/bits.divideError", "math/bits.overflowError"], apart := false, narrowed := true }
def FixSameUptoSaid : Prop := fixSameUptoRow.holds Try.pinned (OpenSpec.upto fixSameSpec)

/-- 'binnaclelaw04.UnitNone', WHERE WHAT IT READS IS OF BULK AT MOST 1048576: true; the input reads as it did. -/
def unitNoneUptoRow : OpenClaim := { program := "ytfhiodclbabdkaa", sum := "be04a838ccf72b5cb0b4fa9f6dbb8ade688e60f0e449fe900b4d8f31e8b048a5", func := "binnacle/binnaclelaw04.UnitNone", spec := "unitNone", inPlace := ["math/bits.Add64", "math/bits.Sub64"], unfollowed := true, recurses := true, named := ["math/bits.divideError", "math/bits.overflowError"], apart := false, narrowed := true }
def UnitNoneUptoSaid : Prop := unitNoneUptoRow.holds Try.pinned (OpenSpec.upto unitNoneSpec)

/-- 'binnaclelaw04.UnitKeeps', WHERE WHAT IT READS IS OF BULK AT MOST 1048576: true; the input reads as it did. -/
def unitKeepsUptoRow : OpenClaim := { program := "ytfhiodclbabdkaa", sum := "be04a838ccf72b5cb0b4fa9f6dbb8ade688e60f0e449fe900b4d8f31e8b048a5", func := "binnacle/binnaclelaw04.UnitKeeps", spec := "unitKeeps", inPlace := ["math/bits.Add64", "math/bits.Sub64"], unfollowed := true, recurses := true, named := ["math/bits.divideError", "math/bits.overflowError"], apart := false, narrowed := true }
def UnitKeepsUptoSaid : Prop := unitKeepsUptoRow.holds Try.pinned (OpenSpec.upto unitKeepsSpec)

end Rows
end Go.Proofs.Ytfhiodclbabdkaa
