/-
  No cell of these rows narrows 'for every input' (looked for: loops, veiled, ifaces, maps, wideKeys, modest, calm, conditions, laid).
  DERIVED. THE GIVEN ROWS OF THIS SEAT. 11 by the template 'for every input the law returns true; each argument reads behind the call as it read before'; 0 by the template 'total and deterministic' (their statements: YtocljkoijhipiaaTotals.lean).
  GIVEN WITH THE SEED: the statements are not yours to turn. If you find one false, say at which input.
  Laid BY PROGRAM, IN A SANDBOX (cutbox-rows.mjs): the forced cells as the released guide's own fill.sh prints them over the translation 1b47d7bfbe52c67d… (all of the seat's roots in one cut). By AI agents, Wed Nov 11 2026. No macro, syntax, notation, axiom, sorry.
-/
import Derived.Test.YtocljkoijhipiaaChecked
import GoSem.Claim
import GoSem.ClaimJoined
import GoSem.ClaimMapViews
import Derived.JoinedTies
import Derived.KernelRfl
namespace Go.Proofs.Ytocljkoijhipiaa
/- THE CELL 'sum', in the pinned program and in every row, IS THE sha256 OF THE DUMP (.gsa) THAT YtocljkoijhipiaaProg.lean LOADS. Nothing in Lean hashes anything: it is a label: what it is worth is what the hold of that sum in a sandbox is worth. -/
noncomputable def Try.pinned : Pinned := { name := "ytocljkoijhipiaa", sum := "1b47d7bfbe52c67dfabb4cc578eff81b6b4434f4946a741b55690adfcba9d449", checked := Try.checked }
namespace Rows
def none {H : Type} : Left H := { results := [], args := [] }

/-- 'binnaclelaw01.WideSums': WHATEVER THE INPUT: true; the input reads as it did. -/
def wideSumsSpec : ChangeSpec := { name := "wideSums", fn := fun _ => fun
  | [d1, d2, d3, d4] => { results := [.lit (.bool true)], args := [d1, d2, d3, d4] }
  | _ => none }
def wideSumsRow : OpenClaim := { program := "ytocljkoijhipiaa", sum := "1b47d7bfbe52c67dfabb4cc578eff81b6b4434f4946a741b55690adfcba9d449", func := "binnacle/binnaclelaw01.WideSums", spec := "wideSums", inPlace := ["math/bits.Add64", "math/bits.Sub64"], unfollowed := true, recurses := true, named := ["math/bits.divideError", "math/bits.overflowError"], apart := false }
def WideSumsSaid : Prop := wideSumsRow.holds Try.pinned (OpenSpec.ofChange wideSumsSpec)

/-- ITS FALSE NEIGHBOUR: 'it returns false'. Refute it at one input. -/
def wideSumsWrong : ChangeSpec := { name := "wideSums", fn := fun _ => fun
  | [d1, d2, d3, d4] => { results := [.lit (.bool false)], args := [d1, d2, d3, d4] }
  | _ => none }
def WideSumsWrongFalsely : Prop := wideSumsRow.holds Try.pinned (OpenSpec.ofChange wideSumsWrong)

/-- 'binnaclelaw03.RootNear': WHATEVER THE INPUT: true; the input reads as it did. -/
def rootNearSpec : ChangeSpec := { name := "rootNear", fn := fun _ => fun
  | [d1, d2] => { results := [.lit (.bool true)], args := [d1, d2] }
  | _ => none }
def rootNearRow : OpenClaim := { program := "ytocljkoijhipiaa", sum := "1b47d7bfbe52c67dfabb4cc578eff81b6b4434f4946a741b55690adfcba9d449", func := "binnacle/binnaclelaw03.RootNear", spec := "rootNear", inPlace := ["math/bits.Sub64", "math/bits.Add64"], unfollowed := true, recurses := true, named := ["math/bits.divideError", "math/bits.overflowError"], apart := false }
def RootNearSaid : Prop := rootNearRow.holds Try.pinned (OpenSpec.ofChange rootNearSpec)

/-- ITS FALSE NEIGHBOUR: 'it returns false'. Refute it at one input. -/
def rootNearWrong : ChangeSpec := { name := "rootNear", fn := fun _ => fun
  | [d1, d2] => { results := [.lit (.bool false)], args := [d1, d2] }
  | _ => none }
def RootNearWrongFalsely : Prop := rootNearRow.holds Try.pinned (OpenSpec.ofChange rootNearWrong)

/-- 'binnaclelaw01.WideRounds': WHATEVER THE INPUT: true; the input reads as it did. -/
def wideRoundsSpec : ChangeSpec := { name := "wideRounds", fn := fun _ => fun
  | [d1, d2, d3] => { results := [.lit (.bool true)], args := [d1, d2, d3] }
  | _ => none }
def wideRoundsRow : OpenClaim := { program := "ytocljkoijhipiaa", sum := "1b47d7bfbe52c67dfabb4cc578eff81b6b4434f4946a741b55690adfcba9d449", func := "binnacle/binnaclelaw01.WideRounds", spec := "wideRounds", inPlace := ["math/bits.Sub64", "math/bits.Add64"], unfollowed := true, recurses := true, named := ["math/bits.divideError", "math/bits.overflowError"], apart := false }
def WideRoundsSaid : Prop := wideRoundsRow.holds Try.pinned (OpenSpec.ofChange wideRoundsSpec)

/-- ITS FALSE NEIGHBOUR: 'it returns false'. Refute it at one input. -/
def wideRoundsWrong : ChangeSpec := { name := "wideRounds", fn := fun _ => fun
  | [d1, d2, d3] => { results := [.lit (.bool false)], args := [d1, d2, d3] }
  | _ => none }
def WideRoundsWrongFalsely : Prop := wideRoundsRow.holds Try.pinned (OpenSpec.ofChange wideRoundsWrong)

/-- 'binnaclelaw01.WideBack': WHATEVER THE INPUT: true; the input reads as it did. -/
def wideBackSpec : ChangeSpec := { name := "wideBack", fn := fun _ => fun
  | [d1, d2, d3, d4] => { results := [.lit (.bool true)], args := [d1, d2, d3, d4] }
  | _ => none }
def wideBackRow : OpenClaim := { program := "ytocljkoijhipiaa", sum := "1b47d7bfbe52c67dfabb4cc578eff81b6b4434f4946a741b55690adfcba9d449", func := "binnacle/binnaclelaw01.WideBack", spec := "wideBack", inPlace := ["math/bits.Sub64", "math/bits.Add64"], unfollowed := true, recurses := true, named := ["math/bits.divideError", "math/bits.overflowError"], apart := false }
def WideBackSaid : Prop := wideBackRow.holds Try.pinned (OpenSpec.ofChange wideBackSpec)

/-- ITS FALSE NEIGHBOUR: 'it returns false'. Refute it at one input. -/
def wideBackWrong : ChangeSpec := { name := "wideBack", fn := fun _ => fun
  | [d1, d2, d3, d4] => { results := [.lit (.bool false)], args := [d1, d2, d3, d4] }
  | _ => none }
def WideBackWrongFalsely : Prop := wideBackRow.holds Try.pinned (OpenSpec.ofChange wideBackWrong)

/-- 'binnaclelaw03.RootTells': WHATEVER THE INPUT: true; the input reads as it did. -/
def rootTellsSpec : ChangeSpec := { name := "rootTells", fn := fun _ => fun
  | [d1, d2, d3] => { results := [.lit (.bool true)], args := [d1, d2, d3] }
  | _ => none }
def rootTellsRow : OpenClaim := { program := "ytocljkoijhipiaa", sum := "1b47d7bfbe52c67dfabb4cc578eff81b6b4434f4946a741b55690adfcba9d449", func := "binnacle/binnaclelaw03.RootTells", spec := "rootTells", inPlace := ["math/bits.Sub64", "math/bits.Add64"], unfollowed := true, recurses := true, named := ["math/bits.divideError", "math/bits.overflowError"], apart := false }
def RootTellsSaid : Prop := rootTellsRow.holds Try.pinned (OpenSpec.ofChange rootTellsSpec)

/-- ITS FALSE NEIGHBOUR: 'it returns false'. Refute it at one input. -/
def rootTellsWrong : ChangeSpec := { name := "rootTells", fn := fun _ => fun
  | [d1, d2, d3] => { results := [.lit (.bool false)], args := [d1, d2, d3] }
  | _ => none }
def RootTellsWrongFalsely : Prop := rootTellsRow.holds Try.pinned (OpenSpec.ofChange rootTellsWrong)

/-- 'binnaclelaw03.RootKnown': WHATEVER THE INPUT: true; the input reads as it did. -/
def rootKnownSpec : ChangeSpec := { name := "rootKnown", fn := fun _ => fun
  | [] => { results := [.lit (.bool true)], args := [] }
  | _ => none }
def rootKnownRow : OpenClaim := { program := "ytocljkoijhipiaa", sum := "1b47d7bfbe52c67dfabb4cc578eff81b6b4434f4946a741b55690adfcba9d449", func := "binnacle/binnaclelaw03.RootKnown", spec := "rootKnown", inPlace := ["math/bits.Sub64", "math/bits.Add64"], unfollowed := true, recurses := true, named := ["math/bits.divideError", "math/bits.overflowError"], apart := false }
def RootKnownSaid : Prop := rootKnownRow.holds Try.pinned (OpenSpec.ofChange rootKnownSpec)

/-- ITS FALSE NEIGHBOUR: 'it returns false'. Refute it at one input. -/
def rootKnownWrong : ChangeSpec := { name := "rootKnown", fn := fun _ => fun
  | [] => { results := [.lit (.bool false)], args := [] }
  | _ => none }
def RootKnownWrongFalsely : Prop := rootKnownRow.holds Try.pinned (OpenSpec.ofChange rootKnownWrong)

/-- 'binnaclelaw03.RootWhole': WHATEVER THE INPUT: true; the input reads as it did. -/
def rootWholeSpec : ChangeSpec := { name := "rootWhole", fn := fun _ => fun
  | [d1, d2] => { results := [.lit (.bool true)], args := [d1, d2] }
  | _ => none }
def rootWholeRow : OpenClaim := { program := "ytocljkoijhipiaa", sum := "1b47d7bfbe52c67dfabb4cc578eff81b6b4434f4946a741b55690adfcba9d449", func := "binnacle/binnaclelaw03.RootWhole", spec := "rootWhole", inPlace := ["math/bits.Sub64", "math/bits.Add64"], unfollowed := true, recurses := true, named := ["math/bits.divideError", "math/bits.overflowError"], apart := false }
def RootWholeSaid : Prop := rootWholeRow.holds Try.pinned (OpenSpec.ofChange rootWholeSpec)

/-- ITS FALSE NEIGHBOUR: 'it returns false'. Refute it at one input. -/
def rootWholeWrong : ChangeSpec := { name := "rootWhole", fn := fun _ => fun
  | [d1, d2] => { results := [.lit (.bool false)], args := [d1, d2] }
  | _ => none }
def RootWholeWrongFalsely : Prop := rootWholeRow.holds Try.pinned (OpenSpec.ofChange rootWholeWrong)

/-- 'binnaclelaw03.RootHypot': WHATEVER THE INPUT: true; the input reads as it did. -/
def rootHypotSpec : ChangeSpec := { name := "rootHypot", fn := fun _ => fun
  | [d1, d2] => { results := [.lit (.bool true)], args := [d1, d2] }
  | _ => none }
def rootHypotRow : OpenClaim := { program := "ytocljkoijhipiaa", sum := "1b47d7bfbe52c67dfabb4cc578eff81b6b4434f4946a741b55690adfcba9d449", func := "binnacle/binnaclelaw03.RootHypot", spec := "rootHypot", inPlace := ["math/bits.Sub64", "math/bits.Add64"], unfollowed := true, recurses := true, named := ["math/bits.divideError", "math/bits.overflowError"], apart := false }
def RootHypotSaid : Prop := rootHypotRow.holds Try.pinned (OpenSpec.ofChange rootHypotSpec)

/-- ITS FALSE NEIGHBOUR: 'it returns false'. Refute it at one input. -/
def rootHypotWrong : ChangeSpec := { name := "rootHypot", fn := fun _ => fun
  | [d1, d2] => { results := [.lit (.bool false)], args := [d1, d2] }
  | _ => none }
def RootHypotWrongFalsely : Prop := rootHypotRow.holds Try.pinned (OpenSpec.ofChange rootHypotWrong)

/-- 'binnaclelaw01.WideKnown': WHATEVER THE INPUT: true; the input reads as it did. -/
def wideKnownSpec : ChangeSpec := { name := "wideKnown", fn := fun _ => fun
  | [] => { results := [.lit (.bool true)], args := [] }
  | _ => none }
def wideKnownRow : OpenClaim := { program := "ytocljkoijhipiaa", sum := "1b47d7bfbe52c67dfabb4cc578eff81b6b4434f4946a741b55690adfcba9d449", func := "binnacle/binnaclelaw01.WideKnown", spec := "wideKnown", inPlace := ["math/bits.Sub64", "math/bits.Add64"], unfollowed := true, recurses := true, named := ["math/bits.divideError", "math/bits.overflowError"], apart := false }
def WideKnownSaid : Prop := wideKnownRow.holds Try.pinned (OpenSpec.ofChange wideKnownSpec)

/-- ITS FALSE NEIGHBOUR: 'it returns false'. Refute it at one input. -/
def wideKnownWrong : ChangeSpec := { name := "wideKnown", fn := fun _ => fun
  | [] => { results := [.lit (.bool false)], args := [] }
  | _ => none }
def WideKnownWrongFalsely : Prop := wideKnownRow.holds Try.pinned (OpenSpec.ofChange wideKnownWrong)

/-- 'binnaclelaw01.WideRing': WHATEVER THE INPUT: true; the input reads as it did. -/
def wideRingSpec : ChangeSpec := { name := "wideRing", fn := fun _ => fun
  | [d1, d2, d3, d4, d5, d6] => { results := [.lit (.bool true)], args := [d1, d2, d3, d4, d5, d6] }
  | _ => none }
def wideRingRow : OpenClaim := { program := "ytocljkoijhipiaa", sum := "1b47d7bfbe52c67dfabb4cc578eff81b6b4434f4946a741b55690adfcba9d449", func := "binnacle/binnaclelaw01.WideRing", spec := "wideRing", inPlace := ["math/bits.Sub64", "math/bits.Add64"], unfollowed := true, recurses := true, named := ["math/bits.divideError", "math/bits.overflowError"], apart := false }
def WideRingSaid : Prop := wideRingRow.holds Try.pinned (OpenSpec.ofChange wideRingSpec)

/-- ITS FALSE NEIGHBOUR: 'it returns false'. Refute it at one input. -/
def wideRingWrong : ChangeSpec := { name := "wideRing", fn := fun _ => fun
  | [d1, d2, d3, d4, d5, d6] => { results := [.lit (.bool false)], args := [d1, d2, d3, d4, d5, d6] }
  | _ => none }
def WideRingWrongFalsely : Prop := wideRingRow.holds Try.pinned (OpenSpec.ofChange wideRingWrong)

/-- 'binnaclelaw01.WideNear': WHATEVER THE INPUT: true; the input reads as it did. -/
def wideNearSpec : ChangeSpec := { name := "wideNear", fn := fun _ => fun
  | [d1, d2, d3, d4, d5] => { results := [.lit (.bool true)], args := [d1, d2, d3, d4, d5] }
  | _ => none }
def wideNearRow : OpenClaim := { program := "ytocljkoijhipiaa", sum := "1b47d7bfbe52c67dfabb4cc578eff81b6b4434f4946a741b55690adfcba9d449", func := "binnacle/binnaclelaw01.WideNear", spec := "wideNear", inPlace := ["math/bits.Sub64", "math/bits.Add64"], unfollowed := true, recurses := true, named := ["math/bits.divideError", "math/bits.overflowError"], apart := false }
def WideNearSaid : Prop := wideNearRow.holds Try.pinned (OpenSpec.ofChange wideNearSpec)

/-- ITS FALSE NEIGHBOUR: 'it returns false'. Refute it at one input. -/
def wideNearWrong : ChangeSpec := { name := "wideNear", fn := fun _ => fun
  | [d1, d2, d3, d4, d5] => { results := [.lit (.bool false)], args := [d1, d2, d3, d4, d5] }
  | _ => none }
def WideNearWrongFalsely : Prop := wideNearRow.holds Try.pinned (OpenSpec.ofChange wideNearWrong)

/- THE SECOND FORM. 'bulk': how many values and letters a reading holds, each counted each time it is reached (what is shared counts as often as it is met; a slice's spare places count too). A statement '..UptoSaid' is the law's where the arguments, and the package variables that the reading takes, are together of bulk at most 1048576: NARROWER than '..Said'. Prove '..Said' where nothing that the law and all that it calls make is longer than what came in: it says more and counts as full. Else prove '..UptoSaid'. A law counts once. -/
mutual
def uptoBulk {H : Type} : DataW H → Nat
  | .lit (.string bytes) => bytes.length + 1
  | .lit _ => 1
  | .nil => 1
  | .ptr d => uptoBulk d + 1
  | .slice elems spare => uptoBulkAll elems + uptoBulkAll spare + 1
  | .agg parts => uptoBulkAll parts + 1
  | .iface _ d => uptoBulk d + 1
  | .map entries => uptoBulkEntries entries + 1
  | .held _ => 1
def uptoBulkAll {H : Type} : List (DataW H) → Nat
  | [] => 0
  | d :: r => uptoBulk d + uptoBulkAll r
def uptoBulkEntries {H : Type} : List (Lit × DataW H) → Nat
  | [] => 0
  | x :: r => uptoBulkEntry x + uptoBulkEntries r
def uptoBulkEntry {H : Type} : Lit × DataW H → Nat
  | (.string bytes, d) => bytes.length + uptoBulk d + 1
  | (_, d) => uptoBulk d + 1
 end
def uptoSmall : (H : Type) → List (DataW H) → Bool := fun _ ds => decide (uptoBulkAll ds ≤ 1048576)
def OpenSpec.upto (s : _root_.Go.ChangeSpec) : _root_.Go.OpenSpec := { _root_.Go.OpenSpec.ofChange s with cond := some uptoSmall }

/-- 'binnaclelaw01.WideSums', WHERE WHAT IT READS IS OF BULK AT MOST 1048576: true; the input reads as it did. -/
def wideSumsUptoRow : OpenClaim := { program := "ytocljkoijhipiaa", sum := "1b47d7bfbe52c67dfabb4cc578eff81b6b4434f4946a741b55690adfcba9d449", func := "binnacle/binnaclelaw01.WideSums", spec := "wideSums", inPlace := ["math/bits.Add64", "math/bits.Sub64"], unfollowed := true, recurses := true, named := ["math/bits.divideError", "math/bits.overflowError"], apart := false, narrowed := true }
def WideSumsUptoSaid : Prop := wideSumsUptoRow.holds Try.pinned (OpenSpec.upto wideSumsSpec)

/-- 'binnaclelaw03.RootNear', WHERE WHAT IT READS IS OF BULK AT MOST 1048576: true; the input reads as it did. -/
def rootNearUptoRow : OpenClaim := { program := "ytocljkoijhipiaa", sum := "1b47d7bfbe52c67dfabb4cc578eff81b6b4434f4946a741b55690adfcba9d449", func := "binnacle/binnaclelaw03.RootNear", spec := "rootNear", inPlace := ["math/bits.Sub64", "math/bits.Add64"], unfollowed := true, recurses := true, named := ["math/bits.divideError", "math/bits.overflowError"], apart := false, narrowed := true }
def RootNearUptoSaid : Prop := rootNearUptoRow.holds Try.pinned (OpenSpec.upto rootNearSpec)

/-- 'binnaclelaw01.WideRounds', WHERE WHAT IT READS IS OF BULK AT MOST 1048576: true; the input reads as it did. -/
def wideRoundsUptoRow : OpenClaim := { program := "ytocljkoijhipiaa", sum := "1b47d7bfbe52c67dfabb4cc578eff81b6b4434f4946a741b55690adfcba9d449", func := "binnacle/binnaclelaw01.WideRounds", spec := "wideRounds", inPlace := ["math/bits.Sub64", "math/bits.Add64"], unfollowed := true, recurses := true, named := ["math/bits.divideError", "math/bits.overflowError"], apart := false, narrowed := true }
def WideRoundsUptoSaid : Prop := wideRoundsUptoRow.holds Try.pinned (OpenSpec.upto wideRoundsSpec)

/-- 'binnaclelaw01.WideBack', WHERE WHAT IT READS IS OF BULK AT MOST 1048576: true; the input reads as it did. -/
def wideBackUptoRow : OpenClaim := { program := "ytocljkoijhipiaa", sum := "1b47d7bfbe52c67dfabb4cc578eff81b6b4434f4946a741b55690adfcba9d449", func := "binnacle/binnaclelaw01.WideBack", spec := "wideBack", inPlace := ["math/bits.Sub64", "math/bits.Add64"], unfollowed := true, recurses := true, named := ["math/bits.divideError", "math/bits.overflowError"], apart := false, narrowed := true }
def WideBackUptoSaid : Prop := wideBackUptoRow.holds Try.pinned (OpenSpec.upto wideBackSpec)

/-- 'binnaclelaw03.RootTells', WHERE WHAT IT READS IS OF BULK AT MOST 1048576: true; the input reads as it did. -/
def rootTellsUptoRow : OpenClaim := { program := "ytocljkoijhipiaa", sum := "1b47d7bfbe52c67dfabb4cc578eff81b6b4434f4946a741b55690adfcba9d449", func := "binnacle/binnaclelaw03.RootTells", spec := "rootTells", inPlace := ["math/bits.Sub64", "math/bits.Add64"], unfollowed := true, recurses := true, named := ["math/bits.divideError", "math/bits.overflowError"], apart := false, narrowed := true }
def RootTellsUptoSaid : Prop := rootTellsUptoRow.holds Try.pinned (OpenSpec.upto rootTellsSpec)

/-- 'binnaclelaw03.RootKnown', WHERE WHAT IT READS IS OF BULK AT MOST 1048576: true; the input reads as it did. -/
def rootKnownUptoRow : OpenClaim := { program := "ytocljkoijhipiaa", sum := "1b47d7bfbe52c67dfabb4cc578eff81b6b4434f4946a741b55690adfcba9d449", func := "binnacle/binnaclelaw03.RootKnown", spec := "rootKnown", inPlace := ["math/bits.Sub64", "math/bits.Add64"], unfollowed := true, recurses := true, named := ["math/bits.divideError", "math/bits.overflowError"], apart := false, narrowed := true }
def RootKnownUptoSaid : Prop := rootKnownUptoRow.holds Try.pinned (OpenSpec.upto rootKnownSpec)

/-- 'binnaclelaw03.RootWhole', WHERE WHAT IT READS IS OF BULK AT MOST 1048576: true; the input reads as it did. -/
def rootWholeUptoRow : OpenClaim := { program := "ytocljkoijhipiaa", sum := "1b47d7bfbe52c67dfabb4cc578eff81b6b4434f4946a741b55690adfcba9d449", func := "binnacle/binnaclelaw03.RootWhole", spec := "rootWhole", inPlace := ["math/bits.Sub64", "math/bits.Add64"], unfollowed := true, recurses := true, named := ["math/bits.divideError", "math/bits.overflowError"], apart := false, narrowed := true }
def RootWholeUptoSaid : Prop := rootWholeUptoRow.holds Try.pinned (OpenSpec.upto rootWholeSpec)

/-- 'binnaclelaw03.RootHypot', WHERE WHAT IT READS IS OF BULK AT MOST 1048576: true; the input reads as it did. -/
def rootHypotUptoRow : OpenClaim := { program := "ytocljkoijhipiaa", sum := "1b47d7bfbe52c67dfabb4cc578eff81b6b4434f4946a741b55690adfcba9d449", func := "binnacle/binnaclelaw03.RootHypot", spec := "rootHypot", inPlace := ["math/bits.Sub64", "math/bits.Add64"], unfollowed := true, recurses := true, named := ["math/bits.divideError", "math/bits.overflowError"], apart := false, narrowed := true }
def RootHypotUptoSaid : Prop := rootHypotUptoRow.holds Try.pinned (OpenSpec.upto rootHypotSpec)

/-- 'binnaclelaw01.WideKnown', WHERE WHAT IT READS IS OF BULK AT MOST 1048576: true; the input reads as it did. -/
def wideKnownUptoRow : OpenClaim := { program := "ytocljkoijhipiaa", sum := "1b47d7bfbe52c67dfabb4cc578eff81b6b4434f4946a741b55690adfcba9d449", func := "binnacle/binnaclelaw01.WideKnown", spec := "wideKnown", inPlace := ["math/bits.Sub64", "math/bits.Add64"], unfollowed := true, recurses := true, named := ["math/bits.divideError", "math/bits.overflowError"], apart := false, narrowed := true }
def WideKnownUptoSaid : Prop := wideKnownUptoRow.holds Try.pinned (OpenSpec.upto wideKnownSpec)

/-- 'binnaclelaw01.WideRing', WHERE WHAT IT READS IS OF BULK AT MOST 1048576: true; the input reads as it did. -/
def wideRingUptoRow : OpenClaim := { program := "ytocljkoijhipiaa", sum := "1b47d7bfbe52c67dfabb4cc578eff81b6b4434f4946a741b55690adfcba9d449", func := "binnacle/binnaclelaw01.WideRing", spec := "wideRing", inPlace := ["math/bits.Sub64", "math/bits.Add64"], unfollowed := true, recurses := true, named := ["math/bits.divideError", "math/bits.overflowError"], apart := false, narrowed := true }
def WideRingUptoSaid : Prop := wideRingUptoRow.holds Try.pinned (OpenSpec.upto wideRingSpec)

/-- 'binnaclelaw01.WideNear', WHERE WHAT IT READS IS OF BULK AT MOST 1048576: true; the input reads as it did. -/
def wideNearUptoRow : OpenClaim := { program := "ytocljkoijhipiaa", sum := "1b47d7bfbe52c67dfabb4cc578eff81b6b4434f4946a741b55690adfcba9d449", func := "binnacle/binnaclelaw01.WideNear", spec := "wideNear", inPlace := ["math/bits.Sub64", "math/bits.Add64"], unfollowed := true, recurses := true, named := ["math/bits.divideError", "math/bits.overflowError"], apart := false, narrowed := true }
def WideNearUptoSaid : Prop := wideNearUptoRow.holds Try.pinned (OpenSpec.upto wideNearSpec)

end Rows
end Go.Proofs.Ytocljkoijhipiaa
