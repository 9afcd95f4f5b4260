/- The laws of fix: is, sum, half, times, over, awake, mirror, apart, and the chapter's examples. -/
import Derived.Test.YtlhadociaekkhaaQFix1
namespace Go.Proofs.Ytlhadociaekkhaa
set_option linter.unusedVariables false
open Go.RowKit
abbrev SaysTrue (f : FuncId) (args : Array Value) (w : World) : Prop := Calls Try.prog f args w fun e w' => e = .returned (.bool true) ∧ Below w.heap.size w w'
def dist (a b : Int) : Int := if b < a then a - b else b - a
end Go.Proofs.Ytlhadociaekkhaa
