/- Layer 6's examples, all. -/
import Derived.Test.YtlhadociaekkhaaQVec4
namespace Go.Proofs.Ytlhadociaekkhaa
set_option linter.unusedVariables false
set_option maxRecDepth 100000
open Go.RowKit
abbrev UZ6 : Value := .pointer none
theorem zNone6 (w : World) : Calls Try.prog 65 #[UZ6] w fun e w' => e = .returned (.bool true) ∧ Below w.heap.size w w' := by
  go_enter Try.func65, Try.ntmps65
  go_wp2_with fail
  go_ret
  exact ⟨rfl, Below.refl _ _⟩
theorem zDot6 (v1 v2 : Value) (w : World) : Calls Try.prog 47 #[UZ6, v1, v2] w fun e w' => e = .returned (.tuple #[.int .i64 0, .int .i64 1]) ∧ Below w.heap.size w w' := by
  go_enter Try.func47, Try.ntmps47
  go_wp2_with ((go_at_call 65; first | (with_reducible refine Calls_past2 (zNone6 _) (fun z => ?_)) | (with_reducible refine Calls_past (zNone6 _) (fun z => ?_))))
  go_ret2
  exact ⟨rfl, past_below _ _⟩
end Go.Proofs.Ytlhadociaekkhaa
