/- Layer 6's examples, all. -/
import Derived.Test.YtlhadociaekkhaaGreatVec4
namespace Go.Proofs.YtlhadociaekkhaaGreat
set_option linter.unusedVariables false
set_option maxRecDepth 100000
open Go.RowKit
abbrev UZ6 : Value := .pointer none
theorem zNone6 (w : World) : Calls Tryz.prog 34 #[UZ6] w fun e w' => e = .returned (.bool true) ∧ Below w.heap.size w w' := by
  go_enter Tryz.func34, Tryz.ntmps34
  go_wp2_with fail
  go_ret
  exact ⟨rfl, Below.refl _ _⟩
theorem zDot6 (v1 v2 : Value) (w : World) : Calls Tryz.prog 16 #[UZ6, v1, v2] w fun e w' => e = .returned (.tuple #[.int .i64 0, .int .i64 1]) ∧ Below w.heap.size w w' := by
  go_enter Tryz.func16, Tryz.ntmps16
  go_wp2_with ((go_at_call 34; first | (with_reducible refine Calls_past2 (zNone6 _) (fun z => ?_)) | (with_reducible refine Calls_past (zNone6 _) (fun z => ?_))))
  go_ret2
  exact ⟨rfl, past_below _ _⟩
end Go.Proofs.YtlhadociaekkhaaGreat
