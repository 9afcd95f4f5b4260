/- Closed values of the chapter's examples. -/
import Derived.Test.YtlhadociaekkhaaQMatL2
set_option linter.unusedSimpArgs false
set_option linter.unusedVariables false
namespace Go.Proofs.Ytlhadociaekkhaa
set_option linter.unusedVariables false
set_option maxRecDepth 100000
open Go.RowKit Go.Shelf
@[go_sem] theorem run_fieldV (x0 x1 x2 : Value) (w : World) : (Instr.field 24 (.agg #[x0, x1, x2]) 2).run Try.prog w = .ok x2 w := by kernel_rfl
theorem k_app : appM 2 2 [4294967296, 8589934592, 12884901888, 17179869184] [4294967296, 4294967296] false 0 = (([12884901888, 30064771072], 0), false, 8) := by decide +kernel
theorem k_sum : pairM gSum 2 2 2 [4294967296, 8589934592, 12884901888, 17179869184] 2 2 [0, 4294967296, 4294967296, 0] false 8 = ((2, 2, [4294967296, 12884901888, 17179869184, 17179869184], 0), false, 16) := by decide +kernel
theorem k_eye2 : eyeR 2 = (2, 2, [4294967296, 0, 0, 4294967296], 0) := by decide +kernel
theorem k_diag : diagR [5, 6] = (2, 2, [5, 0, 0, 6], 0) := by decide +kernel
theorem k_row : rowR 2 2 [4294967296, 8589934592, 12884901888, 17179869184] 1 = ([12884901888, 17179869184], 0) := by decide +kernel
theorem k_scale : pairM (gScaleS 2147483648) 2 2 2 [4294967296, 8589934592, 12884901888, 17179869184] 2 2 [4294967296, 8589934592, 12884901888, 17179869184] false 16 = ((2, 2, [2147483648, 4294967296, 6442450944, 8589934592], 0), false, 24) := by decide +kernel
theorem k_eye0 : eyeR 0 = (0, 0, [], 3) := by decide +kernel
theorem k_row2 : rowR 2 2 [4294967296, 8589934592, 12884901888, 17179869184] 2 = ([], 3) := by decide +kernel
theorem k_eye3 : eyeR 3 = (3, 3, [4294967296, 0, 0, 0, 4294967296, 0, 0, 0, 4294967296], 0) := by decide +kernel
theorem k_mul3 : mulM 2 2 [4294967296, 8589934592, 12884901888, 17179869184] 3 3 [4294967296, 0, 0, 0, 4294967296, 0, 0, 0, 4294967296] false 24 = ((0, 0, [], 3), false, 24) := by decide +kernel
theorem k_chk : chk 2 2 3 = 3 := by decide +kernel
theorem k_o1 : wholeL [3, 7] ([3, 7] : List Int).length = [12884901888, 30064771072] := by decide +kernel
theorem k_o2 : wholeL [1, 3, 4, 4] ([1, 3, 4, 4] : List Int).length = [4294967296, 12884901888, 17179869184, 17179869184] := by decide +kernel
theorem k_o3 : wholeL [1, 0, 0, 1] ([1, 0, 0, 1] : List Int).length = [4294967296, 0, 0, 4294967296] := by decide +kernel
theorem k_o4 : wholeL [3, 4] ([3, 4] : List Int).length = [12884901888, 17179869184] := by decide +kernel
end Go.Proofs.Ytlhadociaekkhaa
