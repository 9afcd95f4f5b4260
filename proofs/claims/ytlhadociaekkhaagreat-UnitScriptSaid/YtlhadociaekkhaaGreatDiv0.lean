
import Derived.Test.YtlhadociaekkhaaGreatWide5
import Derived.Test.YtlhadociaekkhaaGreatLen
namespace Go.Proofs.YtlhadociaekkhaaGreat
set_option linter.unusedVariables false
open Go.RowKit
def lz (x : Int) : Int := 64 - (Lib.bitLen x.toNat : Int)
set_option maxHeartbeats 400000 in
theorem bLz (x : Int) (w : World) (h0 : 0 ≤ x) (h1 : x ≤ 18446744073709551615) :
    Calls Tryz.prog 110 #[.int .u64 x] w fun e w' => e = .returned (.int .i64 (lz x)) ∧ w = w' := by
  have hl : Lib.bitLen x.toNat ≤ 64 := Lib.bitLen_le _ 64 (by omega) (by omega)
  go_enter Tryz.func110, Tryz.ntmps110
  go_wp2_with (go_at_call 101; refine (bLen _ _ h0 h1).mono ?_; rintro e w' ⟨rfl, rfl⟩)
  go_ret
  exact ⟨ret_i (by unfold lz; rfl), rfl⟩
end Go.Proofs.YtlhadociaekkhaaGreat
