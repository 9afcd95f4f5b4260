/- root.Whole, Hypot. -/
import Derived.Test.YtlhadociaekkhaaGreatRoot2
namespace Go.Proofs.YtlhadociaekkhaaGreat
set_option linter.unusedVariables false
open Go.RowKit
noncomputable def whlV (a : Int) : Int := if a < 0 then 0 else if 9223372036854775807 < isq a then 0 else isq a
noncomputable def whlE (a : Int) : Int := if a < 0 then 2 else if 9223372036854775807 < isq a then 2 else 0
noncomputable def hyN (a b : Int) : Int := nrt (hd a * hd a + hd b * hd b)
noncomputable def hypV (a b : Int) : Int := if 9223372036854775807 < hyN a b then 9223372036854775807 else hyN a b
noncomputable def hypC (a b : Int) : Bool := decide (9223372036854775807 < hyN a b) || (decide (a < -9223372036854775807) || decide (b < -9223372036854775807))
theorem sq_bd (x : Int) (h1 : -9223372036854775807 ≤ x) (h2 : x ≤ 9223372036854775807) : 0 ≤ x * x ∧ x * x ≤ 9223372036854775807 * 9223372036854775807 := by
  rcases Int.lt_or_le x 0 with h | h
  · have e : x * x = (-x) * (-x) := by rw [Int.neg_mul_neg]
    rw [e]; exact ⟨Int.mul_nonneg (by omega) (by omega), Int.mul_le_mul (by omega) (by omega) (by omega) (by omega)⟩
  · exact ⟨Int.mul_nonneg (by omega) (by omega), Int.mul_le_mul (by omega) (by omega) (by omega) (by omega)⟩
theorem hyp_bd (a b : Int) (h1 : -9223372036854775808 ≤ a) (h2 : a ≤ 9223372036854775807) (h3 : -9223372036854775808 ≤ b) (h4 : b ≤ 9223372036854775807) :
    (0 ≤ hd a * hd a + hd b * hd b ∧ hd a * hd a + hd b * hd b < 170141183460469231731687303715884105728) ∧ 0 ≤ hyN a b ∧ hyN a b ≤ 13043817825332782213 := by
  have a1 := hd_bd a h1 h2
  have b1 := hd_bd b h3 h4
  have a2 := sq_bd _ a1.1 a1.2
  have b2 := sq_bd _ b1.1 b1.2
  have : 0 ≤ hd a * hd a + hd b * hd b ∧ hd a * hd a + hd b * hd b < 170141183460469231731687303715884105728 := by omega
  exact ⟨this, nrt_bd _ this.1 this.2⟩
end Go.Proofs.YtlhadociaekkhaaGreat
