/- binnaclekit.Pick. -/
import Derived.Test.YtlhadociaekkhaaQA
namespace Go.Proofs.Ytlhadociaekkhaa
set_option linter.unusedVariables false
open Go.RowKit
/-- One of the numbers from 0 on below n, by any number. -/
theorem pPick (x n : Int) (w : World) (h1 : -9223372036854775808 ≤ x) (h2 : x ≤ 9223372036854775807) (h3 : 0 < n) (h4 : n ≤ 9223372036854775807) :
    Calls Try.prog 42 #[.int .i64 x, .int .i64 n] w fun e w' => e = .returned (.int .i64 (x % n)) ∧ w' = w := by
  have t1 := Int.tmod_lt_of_pos x h3
  have t2 : -n < x.tmod n := by have := Int.tmod_lt_of_pos (-x) h3; rw [Int.neg_tmod] at this; omega
  have t3 : x % n = if x.tmod n < 0 then x.tmod n + n else x.tmod n := by
    have := Int.tmod_eq_emod (a := x) (b := n)
    have e1 := Int.emod_nonneg x (show n ≠ 0 by omega)
    have e2 := Int.emod_lt_of_pos x h3
    split at this <;> split <;> omega
  go_enter Try.func42, Try.ntmps42
  go_wp2_with fail
  all_goals (go_ret; exact ⟨by rw [t3]; split <;> first | rfl | omega, rfl⟩)
end Go.Proofs.Ytlhadociaekkhaa
