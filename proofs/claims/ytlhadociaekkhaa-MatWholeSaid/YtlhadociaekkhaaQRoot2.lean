/- root.nearest, Sqrt. -/
import Derived.Test.YtlhadociaekkhaaQRoot
namespace Go.Proofs.Ytlhadociaekkhaa
set_option linter.unusedVariables false
open Go.RowKit
theorem ret_u {k : IntKind} {a b : Int} (h : a = b) : Ending.returned (.int k a) = .returned (.int k b) := by rw [h]
theorem small_wv (s : Int) (h0 : 0 ≤ s) (h1 : s ≤ 18446744073709551615) : whi s = 0 ∧ wlo s = s := by unfold whi wlo; omega
theorem cmp_pos (x y : Int) : 0 < cmpI x y ↔ y < x := by unfold cmpI; split <;> (try split) <;> omega
theorem wCmpS (x s : Int) (w : World) (hx0 : -170141183460469231731687303715884105728 ≤ x) (hx : x < 170141183460469231731687303715884105728) (h0 : 0 ≤ s) (h1 : s ≤ 18446744073709551615) :
    Calls Try.prog 100 #[WV x, .agg #[.int .i64 0, .int .u64 s]] w fun e w' => e = .returned (.int .i64 (cmpI x s)) ∧ Below w.heap.size w w' := by
  have h := wCmp x s w hx0 hx (by omega) (by omega)
  have e : WV s = .agg #[.int .i64 0, .int .u64 s] := by obtain ⟨e1, e2⟩ := small_wv s h0 h1; simp only [WV, e1, e2]
  rw [e] at h; exact h
theorem nrt_bd (a : Int) (h0 : 0 ≤ a) (h1 : a < 170141183460469231731687303715884105728) : 0 ≤ nrt a ∧ nrt a ≤ 13043817825332782213 := by
  obtain ⟨i0, i1, i2⟩ := isq_spec a h0
  have i3 := isq_up h0 h1
  unfold nrt; split <;> omega
theorem nrt_up (a m : Int) (h0 : 0 ≤ a) (hm : 0 ≤ m) (h : a < m * m + m + 1) : nrt a ≤ m := by
  obtain ⟨i0, i1, i2⟩ := isq_spec a h0
  have : isq a ≤ m := sq_le i0 hm i1 (by simp only [Int.add_mul, Int.mul_add]; omega)
  unfold nrt
  rcases Int.lt_or_le (isq a) m with g | g
  · split <;> omega
  · have e : isq a = m := by omega
    rw [e, if_neg (by omega)]; omega
noncomputable def sqtV (a : Int) : Int := if a < 0 then 0 else nrt (a * 4294967296)
def sqtC (a : Int) : Bool := decide (a < 0)
theorem sqt_bd (a : Int) (h0 : 0 ≤ a) (h2 : a ≤ 9223372036854775807) : 0 ≤ nrt (a * 4294967296) ∧ nrt (a * 4294967296) ≤ 199032864766430 := by
  exact ⟨(nrt_bd _ (by omega) (by omega)).1, nrt_up _ _ (by omega) (by omega) (by omega)⟩
end Go.Proofs.Ytlhadociaekkhaa
