/- The laws of root: is, awake; the examples' values. -/
import Derived.Test.YtocljkoijhipiaaRoot4
namespace Go.Proofs.Ytocljkoijhipiaa
set_option linter.unusedVariables false
open Go.RowKit
theorem nrt_uniq {a n : Int} (hn : 1 ≤ n) (h1 : n * n - n < a) (h2 : a ≤ n * n + n) : nrt a = n := by
  have h0 : 0 ≤ a := by have := Int.mul_le_mul_of_nonneg_right hn (show 0 ≤ n by omega); omega
  rcases Int.lt_or_le a (n * n) with h | h
  · have : isq a = n - 1 := isq_uniq (by omega) (by simp only [Int.sub_mul, Int.mul_sub]; omega) (by simp only [Int.sub_add_cancel]; omega)
    unfold nrt
    rw [this, if_pos (by simp only [Int.sub_mul, Int.mul_sub]; omega)]; omega
  · have : isq a = n := isq_uniq (by omega) h (by simp only [Int.add_mul, Int.mul_add]; omega)
    unfold nrt
    rw [this, if_neg (by omega)]
theorem isq_15 : isq 15 = 3 := isq_uniq (by omega) (by omega) (by omega)
set_option maxHeartbeats 400000 in
theorem lIs3 (a want : Int) (w : World) (h0 : 0 ≤ a) (h2 : a ≤ 9223372036854775807) (hs : sqtV a = want) :
    Calls Try.prog 39 #[.int .i64 a, .int .i64 want] w fun e w' => e = .returned (.bool true) ∧ Below w.heap.size w w' := by
  have hc : sqtC a = false := by unfold sqtC; simp; omega
  have h := fun w => tSqrt a w (by omega) h2
  rw [hs, hc] at h
  clear hs hc
  go_enter Try.func39, Try.ntmps39
  go_wp2_with (first | (go_at_call 26; first | (with_reducible refine Calls_past2 (h _) (fun z => ?_)) | (with_reducible refine Calls_past (h _) (fun z => ?_))))
  go_ret
  refine ⟨rfl, ?_⟩
  (repeat (first | assumption | exact Below.refl _ _ | with_reducible refine past_t _ ?_ | with_reducible refine below_a _ ?_ | with_reducible refine Below.drew ?_ | with_reducible refine below_d _ ?_ | (with_reducible refine Below.setCell ?_ (by (show _ ≤ _; repeat (first | exact Nat.le_refl _ | with_reducible exact le_past (Nat.le_refl _) | with_reducible refine le_past ?_ | with_reducible refine le_al ?_ | with_reducible refine le_set ?_ | with_reducible refine le_p1 ?_))) _)))
theorem sq_4 : sqtV 17179869184 = 8589934592 := by unfold sqtV; rw [if_neg (by omega)]; exact nrt_uniq (by omega) (by omega) (by omega)
theorem sq_2 : sqtV 8589934592 = 6074001000 := by unfold sqtV; rw [if_neg (by omega)]; exact nrt_uniq (by omega) (by omega) (by omega)
theorem sq_1 : sqtV 1 = 65536 := by unfold sqtV; rw [if_neg (by omega)]; exact nrt_uniq (by omega) (by omega) (by omega)
/-- Whole, its root known. -/
theorem tWholeOk (a s : Int) (w : World) (h1 : a < 170141183460469231731687303715884105728) (hs : isq a = s) (ha : 0 ≤ a) (hm : s ≤ 9223372036854775807) :
    Calls Try.prog 34 #[WV a] w fun e w' => e = .returned (.tuple #[.int .i64 s, .int .i64 0]) ∧ Below w.heap.size w w' := by
  have h := tWhole a w (by omega) h1
  unfold whlV whlE at h
  rw [hs, if_neg (by omega), if_neg (by omega), if_neg (by omega), if_neg (by omega)] at h
  exact h
theorem tWholeNo (a : Int) (w : World) (h0 : -170141183460469231731687303715884105728 ≤ a) (h1 : a < 170141183460469231731687303715884105728) (hs : a < 0 ∨ 9223372036854775807 < isq a) :
    Calls Try.prog 34 #[WV a] w fun e w' => e = .returned (.tuple #[.int .i64 0, .int .i64 2]) ∧ Below w.heap.size w w' := by
  have h := tWhole a w (by omega) h1
  have e1 : whlV a = 0 := by unfold whlV; split; rfl; rw [if_pos (by omega)]
  have e2 : whlE a = 2 := by unfold whlE; split; rfl; rw [if_pos (by omega)]
  rw [e1, e2] at h
  exact h
set_option maxHeartbeats 400000 in
theorem lAwake3 (w : World) : Calls Try.prog 25 #[] w fun e w' => e = .returned (.bool true) ∧ Below w.heap.size w w' := by
  go_enter Try.func25, Try.ntmps25
  go_wp2_with (first | (go_at_call 14; first | (with_reducible refine Calls_past2 (wOf 15 _ (by omega) (by omega)) (fun z => ?_)) | (with_reducible refine Calls_past (wOf 15 _ (by omega) (by omega)) (fun z => ?_))) | (go_at_call 34; first | (with_reducible refine Calls_past2 (tWholeOk 15 3 _ (by omega) isq_15 (by omega) (by omega)) (fun z => ?_)) | (with_reducible refine Calls_past (tWholeOk 15 3 _ (by omega) isq_15 (by omega) (by omega)) (fun z => ?_))) | (go_at_call 39; first | (with_reducible refine Calls_past2 (lIs3 17179869184 8589934592 _ (by omega) (by omega) sq_4) (fun z => ?_)) | (with_reducible refine Calls_past (lIs3 17179869184 8589934592 _ (by omega) (by omega) sq_4) (fun z => ?_))) | (go_at_call 39; first | (with_reducible refine Calls_past2 (lIs3 8589934592 6074001000 _ (by omega) (by omega) sq_2) (fun z => ?_)) | (with_reducible refine Calls_past (lIs3 8589934592 6074001000 _ (by omega) (by omega) sq_2) (fun z => ?_))))
  go_ret
  refine ⟨rfl, ?_⟩
  (repeat (first | assumption | exact Below.refl _ _ | with_reducible refine past_t _ ?_ | with_reducible refine below_a _ ?_ | with_reducible refine Below.drew ?_ | with_reducible refine below_d _ ?_ | (with_reducible refine Below.setCell ?_ (by (show _ ≤ _; repeat (first | exact Nat.le_refl _ | with_reducible exact le_past (Nat.le_refl _) | with_reducible refine le_past ?_ | with_reducible refine le_al ?_ | with_reducible refine le_set ?_ | with_reducible refine le_p1 ?_))) _)))
end Go.Proofs.Ytocljkoijhipiaa
