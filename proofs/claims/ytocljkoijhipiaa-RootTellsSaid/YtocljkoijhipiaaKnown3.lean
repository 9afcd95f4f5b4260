/- The chapter's examples of root; plain laws of the nearest root. -/
import Derived.Test.YtocljkoijhipiaaLaw3
namespace Go.Proofs.Ytocljkoijhipiaa
set_option linter.unusedVariables false
open Go.RowKit
theorem isq_16 : isq 16 = 4 := isq_uniq (by omega) (by omega) (by omega)
theorem isq_124 : isq 21267647932558653966460912964485513216 = 4611686018427387904 := isq_uniq (by omega) (by omega) (by omega)
theorem isq_126 : isq (4611686018427387904 * 18446744073709551616) = 9223372036854775808 := isq_uniq (by omega) (by omega) (by omega)
theorem k126 (w : World) : Calls Try.prog 34 #[.agg #[.int .i64 4611686018427387904, .int .u64 0]] w fun e w' => e = .returned (.tuple #[.int .i64 0, .int .i64 2]) ∧ Below w.heap.size w w' := by
  have h := tWholeNo (4611686018427387904 * 18446744073709551616) w (by omega) (by omega) (.inr (by rw [isq_126]; omega))
  have e : WV (4611686018427387904 * 18446744073709551616) = .agg #[.int .i64 4611686018427387904, .int .u64 0] := by
    have e1 : whi (4611686018427387904 * 18446744073709551616) = 4611686018427387904 := by unfold whi; omega
    have e2 : wlo (4611686018427387904 * 18446744073709551616) = 0 := by unfold wlo; omega
    simp only [WV, e1, e2]
  rw [e] at h; exact h
theorem kSq (w : World) : Calls Try.prog 26 #[.int .i64 (-1)] w fun e w' => e = .returned (.tuple #[.int .i64 0, .bool true]) ∧ Below w.heap.size w w' := by
  have h := tSqrt (-1) w (by omega) (by omega)
  have e1 : sqtV (-1) = 0 := by unfold sqtV; rw [if_pos (by omega)]
  have e2 : sqtC (-1) = true := by decide
  rw [e1, e2] at h; exact h
theorem kHy (w : World) : Calls Try.prog 37 #[.int .i64 12884901888, .int .i64 (-17179869184)] w fun e w' => e = .returned (.tuple #[.int .i64 21474836480, .bool false]) ∧ Below w.heap.size w w' := by
  have h := tHypot 12884901888 (-17179869184) w (by omega) (by omega) (by omega) (by omega)
  have e : hyN 12884901888 (-17179869184) = 21474836480 := by
    unfold hyN hd; rw [if_neg (by omega), if_neg (by omega)]; exact nrt_uniq (by omega) (by omega) (by omega)
  have e1 : hypV 12884901888 (-17179869184) = 21474836480 := by unfold hypV; rw [e, if_neg (by omega)]
  have e2 : hypC 12884901888 (-17179869184) = false := by unfold hypC; rw [e]; decide
  rw [e1, e2] at h; exact h
theorem kHm (w : World) : Calls Try.prog 37 #[.int .i64 9223372036854775807, .int .i64 9223372036854775807] w fun e w' => e = .returned (.tuple #[.int .i64 9223372036854775807, .bool true]) ∧ Below w.heap.size w w' := by
  have h := tHypot 9223372036854775807 9223372036854775807 w (by omega) (by omega) (by omega) (by omega)
  have e : 9223372036854775807 < hyN 9223372036854775807 9223372036854775807 := by
    unfold hyN hd; rw [if_neg (by omega)]
    have i := isq_spec (9223372036854775807 * 9223372036854775807 + 9223372036854775807 * 9223372036854775807) (by omega)
    have : 9223372036854775808 ≤ isq (9223372036854775807 * 9223372036854775807 + 9223372036854775807 * 9223372036854775807) := (le_isq (by omega) (by omega)).2 (by omega)
    unfold nrt; split <;> omega
  have e1 : hypV 9223372036854775807 9223372036854775807 = 9223372036854775807 := by unfold hypV; rw [if_pos e]
  have e2 : hypC 9223372036854775807 9223372036854775807 = true := by unfold hypC; rw [decide_eq_true e]; rfl
  rw [e1, e2] at h; exact h
set_option maxHeartbeats 1000000 in
theorem lKnown3 (w : World) : Calls Try.prog 8 #[] w fun e w' => e = .returned (.bool true) ∧ Below w.heap.size w w' := by
  go_enter Try.func8, Try.ntmps8
  go_wp2_with (first | (go_at_call 14; first | (with_reducible refine Calls_past2 (wOf 16 _ (by omega) (by omega)) (fun z => ?_)) | (with_reducible refine Calls_past (wOf 16 _ (by omega) (by omega)) (fun z => ?_))) | (go_at_call 14; first | (with_reducible refine Calls_past2 (wOf (-1) _ (by omega) (by omega)) (fun z => ?_)) | (with_reducible refine Calls_past (wOf (-1) _ (by omega) (by omega)) (fun z => ?_))) | (go_at_call 20; first | (with_reducible refine Calls_past2 (wMul 4611686018427387904 4611686018427387904 _ (by omega) (by omega) (by omega) (by omega)) (fun z => ?_)) | (with_reducible refine Calls_past (wMul 4611686018427387904 4611686018427387904 _ (by omega) (by omega) (by omega) (by omega)) (fun z => ?_))) | (go_at_call 34; first | (with_reducible refine Calls_past2 (tWholeOk 16 4 _ (by omega) isq_16 (by omega) (by omega)) (fun z => ?_)) | (with_reducible refine Calls_past (tWholeOk 16 4 _ (by omega) isq_16 (by omega) (by omega)) (fun z => ?_))) | (go_at_call 34; first | (with_reducible refine Calls_past2 (tWholeOk 21267647932558653966460912964485513216 4611686018427387904 _ (by omega) isq_124 (by omega) (by omega)) (fun z => ?_)) | (with_reducible refine Calls_past (tWholeOk 21267647932558653966460912964485513216 4611686018427387904 _ (by omega) isq_124 (by omega) (by omega)) (fun z => ?_))) | (go_at_call 34; first | (with_reducible refine Calls_past2 (k126 _) (fun z => ?_)) | (with_reducible refine Calls_past (k126 _) (fun z => ?_))) | (go_at_call 34; first | (with_reducible refine Calls_past2 (tWholeNo (-1) _ (by omega) (by omega) (.inl (by omega))) (fun z => ?_)) | (with_reducible refine Calls_past (tWholeNo (-1) _ (by omega) (by omega) (.inl (by omega))) (fun z => ?_))) | (go_at_call 26; first | (with_reducible refine Calls_past2 (kSq _) (fun z => ?_)) | (with_reducible refine Calls_past (kSq _) (fun z => ?_))) | (go_at_call 37; first | (with_reducible refine Calls_past2 (kHy _) (fun z => ?_)) | (with_reducible refine Calls_past (kHy _) (fun z => ?_))) | (go_at_call 37; first | (with_reducible refine Calls_past2 (kHm _) (fun z => ?_)) | (with_reducible refine Calls_past (kHm _) (fun z => ?_))) | (go_at_call 25; first | (with_reducible refine Calls_past2 (lAwake3 _) (fun z => ?_)) | (with_reducible refine Calls_past (lAwake3 _) (fun z => ?_))) | (go_at_call 39; first | (with_reducible refine Calls_past2 (lIs3 1 65536 _ (by omega) (by omega) sq_1) (fun z => ?_)) | (with_reducible refine Calls_past (lIs3 1 65536 _ (by omega) (by omega) sq_1) (fun z => ?_))))
  go_ret
  refine ⟨rfl, ?_⟩
  (repeat (first | assumption | exact Below.refl _ _ | with_reducible refine past_t _ ?_ | with_reducible refine below_a _ ?_ | with_reducible refine Below.drew ?_ | with_reducible refine below_d _ ?_ | (with_reducible refine Below.setCell ?_ (by (show _ ≤ _; repeat (first | exact Nat.le_refl _ | with_reducible exact le_past (Nat.le_refl _) | with_reducible refine le_past ?_ | with_reducible refine le_al ?_ | with_reducible refine le_set ?_ | with_reducible refine le_p1 ?_))) _)))
theorem nrt_hi (a : Int) (h0 : 0 ≤ a) : a ≤ nrt a * nrt a + nrt a := by
  obtain ⟨i0, i1, i2⟩ := isq_spec a h0
  simp only [Int.add_mul, Int.mul_add] at i2
  unfold nrt; split
  · simp only [Int.add_mul, Int.mul_add]; omega
  · omega
theorem nrt_lo (a : Int) (h0 : 0 ≤ a) (hn : nrt a ≠ 0) : nrt a * nrt a - nrt a < a := by
  obtain ⟨i0, i1, i2⟩ := isq_spec a h0
  have e := nrt_edge a
  split at e
  · rw [e]; simp only [Int.add_mul, Int.mul_add]; omega
  · rw [e] at hn ⊢; omega
theorem nrt_nn (a : Int) (h0 : 0 ≤ a) : 0 ≤ nrt a := by
  obtain ⟨i0, i1, i2⟩ := isq_spec a h0
  unfold nrt; split <;> omega
theorem nrt_mono {a b : Int} (h0 : 0 ≤ a) (h : a ≤ b) : nrt a ≤ nrt b := by
  have n0 := nrt_nn b (by omega)
  have hh := nrt_hi b (by omega)
  exact nrt_up a _ h0 n0 (by omega)
end Go.Proofs.Ytocljkoijhipiaa
