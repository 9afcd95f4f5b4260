/- The reference's square, above, root. -/
import Derived.Test.YtlhadociaekkhaaGreatRoot2b
namespace Go.Proofs.YtlhadociaekkhaaGreat
set_option linter.unusedVariables false
open Go.RowKit
theorem rAddS (x s : Int) (w : World) (h0 : 0 ≤ s) (h1 : s ≤ 18446744073709551615) :
    Calls Tryz.prog 68 #[WV x, .agg #[.int .i64 0, .int .u64 s]] w fun e w' => e = .returned (WV (x + s)) ∧ Below w.heap.size w w' := by
  have h := rAdd x s w
  have e : WV s = .agg #[.int .i64 0, .int .u64 s] := by obtain ⟨e1, e2⟩ := small_wv s h0 h1; simp only [WV, e1, e2]
  rw [e] at h; exact h
set_option maxHeartbeats 2000000 in
theorem rSquare (n : Int) (w : World) (h0 : 0 ≤ n) (h1 : n ≤ 18446744073709551615) :
    Calls Tryz.prog 91 #[.int .u64 n] w fun e w' => e = .returned (WV (n * n)) ∧ Below w.heap.size w w' := by
  obtain ⟨h, hh⟩ : ∃ h, n / 2 = h := ⟨_, rfl⟩
  have b0 : 0 ≤ h := by omega
  have b1 : h ≤ 9223372036854775807 := by omega
  by_cases ho : n % 2 = 1
  · have e : n * n = h * h + h * h + h * 2 + (h * h + h * h + h * 2) + 1 := by
      have : n = 2 * h + 1 := by omega
      rw [this]; simp only [Int.add_mul, Int.mul_add, Int.mul_assoc, Int.one_mul, Int.mul_one]; rw [Int.mul_left_comm h 2 h]; omega
    have hd : ((n % 2 : Int) == 1) = true := by simpa using ho
    rw [e]
    clear ho e
    go_enter Tryz.func91, Tryz.ntmps91
    go_wp2_with (first | (go_at_call 72; first | (with_reducible refine Calls_past2 (rMul h h _ (by omega) (by omega) (by omega) (by omega)) (fun z => ?_)) | (with_reducible refine Calls_past (rMul h h _ (by omega) (by omega) (by omega) (by omega)) (fun z => ?_))) | (go_at_call 68; first | (with_reducible refine Calls_past2 (rAdd (h * h) (h * h) _) (fun z => ?_)) | (with_reducible refine Calls_past (rAdd (h * h) (h * h) _) (fun z => ?_))))
    (first | refine region_past2_tail 4 (by kernel_rfl) (by kernel_rfl) ?_ | refine region_past_tail 4 (by kernel_rfl) (by kernel_rfl) ?_); simp only [List.take_succ_cons, List.take_zero, List.drop_succ_cons, List.drop_zero]
    repeat (go_big_quiet_step ((first | (go_at_call 72; with_reducible exact Calls_pastq (rMul h 2 _ (by omega) (by omega) (by omega) (by omega))) | (go_at_call 68; with_reducible exact Calls_pastq (rAdd (h * h + h * h) (h * 2) _)))))
    refine wpQuiet_nil ?_; rintro _ ⟨y, rfl⟩
    go_wp2_with (first | (go_at_call 68; first | (with_reducible refine Calls_past2 (rAdd (h * h + h * h + h * 2) (h * h + h * h + h * 2) _) (fun z => ?_)) | (with_reducible refine Calls_past (rAdd (h * h + h * h + h * 2) (h * h + h * h + h * 2) _) (fun z => ?_))) | (go_at_call 68; first | (with_reducible refine Calls_past2 (rAddS (h * h + h * h + h * 2 + (h * h + h * h + h * 2)) 1 _ (by omega) (by omega)) (fun z => ?_)) | (with_reducible refine Calls_past (rAddS (h * h + h * h + h * 2 + (h * h + h * h + h * 2)) 1 _ (by omega) (by omega)) (fun z => ?_))))
    exact bodyPost_ret (v := WV (h * h + h * h + h * 2 + (h * h + h * h + h * 2) + 1)) (by (first | (simp [results, Tryz.results91, go_sem]; done) | (simp [results, Tryz.results91, go_sem, ↓IntWalk.iteOmega]; done))) rfl ⟨rfl, by (repeat (first | assumption | exact Below.refl _ _ | with_reducible refine past_t _ ?_ | with_reducible refine below_a _ ?_ | with_reducible refine Below.drew ?_ | with_reducible refine below_d _ ?_ | (with_reducible refine Below.setCell ?_ (by (show _ ≤ _; repeat (first | exact Nat.le_refl _ | assumption | (omega; done) | with_reducible exact le_past (Nat.le_refl _) | with_reducible refine le_past ?_ | with_reducible refine le_al ?_ | with_reducible refine le_set ?_ | with_reducible refine le_p1 ?_))) _)))⟩
  · have e : n * n = h * h + h * h + (h * h + h * h) := by
      have : n = 2 * h := by omega
      rw [this]; simp only [Int.mul_assoc]; rw [Int.mul_left_comm h 2 h]; omega
    have hd : ((n % 2 : Int) == 1) = false := by simpa using ho
    rw [e]
    clear ho e
    go_enter Tryz.func91, Tryz.ntmps91
    go_wp2_with (first | (go_at_call 72; first | (with_reducible refine Calls_past2 (rMul h h _ (by omega) (by omega) (by omega) (by omega)) (fun z => ?_)) | (with_reducible refine Calls_past (rMul h h _ (by omega) (by omega) (by omega) (by omega)) (fun z => ?_))) | (go_at_call 68; first | (with_reducible refine Calls_past2 (rAdd (h * h) (h * h) _) (fun z => ?_)) | (with_reducible refine Calls_past (rAdd (h * h) (h * h) _) (fun z => ?_))) | (go_at_call 68; first | (with_reducible refine Calls_past2 (rAdd (h * h + h * h) (h * h + h * h) _) (fun z => ?_)) | (with_reducible refine Calls_past (rAdd (h * h + h * h) (h * h + h * h) _) (fun z => ?_))))
    exact bodyPost_ret (v := WV (h * h + h * h + (h * h + h * h))) (by (first | (simp [results, Tryz.results91, go_sem]; done) | (simp [results, Tryz.results91, go_sem, ↓IntWalk.iteOmega]; done))) rfl ⟨rfl, by (repeat (first | assumption | exact Below.refl _ _ | with_reducible refine past_t _ ?_ | with_reducible refine below_a _ ?_ | with_reducible refine Below.drew ?_ | with_reducible refine below_d _ ?_ | (with_reducible refine Below.setCell ?_ (by (show _ ≤ _; repeat (first | exact Nat.le_refl _ | assumption | (omega; done) | with_reducible exact le_past (Nat.le_refl _) | with_reducible refine le_past ?_ | with_reducible refine le_al ?_ | with_reducible refine le_set ?_ | with_reducible refine le_p1 ?_))) _)))⟩
theorem sq_up (n : Int) (h0 : 0 ≤ n) (h : n ≤ 13043817825332782212) : 0 ≤ n * n ∧ n * n < 170141183460469231731687303715884105728 := by
  have := Int.mul_le_mul h h h0 (by omega)
  exact ⟨Int.mul_nonneg h0 h0, by omega⟩
theorem sq_dn (n : Int) (h : 13043817825332782212 < n) : 170141183460469231731687303715884105728 ≤ n * n := by
  have : (13043817825332782213 : Int) * 13043817825332782213 ≤ n * n := Int.mul_le_mul (by omega) (by omega) (by omega) (by omega)
  omega
set_option maxHeartbeats 1000000 in
theorem rAbove (n a : Int) (w : World) (h0 : 0 ≤ n) (h1 : n ≤ 18446744073709551615) (a0 : 0 ≤ a) (a1 : a < 170141183460469231731687303715884105728) :
    Calls Tryz.prog 107 #[.int .u64 n, WV a] w fun e w' => e = .returned (.bool (decide (a < n * n))) ∧ Below w.heap.size w w' := by
  by_cases hb : 13043817825332782212 < n
  · have e1 : (decide ((13043817825332782212 : Int) < n)) = true := by simpa using hb
    have e2 : (decide (a < n * n)) = true := by have := sq_dn n hb; simp; omega
    have e3 : (9223372036854775808 : Int) ≤ n := by omega
    rw [e2]
    clear e2
    go_enter Tryz.func107, Tryz.ntmps107
    go_wp2_with fail
    (first | refine region_past2 (by kernel_rfl) (by kernel_rfl) ?_ | refine region_past (by kernel_rfl) (by kernel_rfl) ?_)
    repeat (go_big_quiet_step (fail))
    refine wpQuiet_nil ?_; rintro _ ⟨y, rfl⟩
    go_wp2_with fail
    go_ret
    refine ⟨rfl, ?_⟩
    (repeat (first | assumption | exact Below.refl _ _ | with_reducible refine past_t _ ?_ | with_reducible refine below_a _ ?_ | with_reducible refine Below.drew ?_ | with_reducible refine below_d _ ?_ | (with_reducible refine Below.setCell ?_ (by (show _ ≤ _; repeat (first | exact Nat.le_refl _ | assumption | (omega; done) | with_reducible exact le_past (Nat.le_refl _) | with_reducible refine le_past ?_ | with_reducible refine le_al ?_ | with_reducible refine le_set ?_ | with_reducible refine le_p1 ?_))) _)))
  · have e1 : (decide ((13043817825332782212 : Int) < n)) = false := by simpa using hb
    have sq := sq_up n h0 (by omega)
    have e2 : (decide (a < n * n)) = decide (0 < cmpI (n * n) a) := by rw [decide_eq_decide]; exact (cmp_pos _ _).symm
    rw [e2]
    obtain ⟨c, hc⟩ : ∃ c, cmpI (n * n) a = c := ⟨_, rfl⟩
    have hs : ∀ w, Calls Tryz.prog 92 #[WV (n * n), WV a] w fun e w' => e = .returned (.int .i64 c) ∧ Below w.heap.size w w' := by
      intro w; rw [← hc]; exact rCmp _ _ w (by omega) (by omega) (by omega) (by omega)
    rw [hc]
    clear e2 hc
    by_cases hm : (9223372036854775808 : Int) ≤ n
    all_goals
      go_enter Tryz.func107, Tryz.ntmps107
      go_wp2_with fail
      (first | refine region_past2 (by kernel_rfl) (by kernel_rfl) ?_ | refine region_past (by kernel_rfl) (by kernel_rfl) ?_)
      repeat (go_big_quiet_step ((first | (go_at_call 91; with_reducible exact Calls_pastq (rSquare n _ h0 h1)) | (go_at_call 92; with_reducible exact Calls_pastq (hs _)))))
      refine wpQuiet_nil ?_; rintro _ ⟨y, rfl⟩
      go_wp2_with fail
      go_ret
      refine ⟨rfl, ?_⟩
      (repeat (first | assumption | exact Below.refl _ _ | with_reducible refine past_t _ ?_ | with_reducible refine below_a _ ?_ | with_reducible refine Below.drew ?_ | with_reducible refine below_d _ ?_ | (with_reducible refine Below.setCell ?_ (by (show _ ≤ _; repeat (first | exact Nat.le_refl _ | assumption | (omega; done) | with_reducible exact le_past (Nat.le_refl _) | with_reducible refine le_past ?_ | with_reducible refine le_al ?_ | with_reducible refine le_set ?_ | with_reducible refine le_p1 ?_))) _)))
end Go.Proofs.YtlhadociaekkhaaGreat
