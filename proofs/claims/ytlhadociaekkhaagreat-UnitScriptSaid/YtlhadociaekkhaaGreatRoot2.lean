/- root.nearest, Sqrt. -/
import Derived.Test.YtlhadociaekkhaaGreatRoot
namespace Go.Proofs.YtlhadociaekkhaaGreat
set_option linter.unusedVariables false
open Go.RowKit
theorem ret_u {k : IntKind} {a b : Int} (h : a = b) : Ending.returned (.int k a) = .returned (.int k b) := by rw [h]
theorem small_wv (s : Int) (h0 : 0 ≤ s) (h1 : s ≤ 18446744073709551615) : whi s = 0 ∧ wlo s = s := by unfold whi wlo; omega
theorem cmp_pos (x y : Int) : 0 < cmpI x y ↔ y < x := by unfold cmpI; split <;> (try split) <;> omega
theorem wCmpS (x s : Int) (w : World) (hx0 : -170141183460469231731687303715884105728 ≤ x) (hx : x < 170141183460469231731687303715884105728) (h0 : 0 ≤ s) (h1 : s ≤ 18446744073709551615) :
    Calls Tryz.prog 82 #[WV x, .agg #[.int .i64 0, .int .u64 s]] w fun e w' => e = .returned (.int .i64 (cmpI x s)) ∧ Below w.heap.size w w' := by
  have h := wCmp x s w hx0 hx (by omega) (by omega)
  have e : WV s = .agg #[.int .i64 0, .int .u64 s] := by obtain ⟨e1, e2⟩ := small_wv s h0 h1; simp only [WV, e1, e2]
  rw [e] at h; exact h
set_option maxHeartbeats 1000000 in
theorem tNear (a : Int) (w : World) (h0 : 0 ≤ a) (h1 : a < 170141183460469231731687303715884105728) :
    Calls Tryz.prog 61 #[WV a] w fun e w' => e = .returned (.int .u64 (nrt a)) ∧ Below w.heap.size w w' := by
  obtain ⟨i0, i1, i2⟩ := isq_spec a h0
  have i3 := isq_up h0 h1
  have i4 : 0 ≤ isq a * isq a := Int.mul_nonneg i0 i0
  have hn : nrt a = if isq a < a - isq a * isq a then isq a + 1 else isq a := rfl
  have HN := Lib.hid hn
  obtain ⟨s, hs⟩ : ∃ s, isq a = s := ⟨_, rfl⟩
  obtain ⟨l, hl⟩ : ∃ l, a - s * s = l := ⟨_, rfl⟩
  have hr : ∀ w, Calls Tryz.prog 81 #[WV a] w fun e w' => e = .returned (.tuple #[.int .u64 s, WV l]) ∧ Below w.heap.size w w' := by
    intro w; rw [← hl, ← hs]; exact tRoot a w h0 h1
  rw [hs] at i0 i1 i2 i3 i4 HN
  rw [hl] at HN
  have l0 : 0 ≤ l ∧ l < 170141183460469231731687303715884105728 := by omega
  have hc := cmp_pos l s
  obtain ⟨c, hcc⟩ : ∃ c, cmpI l s = c := ⟨_, rfl⟩
  rw [hcc] at hc
  have HC := Lib.hid hc
  have HL := Lib.hid hl
  clear hn hs hl hc
  go_enter Tryz.func61, Tryz.ntmps61
  go_wp2_with (first | (go_at_call 81; (with_reducible refine Calls_past (hr _) (fun z => ?_))) | (go_at_call 82; (with_reducible refine Calls_past (wCmpS l s _ (by omega) (by omega) (by omega) (by omega)) (fun z => ?_)); rw [hcc]))
  all_goals
    go_ret
    refine ⟨ret_u ?_, ?_⟩
    · first | (rw [HN.out, if_pos (HC.out.1 (by omega))]) | (rw [HN.out, if_neg (fun h => absurd (HC.out.2 h) (by omega))])
    · (repeat (first | assumption | exact Below.refl _ _ | with_reducible refine past_t _ ?_ | with_reducible refine below_a _ ?_ | with_reducible refine Below.drew ?_ | with_reducible refine below_d _ ?_ | (with_reducible refine Below.setCell ?_ (by (show _ ≤ _; repeat (first | exact Nat.le_refl _ | assumption | (omega; done) | with_reducible exact le_past (Nat.le_refl _) | with_reducible refine le_past ?_ | with_reducible refine le_al ?_ | with_reducible refine le_set ?_ | with_reducible refine le_p1 ?_))) _)))
theorem nrt_bd (a : Int) (h0 : 0 ≤ a) (h1 : a < 170141183460469231731687303715884105728) : 0 ≤ nrt a ∧ nrt a ≤ 13043817825332782213 := by
  obtain ⟨i0, i1, i2⟩ := isq_spec a h0
  have i3 := isq_up h0 h1
  unfold nrt; split <;> omega
theorem nrt_up (a m : Int) (h0 : 0 ≤ a) (hm : 0 ≤ m) (h : a < m * m + m + 1) : nrt a ≤ m := by
  obtain ⟨i0, i1, i2⟩ := isq_spec a h0
  have : isq a ≤ m := sq_le i0 hm i1 (by simp only [Int.add_mul, Int.mul_add]; omega)
  unfold nrt
  rcases Int.lt_or_le (isq a) m with g | g
  · split <;> omega
  · have e : isq a = m := by omega
    rw [e, if_neg (by omega)]; omega
noncomputable def sqtV (a : Int) : Int := if a < 0 then 0 else nrt (a * 4294967296)
def sqtC (a : Int) : Bool := decide (a < 0)
theorem sqt_bd (a : Int) (h0 : 0 ≤ a) (h2 : a ≤ 9223372036854775807) : 0 ≤ nrt (a * 4294967296) ∧ nrt (a * 4294967296) ≤ 199032864766430 := by
  exact ⟨(nrt_bd _ (by omega) (by omega)).1, nrt_up _ _ (by omega) (by omega) (by omega)⟩
set_option maxHeartbeats 1000000 in
theorem tSqrt (a : Int) (w : World) (h1 : -9223372036854775808 ≤ a) (h2 : a ≤ 9223372036854775807) :
    Calls Tryz.prog 43 #[.int .i64 a] w fun e w' => e = .returned (.tuple #[.int .i64 (sqtV a), .bool (sqtC a)]) ∧ Below w.heap.size w w' := by
  by_cases hn : a < 0
  · go_enter Tryz.func43, Tryz.ntmps43
    go_wp2_with fail
    go_ret2
    exact ⟨by unfold sqtV sqtC; rw [if_pos hn, decide_eq_true hn]; rfl, Below.refl _ _⟩
  · have b := sqt_bd a (by omega) h2
    have e1 : sqtV a = nrt (a * 4294967296) := by unfold sqtV; rw [if_neg hn]
    have e2 : sqtC a = false := by unfold sqtC; simpa using hn
    rw [e1, e2]
    clear e1 e2
    go_enter Tryz.func43, Tryz.ntmps43
    go_wp2_with (first | (go_at_call 62; (with_reducible refine Calls_past (wMul a 4294967296 _ h1 h2 (by omega) (by omega)) (fun z => ?_))) | (go_at_call 61; (with_reducible refine Calls_past (tNear (a * 4294967296) _ (by omega) (by omega)) (fun z => ?_))))
    go_ret2
    refine ⟨rfl, ?_⟩
    (repeat (first | assumption | exact Below.refl _ _ | with_reducible refine past_t _ ?_ | with_reducible refine below_a _ ?_ | with_reducible refine Below.drew ?_ | with_reducible refine below_d _ ?_ | (with_reducible refine Below.setCell ?_ (by (show _ ≤ _; repeat (first | exact Nat.le_refl _ | assumption | (omega; done) | with_reducible exact le_past (Nat.le_refl _) | with_reducible refine le_past ?_ | with_reducible refine le_al ?_ | with_reducible refine le_set ?_ | with_reducible refine le_p1 ?_))) _)))
end Go.Proofs.YtlhadociaekkhaaGreat
