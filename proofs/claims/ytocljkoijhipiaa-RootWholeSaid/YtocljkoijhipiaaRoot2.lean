/- root.nearest, Whole, Sqrt, Hypot. -/
import Derived.Test.YtocljkoijhipiaaRoot
namespace Go.Proofs.Ytocljkoijhipiaa
set_option linter.unusedVariables false
open Go.RowKit
theorem ret_u {k : IntKind} {a b : Int} (h : a = b) : Ending.returned (.int k a) = .returned (.int k b) := by rw [h]
theorem ret_ib {k : IntKind} {a b : Int} {c d : Bool} (h : a = b) (g : c = d) : Ending.returned (.tuple #[.int k a, .bool c]) = .returned (.tuple #[.int k b, .bool d]) := by rw [h, g]
theorem small_wv (s : Int) (h0 : 0 ≤ s) (h1 : s ≤ 18446744073709551615) : whi s = 0 ∧ wlo s = s := by unfold whi wlo; omega
theorem cmp_pos (x y : Int) : 0 < cmpI x y ↔ y < x := by unfold cmpI; split <;> (try split) <;> omega
theorem wCmpS (x s : Int) (w : World) (hx0 : -170141183460469231731687303715884105728 ≤ x) (hx : x < 170141183460469231731687303715884105728) (h0 : 0 ≤ s) (h1 : s ≤ 18446744073709551615) :
    Calls Try.prog 22 #[WV x, .agg #[.int .i64 0, .int .u64 s]] w fun e w' => e = .returned (.int .i64 (cmpI x s)) ∧ Below w.heap.size w w' := by
  have h := wCmp x s w hx0 hx (by omega) (by omega)
  have e : WV s = .agg #[.int .i64 0, .int .u64 s] := by obtain ⟨e1, e2⟩ := small_wv s h0 h1; simp only [WV, e1, e2]
  rw [e] at h; exact h
set_option maxHeartbeats 1000000 in
theorem tNear (a : Int) (w : World) (h0 : 0 ≤ a) (h1 : a < 170141183460469231731687303715884105728) :
    Calls Try.prog 49 #[WV a] w fun e w' => e = .returned (.int .u64 (nrt a)) ∧ Below w.heap.size w w' := by
  obtain ⟨i0, i1, i2⟩ := isq_spec a h0
  have i3 := isq_up h0 h1
  have i4 : 0 ≤ isq a * isq a := Int.mul_nonneg i0 i0
  have hn : nrt a = if isq a < a - isq a * isq a then isq a + 1 else isq a := rfl
  have HN := Lib.hid hn
  obtain ⟨s, hs⟩ : ∃ s, isq a = s := ⟨_, rfl⟩
  obtain ⟨l, hl⟩ : ∃ l, a - s * s = l := ⟨_, rfl⟩
  have hr : ∀ w, Calls Try.prog 60 #[WV a] w fun e w' => e = .returned (.tuple #[.int .u64 s, WV l]) ∧ Below w.heap.size w w' := by
    intro w; rw [← hl, ← hs]; exact tRoot a w h0 h1
  rw [hs] at i0 i1 i2 i3 i4 HN
  rw [hl] at HN
  have l0 : 0 ≤ l ∧ l < 170141183460469231731687303715884105728 := by omega
  have hc := cmp_pos l s
  obtain ⟨c, hcc⟩ : ∃ c, cmpI l s = c := ⟨_, rfl⟩
  rw [hcc] at hc
  have HC := Lib.hid hc
  have HL := Lib.hid hl
  clear hn hs hl hc
  go_enter Try.func49, Try.ntmps49
  go_wp2_with (first | (go_at_call 60; (with_reducible refine Calls_past (hr _) (fun z => ?_))) | (go_at_call 22; (with_reducible refine Calls_past (wCmpS l s _ (by omega) (by omega) (by omega) (by omega)) (fun z => ?_)); rw [hcc]))
  all_goals
    go_ret
    refine ⟨ret_u ?_, ?_⟩
    · first | (rw [HN.out, if_pos (HC.out.1 (by omega))]) | (rw [HN.out, if_neg (fun h => absurd (HC.out.2 h) (by omega))])
    · (repeat (first | assumption | exact Below.refl _ _ | with_reducible refine past_t _ ?_ | with_reducible refine below_a _ ?_ | with_reducible refine Below.drew ?_ | with_reducible refine below_d _ ?_ | (with_reducible refine Below.setCell ?_ (by (show _ ≤ _; repeat (first | exact Nat.le_refl _ | with_reducible exact le_past (Nat.le_refl _) | with_reducible refine le_past ?_ | with_reducible refine le_al ?_ | with_reducible refine le_set ?_ | with_reducible refine le_p1 ?_))) _)))
theorem nrt_bd (a : Int) (h0 : 0 ≤ a) (h1 : a < 170141183460469231731687303715884105728) : 0 ≤ nrt a ∧ nrt a ≤ 13043817825332782213 := by
  obtain ⟨i0, i1, i2⟩ := isq_spec a h0
  have i3 := isq_up h0 h1
  unfold nrt; split <;> omega
theorem nrt_up (a m : Int) (h0 : 0 ≤ a) (hm : 0 ≤ m) (h : a < m * m + m + 1) : nrt a ≤ m := by
  obtain ⟨i0, i1, i2⟩ := isq_spec a h0
  have : isq a ≤ m := sq_le i0 hm i1 (by simp only [Int.add_mul, Int.mul_add]; omega)
  unfold nrt
  rcases Int.lt_or_le (isq a) m with g | g
  · split <;> omega
  · have e : isq a = m := by omega
    rw [e, if_neg (by omega)]; omega
noncomputable def whlV (a : Int) : Int := if a < 0 then 0 else if 9223372036854775807 < isq a then 0 else isq a
noncomputable def whlE (a : Int) : Int := if a < 0 then 2 else if 9223372036854775807 < isq a then 2 else 0
set_option maxHeartbeats 1000000 in
theorem tWhole (a : Int) (w : World) (h0 : -170141183460469231731687303715884105728 ≤ a) (h1 : a < 170141183460469231731687303715884105728) :
    Calls Try.prog 34 #[WV a] w fun e w' => e = .returned (.tuple #[.int .i64 (whlV a), .int .i64 (whlE a)]) ∧ Below w.heap.size w w' := by
  by_cases hn : a < 0
  · have e1 : whi a < 0 := by unfold whi; omega
    go_enter Try.func34, Try.ntmps34
    go_wp2_with fail
    go_ret2
    refine ⟨ret_ii ?_ ?_, ?_⟩
    · unfold whlV; rw [if_pos hn]
    · unfold whlE; rw [if_pos hn]
    · (repeat (first | assumption | exact Below.refl _ _ | with_reducible refine past_t _ ?_ | with_reducible refine below_a _ ?_ | with_reducible refine Below.drew ?_ | with_reducible refine below_d _ ?_ | (with_reducible refine Below.setCell ?_ (by (show _ ≤ _; repeat (first | exact Nat.le_refl _ | with_reducible exact le_past (Nat.le_refl _) | with_reducible refine le_past ?_ | with_reducible refine le_al ?_ | with_reducible refine le_set ?_ | with_reducible refine le_p1 ?_))) _)))
  · have e1 : ¬ whi a < 0 := by unfold whi; omega
    have i0 := (isq_spec a (by omega)).1
    have i3 := isq_up (a := a) (by omega) h1
    have v1 : whlV a = if 9223372036854775807 < isq a then 0 else isq a := by unfold whlV; rw [if_neg hn]
    have v2 : whlE a = if 9223372036854775807 < isq a then 2 else 0 := by unfold whlE; rw [if_neg hn]
    have V1 := Lib.hid v1
    have V2 := Lib.hid v2
    clear v1 v2
    by_cases hb : 9223372036854775807 < isq a
    all_goals
      have hb' := hb
      go_enter Try.func34, Try.ntmps34
      go_wp2_with (go_at_call 60; (with_reducible refine Calls_past (tRoot a _ (by omega) h1) (fun z => ?_)))
      go_ret2
      refine ⟨ret_ii ?_ ?_, ?_⟩
      · rw [V1.out]; first | rw [if_pos (by omega)] | rw [if_neg (by omega)]
      · rw [V2.out]; first | rw [if_pos (by omega)] | rw [if_neg (by omega)]
      · (repeat (first | assumption | exact Below.refl _ _ | with_reducible refine past_t _ ?_ | with_reducible refine below_a _ ?_ | with_reducible refine Below.drew ?_ | with_reducible refine below_d _ ?_ | (with_reducible refine Below.setCell ?_ (by (show _ ≤ _; repeat (first | exact Nat.le_refl _ | with_reducible exact le_past (Nat.le_refl _) | with_reducible refine le_past ?_ | with_reducible refine le_al ?_ | with_reducible refine le_set ?_ | with_reducible refine le_p1 ?_))) _)))
noncomputable def sqtV (a : Int) : Int := if a < 0 then 0 else nrt (a * 4294967296)
def sqtC (a : Int) : Bool := decide (a < 0)
theorem sqt_bd (a : Int) (h0 : 0 ≤ a) (h2 : a ≤ 9223372036854775807) : 0 ≤ nrt (a * 4294967296) ∧ nrt (a * 4294967296) ≤ 199032864766430 := by
  exact ⟨(nrt_bd _ (by omega) (by omega)).1, nrt_up _ _ (by omega) (by omega) (by omega)⟩
set_option maxHeartbeats 1000000 in
theorem tSqrt (a : Int) (w : World) (h1 : -9223372036854775808 ≤ a) (h2 : a ≤ 9223372036854775807) :
    Calls Try.prog 26 #[.int .i64 a] w fun e w' => e = .returned (.tuple #[.int .i64 (sqtV a), .bool (sqtC a)]) ∧ Below w.heap.size w w' := by
  by_cases hn : a < 0
  · go_enter Try.func26, Try.ntmps26
    go_wp2_with fail
    go_ret2
    exact ⟨by unfold sqtV sqtC; rw [if_pos hn, decide_eq_true hn]; rfl, Below.refl _ _⟩
  · have b := sqt_bd a (by omega) h2
    have e1 : sqtV a = nrt (a * 4294967296) := by unfold sqtV; rw [if_neg hn]
    have e2 : sqtC a = false := by unfold sqtC; simpa using hn
    rw [e1, e2]
    clear e1 e2
    go_enter Try.func26, Try.ntmps26
    go_wp2_with (first | (go_at_call 20; (with_reducible refine Calls_past (wMul a 4294967296 _ h1 h2 (by omega) (by omega)) (fun z => ?_))) | (go_at_call 49; (with_reducible refine Calls_past (tNear (a * 4294967296) _ (by omega) (by omega)) (fun z => ?_))))
    go_ret2
    refine ⟨rfl, ?_⟩
    (repeat (first | assumption | exact Below.refl _ _ | with_reducible refine past_t _ ?_ | with_reducible refine below_a _ ?_ | with_reducible refine Below.drew ?_ | with_reducible refine below_d _ ?_ | (with_reducible refine Below.setCell ?_ (by (show _ ≤ _; repeat (first | exact Nat.le_refl _ | with_reducible exact le_past (Nat.le_refl _) | with_reducible refine le_past ?_ | with_reducible refine le_al ?_ | with_reducible refine le_set ?_ | with_reducible refine le_p1 ?_))) _)))
def hd (a : Int) : Int := if a < -9223372036854775807 then -9223372036854775807 else a
noncomputable def hyN (a b : Int) : Int := nrt (hd a * hd a + hd b * hd b)
noncomputable def hypV (a b : Int) : Int := if 9223372036854775807 < hyN a b then 9223372036854775807 else hyN a b
noncomputable def hypC (a b : Int) : Bool := decide (9223372036854775807 < hyN a b) || (decide (a < -9223372036854775807) || decide (b < -9223372036854775807))
theorem hd_bd (a : Int) (h1 : -9223372036854775808 ≤ a) (h2 : a ≤ 9223372036854775807) : -9223372036854775807 ≤ hd a ∧ hd a ≤ 9223372036854775807 := by unfold hd; split <;> omega
theorem sq_bd (x : Int) (h1 : -9223372036854775807 ≤ x) (h2 : x ≤ 9223372036854775807) : 0 ≤ x * x ∧ x * x ≤ 9223372036854775807 * 9223372036854775807 := by
  rcases Int.lt_or_le x 0 with h | h
  · have e : x * x = (-x) * (-x) := by rw [Int.neg_mul_neg]
    rw [e]; exact ⟨Int.mul_nonneg (by omega) (by omega), Int.mul_le_mul (by omega) (by omega) (by omega) (by omega)⟩
  · exact ⟨Int.mul_nonneg (by omega) (by omega), Int.mul_le_mul (by omega) (by omega) (by omega) (by omega)⟩
theorem max_hd (a : Int) : max a (-9223372036854775807) = hd a := by unfold hd; split <;> omega
theorem hyp_bd (a b : Int) (h1 : -9223372036854775808 ≤ a) (h2 : a ≤ 9223372036854775807) (h3 : -9223372036854775808 ≤ b) (h4 : b ≤ 9223372036854775807) :
    (0 ≤ hd a * hd a + hd b * hd b ∧ hd a * hd a + hd b * hd b < 170141183460469231731687303715884105728) ∧ 0 ≤ hyN a b ∧ hyN a b ≤ 13043817825332782213 := by
  have a1 := hd_bd a h1 h2
  have b1 := hd_bd b h3 h4
  have a2 := sq_bd _ a1.1 a1.2
  have b2 := sq_bd _ b1.1 b1.2
  have : 0 ≤ hd a * hd a + hd b * hd b ∧ hd a * hd a + hd b * hd b < 170141183460469231731687303715884105728 := by omega
  exact ⟨this, nrt_bd _ this.1 this.2⟩
set_option maxHeartbeats 1000000 in
theorem tHypot (a b : Int) (w : World) (h1 : -9223372036854775808 ≤ a) (h2 : a ≤ 9223372036854775807) (h3 : -9223372036854775808 ≤ b) (h4 : b ≤ 9223372036854775807) :
    Calls Try.prog 37 #[.int .i64 a, .int .i64 b] w fun e w' => e = .returned (.tuple #[.int .i64 (hypV a b), .bool (hypC a b)]) ∧ Below w.heap.size w w' := by
  have m1 := max_hd a
  have m2 := max_hd b
  have a1 := hd_bd a h1 h2
  have b1 := hd_bd b h3 h4
  obtain ⟨N, hN⟩ : ∃ N, hyN a b = N := ⟨_, rfl⟩
  have bd := hyp_bd a b h1 h2 h3 h4
  have v1 : hypV a b = if 9223372036854775807 < N then 9223372036854775807 else N := by rw [← hN]; rfl
  have v2 : hypC a b = (decide (9223372036854775807 < N) || (decide (a < -9223372036854775807) || decide (b < -9223372036854775807))) := by rw [← hN]; rfl
  have hx : ∀ w, Calls Try.prog 49 #[WV (hd a * hd a + hd b * hd b)] w fun e w' => e = .returned (.int .u64 N) ∧ Below w.heap.size w w' := by
    intro w; rw [← hN]; exact tNear _ w bd.1.1 bd.1.2
  rw [hN] at bd
  have n1 : (hd a = a) ↔ ¬ a < -9223372036854775807 := by unfold hd; split <;> omega
  have n2 : (hd b = b) ↔ ¬ b < -9223372036854775807 := by unfold hd; split <;> omega
  obtain ⟨x, hxx⟩ : ∃ x, hd a = x := ⟨_, rfl⟩
  obtain ⟨y, hyy⟩ : ∃ y, hd b = y := ⟨_, rfl⟩
  rw [hxx] at n1 m1 a1
  rw [hyy] at n2 m2 b1
  rw [hxx, hyy] at hx bd
  have V1 := Lib.hid v1
  have V2 := Lib.hid v2
  have N1 := Lib.hid n1
  have N2 := Lib.hid n2
  clear v1 v2 hN n1 n2 hxx hyy
  go_enter Try.func37, Try.ntmps37
  go_wp2_with (first | (go_at_call 20; (first | (with_reducible refine Calls_past (wMul x x _ (by omega) (by omega) (by omega) (by omega)) (fun z => ?_)) | (with_reducible refine Calls_past (wMul y y _ (by omega) (by omega) (by omega) (by omega)) (fun z => ?_)))) | (go_at_call 16; (with_reducible refine Calls_past (wAdd (x * x) (y * y) _) (fun z => ?_))) | (go_at_call 49; (with_reducible refine Calls_past (hx _) (fun z => ?_))))
  all_goals
    go_ret2
    refine ⟨ret_ib ?_ ?_, ?_⟩
    · rw [V1.out]; split <;> omega
    · have u1 := N1.out
      have u2 := N2.out
      rw [V2.out, Bool.eq_iff_iff]
      clear V1 V2 N1 N2 hx bd a1 b1
      simp at *
      omega
    · (repeat (first | assumption | exact Below.refl _ _ | with_reducible refine past_t _ ?_ | with_reducible refine below_a _ ?_ | with_reducible refine Below.drew ?_ | with_reducible refine below_d _ ?_ | (with_reducible refine Below.setCell ?_ (by (show _ ≤ _; repeat (first | exact Nat.le_refl _ | with_reducible exact le_past (Nat.le_refl _) | with_reducible refine le_past ?_ | with_reducible refine le_al ?_ | with_reducible refine le_set ?_ | with_reducible refine le_p1 ?_))) _)))
end Go.Proofs.Ytocljkoijhipiaa
