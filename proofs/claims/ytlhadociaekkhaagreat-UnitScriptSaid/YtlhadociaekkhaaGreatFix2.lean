/- The reference of fix. -/
import Derived.Test.YtlhadociaekkhaaGreatFix1
import Derived.Test.YtlhadociaekkhaaGreatRef5
import Derived.Test.YtlhadociaekkhaaGreatRFit
namespace Go.Proofs.YtlhadociaekkhaaGreat
set_option linter.unusedVariables false
open Go.RowKit
theorem rTaken (a : Int) (w : World) (h : InI a) :
    Calls Tryz.prog 66 #[.int .i64 a] w fun e w' => e = .returned (.tuple #[.int .i64 (hd a), .bool (bad a)]) ∧ Below w.heap.size w w' := by
  by_cases hc : a < -9223372036854775807
  · have e1 : hd a = -9223372036854775807 := by unfold hd; rw [if_pos hc]
    have e2 : bad a = true := by unfold bad; simpa using hc
    rw [e1, e2]
    go_enter Tryz.func66, Tryz.ntmps66
    go_wp2_with fail
    go_ret2
    exact ⟨rfl, Below.refl _ _⟩
  · have e1 : hd a = a := by unfold hd; rw [if_neg hc]
    have e2 : bad a = false := by unfold bad; simpa using hc
    rw [e1, e2]
    go_enter Tryz.func66, Tryz.ntmps66
    go_wp2_with fail
    go_ret2
    exact ⟨rfl, Below.refl _ _⟩
theorem rFits (X : Int) (c : Bool) (w : World) (x0 : -170141183460469231731687303715884105728 ≤ X) (x1 : X < 170141183460469231731687303715884105728) :
    Calls Tryz.prog 67 #[WV X, .bool c] w fun e w' => e = .returned (.tuple #[.int .i64 (fitV X), .bool (fitC X || c)]) ∧ Below w.heap.size w w' := by
  have h1 := fun w => rFit X w x0 x1
  obtain ⟨p, hp⟩ : ∃ p, fitC X = p := ⟨_, rfl⟩
  rw [hp] at h1 ⊢
  clear hp
  go_enter Tryz.func67, Tryz.ntmps67
  go_wp2_with (first | (go_at_call 75; first | (with_reducible refine Calls_past2 (h1 _) (fun z => ?_)) | (with_reducible refine Calls_past (h1 _) (fun z => ?_))))
  all_goals
    go_ret2
    refine ⟨ret_ib rfl ?_, by (repeat (first | assumption | exact Below.refl _ _ | with_reducible refine past_t _ ?_ | with_reducible refine below_a _ ?_ | with_reducible refine Below.drew ?_ | with_reducible refine below_d _ ?_ | (with_reducible refine Below.setCell ?_ (by (show _ ≤ _; repeat (first | exact Nat.le_refl _ | assumption | (omega; done) | with_reducible exact le_past (Nat.le_refl _) | with_reducible refine le_past ?_ | with_reducible refine le_al ?_ | with_reducible refine le_set ?_ | with_reducible refine le_p1 ?_))) _)))⟩
    clear h1
    cases p <;> cases c <;> first | rfl | contradiction
theorem rRoundB (x n d : Int) (w : World) (h0 : -170141183460469231731687303715884105728 ≤ x) (h1 : x < 170141183460469231731687303715884105728) (n0 : 0 ≤ n) (n1 : n ≤ 127) (hd : (2 : Int) ^ n.toNat = d) :
    Calls Tryz.prog 86 #[WV x, .int .i64 n] w fun e w' => e = .returned (.tuple #[WV (rnd x d), .int .i64 0]) ∧ Below w.heap.size w w' := by
  have h := rRound x n w h0 h1 n0 n1
  rw [hd] at h; exact h
theorem rSum0 (a b : Int) (w : World) (ha : InI a) (hb : InI b) :
    Calls Tryz.prog 73 #[.int .i64 a, .int .i64 b, .int .i64 0] w fun e w' => e = .returned (.tuple #[.int .i64 (fitV (addW a b)), .bool (cutW (addW a b) a b)]) ∧ Below w.heap.size w w' := by
  have ha2 := hd_bd a ha.1 ha.2
  have hb2 := hd_bd b hb.1 hb.2
  have h2 := fun w => rTaken a w ha
  have h3 := fun w => rTaken b w hb
  have bX := dAdd a b ha hb
  have hc : cutW (addW a b) a b = (fitC (addW a b) || (bad a || bad b)) := rfl
  have hu : addW a b = rnd (hd a + hd b) 1 := by unfold addW; rw [rnd_one]
  obtain ⟨q, hq⟩ : ∃ q, bad a = q := ⟨_, rfl⟩
  obtain ⟨r, hr⟩ : ∃ r, bad b = r := ⟨_, rfl⟩
  rw [hq] at h2 hc
  rw [hr] at h3 hc
  rw [hc]
  clear hc hq hr
  rw [hu] at bX ⊢
  clear hu
  obtain ⟨x, hx⟩ : ∃ x, hd a = x := ⟨_, rfl⟩
  obtain ⟨y, hy⟩ : ∃ y, hd b = y := ⟨_, rfl⟩
  rw [hx] at ha2 h2
  rw [hy] at hb2 h3
  rw [hx, hy] at bX ⊢
  clear hx hy
  obtain ⟨R, hR⟩ : ∃ R, rnd (x + y) 1 = R := ⟨_, rfl⟩
  have hr := fun w => rRoundB (x + y) 0 1 w (by omega) (by omega) (by omega) (by omega) (by decide)
  rw [hR] at hr bX ⊢
  clear hR
  go_enter Tryz.func73, Tryz.ntmps73
  go_wp2_with (first | (go_at_call 66; first | (with_reducible refine Calls_past2 (h2 _) (fun z => ?_)) | (with_reducible refine Calls_past (h2 _) (fun z => ?_))) | (go_at_call 66; first | (with_reducible refine Calls_past2 (h3 _) (fun z => ?_)) | (with_reducible refine Calls_past (h3 _) (fun z => ?_))) | (go_at_call 69; first | (with_reducible refine Calls_past2 (rOf x _ (by omega) (by omega)) (fun z => ?_)) | (with_reducible refine Calls_past (rOf x _ (by omega) (by omega)) (fun z => ?_))) | (go_at_call 69; first | (with_reducible refine Calls_past2 (rOf y _ (by omega) (by omega)) (fun z => ?_)) | (with_reducible refine Calls_past (rOf y _ (by omega) (by omega)) (fun z => ?_))) | (go_at_call 68; first | (with_reducible refine Calls_past2 (rAdd x y _) (fun z => ?_)) | (with_reducible refine Calls_past (rAdd x y _) (fun z => ?_))) | (go_at_call 86; first | (with_reducible refine Calls_past2 (hr _) (fun z => ?_)) | (with_reducible refine Calls_past (hr _) (fun z => ?_))) | (go_at_call 67; first | (with_reducible refine Calls_past2 (rFits R true _ (by omega) (by omega)) (fun z => ?_)) | (with_reducible refine Calls_past (rFits R true _ (by omega) (by omega)) (fun z => ?_))) | (go_at_call 67; first | (with_reducible refine Calls_past2 (rFits R r _ (by omega) (by omega)) (fun z => ?_)) | (with_reducible refine Calls_past (rFits R r _ (by omega) (by omega)) (fun z => ?_))))
  all_goals
    go_ret2
    refine ⟨ret_ib rfl ?_, by (repeat (first | assumption | exact Below.refl _ _ | with_reducible refine past_t _ ?_ | with_reducible refine below_a _ ?_ | with_reducible refine Below.drew ?_ | with_reducible refine below_d _ ?_ | (with_reducible refine Below.setCell ?_ (by (show _ ≤ _; repeat (first | exact Nat.le_refl _ | assumption | (omega; done) | with_reducible exact le_past (Nat.le_refl _) | with_reducible refine le_past ?_ | with_reducible refine le_al ?_ | with_reducible refine le_set ?_ | with_reducible refine le_p1 ?_))) _)))⟩
    clear h2 h3 hr
    cases q <;> cases r <;> first | rfl | contradiction | (simp; done)
theorem rSum1 (a b : Int) (w : World) (ha : InI a) (hb : InI b) :
    Calls Tryz.prog 73 #[.int .i64 a, .int .i64 b, .int .i64 1] w fun e w' => e = .returned (.tuple #[.int .i64 (fitV (halfW a b)), .bool (cutW (halfW a b) a b)]) ∧ Below w.heap.size w w' := by
  have ha2 := hd_bd a ha.1 ha.2
  have hb2 := hd_bd b hb.1 hb.2
  have h2 := fun w => rTaken a w ha
  have h3 := fun w => rTaken b w hb
  have bX := dHalf a b ha hb
  have hc : cutW (halfW a b) a b = (fitC (halfW a b) || (bad a || bad b)) := rfl
  have hu : halfW a b = rnd (hd a + hd b) 2 := rfl
  obtain ⟨q, hq⟩ : ∃ q, bad a = q := ⟨_, rfl⟩
  obtain ⟨r, hr⟩ : ∃ r, bad b = r := ⟨_, rfl⟩
  rw [hq] at h2 hc
  rw [hr] at h3 hc
  rw [hc]
  clear hc hq hr
  rw [hu] at bX ⊢
  clear hu
  obtain ⟨x, hx⟩ : ∃ x, hd a = x := ⟨_, rfl⟩
  obtain ⟨y, hy⟩ : ∃ y, hd b = y := ⟨_, rfl⟩
  rw [hx] at ha2 h2
  rw [hy] at hb2 h3
  rw [hx, hy] at bX ⊢
  clear hx hy
  obtain ⟨R, hR⟩ : ∃ R, rnd (x + y) 2 = R := ⟨_, rfl⟩
  have hr := fun w => rRoundB (x + y) 1 2 w (by omega) (by omega) (by omega) (by omega) (by decide)
  rw [hR] at hr bX ⊢
  clear hR
  go_enter Tryz.func73, Tryz.ntmps73
  go_wp2_with (first | (go_at_call 66; first | (with_reducible refine Calls_past2 (h2 _) (fun z => ?_)) | (with_reducible refine Calls_past (h2 _) (fun z => ?_))) | (go_at_call 66; first | (with_reducible refine Calls_past2 (h3 _) (fun z => ?_)) | (with_reducible refine Calls_past (h3 _) (fun z => ?_))) | (go_at_call 69; first | (with_reducible refine Calls_past2 (rOf x _ (by omega) (by omega)) (fun z => ?_)) | (with_reducible refine Calls_past (rOf x _ (by omega) (by omega)) (fun z => ?_))) | (go_at_call 69; first | (with_reducible refine Calls_past2 (rOf y _ (by omega) (by omega)) (fun z => ?_)) | (with_reducible refine Calls_past (rOf y _ (by omega) (by omega)) (fun z => ?_))) | (go_at_call 68; first | (with_reducible refine Calls_past2 (rAdd x y _) (fun z => ?_)) | (with_reducible refine Calls_past (rAdd x y _) (fun z => ?_))) | (go_at_call 86; first | (with_reducible refine Calls_past2 (hr _) (fun z => ?_)) | (with_reducible refine Calls_past (hr _) (fun z => ?_))) | (go_at_call 67; first | (with_reducible refine Calls_past2 (rFits R true _ (by omega) (by omega)) (fun z => ?_)) | (with_reducible refine Calls_past (rFits R true _ (by omega) (by omega)) (fun z => ?_))) | (go_at_call 67; first | (with_reducible refine Calls_past2 (rFits R r _ (by omega) (by omega)) (fun z => ?_)) | (with_reducible refine Calls_past (rFits R r _ (by omega) (by omega)) (fun z => ?_))))
  all_goals
    go_ret2
    refine ⟨ret_ib rfl ?_, by (repeat (first | assumption | exact Below.refl _ _ | with_reducible refine past_t _ ?_ | with_reducible refine below_a _ ?_ | with_reducible refine Below.drew ?_ | with_reducible refine below_d _ ?_ | (with_reducible refine Below.setCell ?_ (by (show _ ≤ _; repeat (first | exact Nat.le_refl _ | assumption | (omega; done) | with_reducible exact le_past (Nat.le_refl _) | with_reducible refine le_past ?_ | with_reducible refine le_al ?_ | with_reducible refine le_set ?_ | with_reducible refine le_p1 ?_))) _)))⟩
    clear h2 h3 hr
    cases q <;> cases r <;> first | rfl | contradiction | (simp; done)
theorem rFAdd (a b : Int) (w : World) (ha : InI a) (hb : InI b) :
    Calls Tryz.prog 64 #[.int .i64 a, .int .i64 b] w fun e w' => e = .returned (.tuple #[.int .i64 (fitV (addW a b)), .bool (cutW (addW a b) a b)]) ∧ Below w.heap.size w w' := by
  go_enter Tryz.func64, Tryz.ntmps64
  go_wp2_with (first | (go_at_call 73; first | (with_reducible refine Calls_past2 (rSum0 a b _ ha hb) (fun z => ?_)) | (with_reducible refine Calls_past (rSum0 a b _ ha hb) (fun z => ?_))))
  go_ret2
  exact ⟨rfl, by (repeat (first | assumption | exact Below.refl _ _ | with_reducible refine past_t _ ?_ | with_reducible refine below_a _ ?_ | with_reducible refine Below.drew ?_ | with_reducible refine below_d _ ?_ | (with_reducible refine Below.setCell ?_ (by (show _ ≤ _; repeat (first | exact Nat.le_refl _ | assumption | (omega; done) | with_reducible exact le_past (Nat.le_refl _) | with_reducible refine le_past ?_ | with_reducible refine le_al ?_ | with_reducible refine le_set ?_ | with_reducible refine le_p1 ?_))) _)))⟩
theorem rFHalf (a b : Int) (w : World) (ha : InI a) (hb : InI b) :
    Calls Tryz.prog 51 #[.int .i64 a, .int .i64 b] w fun e w' => e = .returned (.tuple #[.int .i64 (fitV (halfW a b)), .bool (cutW (halfW a b) a b)]) ∧ Below w.heap.size w w' := by
  go_enter Tryz.func51, Tryz.ntmps51
  go_wp2_with (first | (go_at_call 73; first | (with_reducible refine Calls_past2 (rSum1 a b _ ha hb) (fun z => ?_)) | (with_reducible refine Calls_past (rSum1 a b _ ha hb) (fun z => ?_))))
  go_ret2
  exact ⟨rfl, by (repeat (first | assumption | exact Below.refl _ _ | with_reducible refine past_t _ ?_ | with_reducible refine below_a _ ?_ | with_reducible refine Below.drew ?_ | with_reducible refine below_d _ ?_ | (with_reducible refine Below.setCell ?_ (by (show _ ≤ _; repeat (first | exact Nat.le_refl _ | assumption | (omega; done) | with_reducible exact le_past (Nat.le_refl _) | with_reducible refine le_past ?_ | with_reducible refine le_al ?_ | with_reducible refine le_set ?_ | with_reducible refine le_p1 ?_))) _)))⟩
theorem rFWhole (n : Int) (w : World) (h : InI n) :
    Calls Tryz.prog 53 #[.int .i64 n] w fun e w' => e = .returned (.tuple #[.int .i64 (fitV (n * 4294967296)), .bool (fitC (n * 4294967296))]) ∧ Below w.heap.size w w' := by
  go_enter Tryz.func53, Tryz.ntmps53
  go_wp2_with (first | (go_at_call 72; first | (with_reducible refine Calls_past2 (rMul n 4294967296 _ h.1 h.2 (by omega) (by omega)) (fun z => ?_)) | (with_reducible refine Calls_past (rMul n 4294967296 _ h.1 h.2 (by omega) (by omega)) (fun z => ?_))) | (go_at_call 75; first | (with_reducible refine Calls_past2 (rFit (n * 4294967296) _ (by omega) (by omega)) (fun z => ?_)) | (with_reducible refine Calls_past (rFit (n * 4294967296) _ (by omega) (by omega)) (fun z => ?_))))
  go_ret2
  exact ⟨rfl, by (repeat (first | assumption | exact Below.refl _ _ | with_reducible refine past_t _ ?_ | with_reducible refine below_a _ ?_ | with_reducible refine Below.drew ?_ | with_reducible refine below_d _ ?_ | (with_reducible refine Below.setCell ?_ (by (show _ ≤ _; repeat (first | exact Nat.le_refl _ | assumption | (omega; done) | with_reducible exact le_past (Nat.le_refl _) | with_reducible refine le_past ?_ | with_reducible refine le_al ?_ | with_reducible refine le_set ?_ | with_reducible refine le_p1 ?_))) _)))⟩
theorem rFSub (a b : Int) (w : World) (ha : InI a) (hb : InI b) :
    Calls Tryz.prog 48 #[.int .i64 a, .int .i64 b] w fun e w' => e = .returned (.tuple #[.int .i64 (fitV (subW a b)), .bool (cutW (subW a b) a b)]) ∧ Below w.heap.size w w' := by
  have ha2 := hd_bd a ha.1 ha.2
  have hb2 := hd_bd b hb.1 hb.2
  have h2 := fun w => rTaken a w ha
  have h3 := fun w => rTaken b w hb
  have bX := dSub a b ha hb
  have hc : cutW (subW a b) a b = (fitC (subW a b) || (bad a || bad b)) := rfl
  have hu : subW a b = hd a + -hd b := rfl
  obtain ⟨q, hq⟩ : ∃ q, bad a = q := ⟨_, rfl⟩
  obtain ⟨r, hr⟩ : ∃ r, bad b = r := ⟨_, rfl⟩
  rw [hq] at h2 hc
  rw [hr] at h3 hc
  rw [hc]
  clear hc hq hr
  rw [hu] at bX ⊢
  clear hu
  obtain ⟨x, hx⟩ : ∃ x, hd a = x := ⟨_, rfl⟩
  obtain ⟨y, hy⟩ : ∃ y, hd b = y := ⟨_, rfl⟩
  rw [hx] at ha2 h2
  rw [hy] at hb2 h3
  rw [hx, hy] at bX ⊢
  clear hx hy

  go_enter Tryz.func48, Tryz.ntmps48
  go_wp2_with (first | (go_at_call 66; first | (with_reducible refine Calls_past2 (h2 _) (fun z => ?_)) | (with_reducible refine Calls_past (h2 _) (fun z => ?_))) | (go_at_call 66; first | (with_reducible refine Calls_past2 (h3 _) (fun z => ?_)) | (with_reducible refine Calls_past (h3 _) (fun z => ?_))) | (go_at_call 69; first | (with_reducible refine Calls_past2 (rOf x _ (by omega) (by omega)) (fun z => ?_)) | (with_reducible refine Calls_past (rOf x _ (by omega) (by omega)) (fun z => ?_))) | (go_at_call 69; first | (with_reducible refine Calls_past2 (rOf y _ (by omega) (by omega)) (fun z => ?_)) | (with_reducible refine Calls_past (rOf y _ (by omega) (by omega)) (fun z => ?_))) | (go_at_call 70; first | (with_reducible refine Calls_past2 (rNeg y _) (fun z => ?_)) | (with_reducible refine Calls_past (rNeg y _) (fun z => ?_))) | (go_at_call 68; first | (with_reducible refine Calls_past2 (rAdd x (-y) _) (fun z => ?_)) | (with_reducible refine Calls_past (rAdd x (-y) _) (fun z => ?_))) | (go_at_call 67; first | (with_reducible refine Calls_past2 (rFits (x + -y) true _ (by omega) (by omega)) (fun z => ?_)) | (with_reducible refine Calls_past (rFits (x + -y) true _ (by omega) (by omega)) (fun z => ?_))) | (go_at_call 67; first | (with_reducible refine Calls_past2 (rFits (x + -y) r _ (by omega) (by omega)) (fun z => ?_)) | (with_reducible refine Calls_past (rFits (x + -y) r _ (by omega) (by omega)) (fun z => ?_))))
  all_goals
    go_ret2
    refine ⟨ret_ib rfl ?_, by (repeat (first | assumption | exact Below.refl _ _ | with_reducible refine past_t _ ?_ | with_reducible refine below_a _ ?_ | with_reducible refine Below.drew ?_ | with_reducible refine below_d _ ?_ | (with_reducible refine Below.setCell ?_ (by (show _ ≤ _; repeat (first | exact Nat.le_refl _ | assumption | (omega; done) | with_reducible exact le_past (Nat.le_refl _) | with_reducible refine le_past ?_ | with_reducible refine le_al ?_ | with_reducible refine le_set ?_ | with_reducible refine le_p1 ?_))) _)))⟩
    clear h2 h3
    cases q <;> cases r <;> first | rfl | contradiction | (simp; done)
theorem rFMul (a b : Int) (w : World) (ha : InI a) (hb : InI b) :
    Calls Tryz.prog 65 #[.int .i64 a, .int .i64 b] w fun e w' => e = .returned (.tuple #[.int .i64 (fitV (mulW a b)), .bool (cutW (mulW a b) a b)]) ∧ Below w.heap.size w w' := by
  have ha2 := hd_bd a ha.1 ha.2
  have hb2 := hd_bd b hb.1 hb.2
  have h2 := fun w => rTaken a w ha
  have h3 := fun w => rTaken b w hb
  have bX := dMul a b ha hb
  have hc : cutW (mulW a b) a b = (fitC (mulW a b) || (bad a || bad b)) := rfl
  have hu : mulW a b = rnd (hd a * hd b) 4294967296 := rfl
  obtain ⟨q, hq⟩ : ∃ q, bad a = q := ⟨_, rfl⟩
  obtain ⟨r, hr⟩ : ∃ r, bad b = r := ⟨_, rfl⟩
  rw [hq] at h2 hc
  rw [hr] at h3 hc
  rw [hc]
  clear hc hq hr
  rw [hu] at bX ⊢
  clear hu
  have mb := mul_bd _ _ ha2.1 ha2.2 hb2.1 hb2.2
  obtain ⟨x, hx⟩ : ∃ x, hd a = x := ⟨_, rfl⟩
  obtain ⟨y, hy⟩ : ∃ y, hd b = y := ⟨_, rfl⟩
  rw [hx] at ha2 h2
  rw [hy] at hb2 h3
  rw [hx, hy] at bX mb ⊢
  clear hx hy
  have hr := fun w => rRoundB (x * y) 32 4294967296 w (by omega) (by omega) (by omega) (by omega) (by decide)
  obtain ⟨R, hR⟩ : ∃ R, rnd (x * y) 4294967296 = R := ⟨_, rfl⟩
  rw [hR] at hr bX ⊢
  clear hR
  go_enter Tryz.func65, Tryz.ntmps65
  go_wp2_with (first | (go_at_call 66; first | (with_reducible refine Calls_past2 (h2 _) (fun z => ?_)) | (with_reducible refine Calls_past (h2 _) (fun z => ?_))) | (go_at_call 66; first | (with_reducible refine Calls_past2 (h3 _) (fun z => ?_)) | (with_reducible refine Calls_past (h3 _) (fun z => ?_))) | (go_at_call 72; first | (with_reducible refine Calls_past2 (rMul x y _ (by omega) (by omega) (by omega) (by omega)) (fun z => ?_)) | (with_reducible refine Calls_past (rMul x y _ (by omega) (by omega) (by omega) (by omega)) (fun z => ?_))) | (go_at_call 86; first | (with_reducible refine Calls_past2 (hr _) (fun z => ?_)) | (with_reducible refine Calls_past (hr _) (fun z => ?_))) | (go_at_call 67; first | (with_reducible refine Calls_past2 (rFits (R) true _ (by omega) (by omega)) (fun z => ?_)) | (with_reducible refine Calls_past (rFits (R) true _ (by omega) (by omega)) (fun z => ?_))) | (go_at_call 67; first | (with_reducible refine Calls_past2 (rFits (R) r _ (by omega) (by omega)) (fun z => ?_)) | (with_reducible refine Calls_past (rFits (R) r _ (by omega) (by omega)) (fun z => ?_))))
  all_goals
    go_ret2
    refine ⟨ret_ib rfl ?_, by (repeat (first | assumption | exact Below.refl _ _ | with_reducible refine past_t _ ?_ | with_reducible refine below_a _ ?_ | with_reducible refine Below.drew ?_ | with_reducible refine below_d _ ?_ | (with_reducible refine Below.setCell ?_ (by (show _ ≤ _; repeat (first | exact Nat.le_refl _ | assumption | (omega; done) | with_reducible exact le_past (Nat.le_refl _) | with_reducible refine le_past ?_ | with_reducible refine le_al ?_ | with_reducible refine le_set ?_ | with_reducible refine le_p1 ?_))) _)))⟩
    clear h2 h3
    cases q <;> cases r <;> first | rfl | contradiction | (simp; done)
theorem rFDivN (a b : Int) (w : World) (ha : InI a) (hb : InI b) (hz : ¬ b = 0) :
    Calls Tryz.prog 50 #[.int .i64 a, .int .i64 b] w fun e w' => e = .returned (.tuple #[.int .i64 (fitV (divW a b)), .bool (cutW (divW a b) a b)]) ∧ Below w.heap.size w w' := by
  have ha2 := hd_bd a ha.1 ha.2
  have hb2 := hd_bd b hb.1 hb.2
  have h2 := fun w => rTaken a w ha
  have h3 := fun w => rTaken b w hb
  have bX := dDiv a b ha hb hz
  have hc : cutW (divW a b) a b = (fitC (divW a b) || (bad a || bad b)) := rfl
  have hu : divW a b = dvr (hd a * 4294967296) (hd b) := rfl
  obtain ⟨q, hq⟩ : ∃ q, bad a = q := ⟨_, rfl⟩
  obtain ⟨r, hr⟩ : ∃ r, bad b = r := ⟨_, rfl⟩
  rw [hq] at h2 hc
  rw [hr] at h3 hc
  rw [hc]
  clear hc hq hr
  rw [hu] at bX ⊢
  clear hu
  have yz : ¬ hd b = 0 := by unfold hd; split <;> omega
  obtain ⟨x, hx⟩ : ∃ x, hd a = x := ⟨_, rfl⟩
  obtain ⟨y, hy⟩ : ∃ y, hd b = y := ⟨_, rfl⟩
  rw [hx] at ha2 h2
  rw [hy] at hb2 h3
  rw [hx, hy] at bX ⊢
  rw [hy] at yz
  clear hx hy
  have hr := fun w => rDiv (x * 4294967296) y w (by omega) (by omega) (by omega) (by omega) yz
  obtain ⟨R, hR⟩ : ∃ R, dvr (x * 4294967296) y = R := ⟨_, rfl⟩
  rw [hR] at hr bX ⊢
  clear hR
  have yzb : (y == 0) = false := by simpa using yz
  have yzc : (0 == y) = false := by simp; omega
  go_enter Tryz.func50, Tryz.ntmps50
  go_wp2_with (first | (go_at_call 66; first | (with_reducible refine Calls_past2 (h2 _) (fun z => ?_)) | (with_reducible refine Calls_past (h2 _) (fun z => ?_))) | (go_at_call 66; first | (with_reducible refine Calls_past2 (h3 _) (fun z => ?_)) | (with_reducible refine Calls_past (h3 _) (fun z => ?_))) | (go_at_call 72; first | (with_reducible refine Calls_past2 (rMul x 4294967296 _ (by omega) (by omega) (by omega) (by omega)) (fun z => ?_)) | (with_reducible refine Calls_past (rMul x 4294967296 _ (by omega) (by omega) (by omega) (by omega)) (fun z => ?_))) | (go_at_call 71; first | (with_reducible refine Calls_past2 (hr _) (fun z => ?_)) | (with_reducible refine Calls_past (hr _) (fun z => ?_))) | (go_at_call 67; first | (with_reducible refine Calls_past2 (rFits (R) true _ (by omega) (by omega)) (fun z => ?_)) | (with_reducible refine Calls_past (rFits (R) true _ (by omega) (by omega)) (fun z => ?_))) | (go_at_call 67; first | (with_reducible refine Calls_past2 (rFits (R) r _ (by omega) (by omega)) (fun z => ?_)) | (with_reducible refine Calls_past (rFits (R) r _ (by omega) (by omega)) (fun z => ?_))))
  all_goals
    go_ret2
    refine ⟨ret_ib rfl ?_, by (repeat (first | assumption | exact Below.refl _ _ | with_reducible refine past_t _ ?_ | with_reducible refine below_a _ ?_ | with_reducible refine Below.drew ?_ | with_reducible refine below_d _ ?_ | (with_reducible refine Below.setCell ?_ (by (show _ ≤ _; repeat (first | exact Nat.le_refl _ | assumption | (omega; done) | with_reducible exact le_past (Nat.le_refl _) | with_reducible refine le_past ?_ | with_reducible refine le_al ?_ | with_reducible refine le_set ?_ | with_reducible refine le_p1 ?_))) _)))⟩
    clear h2 h3
    cases q <;> cases r <;> first | rfl | contradiction | (simp; done)
theorem rFDiv (a b : Int) (w : World) (ha : InI a) (hb : InI b) :
    Calls Tryz.prog 50 #[.int .i64 a, .int .i64 b] w fun e w' => e = .returned (.tuple #[.int .i64 (divV a b), .bool (divC a b)]) ∧ Below w.heap.size w w' := by
  by_cases hz : b = 0
  · subst hz
    have e2 : divC a 0 = true := by unfold divC; rw [if_pos rfl]
    have h2 := fun w => rTaken a w ha
    have h3 := fun w => rTaken 0 w hb
    have ha2 := hd_bd a ha.1 ha.2
    rw [show hd 0 = 0 from by decide, show bad 0 = false from by decide] at h3
    obtain ⟨q, hq⟩ : ∃ q, bad a = q := ⟨_, rfl⟩
    rw [hq] at h2
    clear hq
    rw [e2]
    rcases Int.lt_trichotomy a 0 with h | h | h
    · have e1 : divV a 0 = -9223372036854775807 := by unfold divV; rw [if_pos rfl, if_neg (by omega), if_pos h]
      rw [e1]
      have hx : hd a < 0 := by unfold hd; split <;> omega
      obtain ⟨x, hxx⟩ : ∃ x, hd a = x := ⟨_, rfl⟩
      rw [hxx] at hx h2 ha2
      have xz : (x == 0) = false := by simp; omega
      clear e1 e2 hxx
      go_enter Tryz.func50, Tryz.ntmps50
      go_wp2_with (first | (go_at_call 66; first | (with_reducible refine Calls_past2 (h2 _) (fun z => ?_)) | (with_reducible refine Calls_past (h2 _) (fun z => ?_))) | (go_at_call 66; first | (with_reducible refine Calls_past2 (h3 _) (fun z => ?_)) | (with_reducible refine Calls_past (h3 _) (fun z => ?_))))
      go_ret2
      exact ⟨rfl, by (repeat (first | assumption | exact Below.refl _ _ | with_reducible refine past_t _ ?_ | with_reducible refine below_a _ ?_ | with_reducible refine Below.drew ?_ | with_reducible refine below_d _ ?_ | (with_reducible refine Below.setCell ?_ (by (show _ ≤ _; repeat (first | exact Nat.le_refl _ | assumption | (omega; done) | with_reducible exact le_past (Nat.le_refl _) | with_reducible refine le_past ?_ | with_reducible refine le_al ?_ | with_reducible refine le_set ?_ | with_reducible refine le_p1 ?_))) _)))⟩
    · subst h
      have e1 : divV 0 0 = 0 := by unfold divV; rw [if_pos rfl, if_pos rfl]
      rw [e1]
      rw [show hd 0 = 0 from by decide] at h2
      clear e1 e2
      go_enter Tryz.func50, Tryz.ntmps50
      go_wp2_with (first | (go_at_call 66; first | (with_reducible refine Calls_past2 (h2 _) (fun z => ?_)) | (with_reducible refine Calls_past (h2 _) (fun z => ?_))) | (go_at_call 66; first | (with_reducible refine Calls_past2 (h3 _) (fun z => ?_)) | (with_reducible refine Calls_past (h3 _) (fun z => ?_))))
      go_ret2
      exact ⟨rfl, by (repeat (first | assumption | exact Below.refl _ _ | with_reducible refine past_t _ ?_ | with_reducible refine below_a _ ?_ | with_reducible refine Below.drew ?_ | with_reducible refine below_d _ ?_ | (with_reducible refine Below.setCell ?_ (by (show _ ≤ _; repeat (first | exact Nat.le_refl _ | assumption | (omega; done) | with_reducible exact le_past (Nat.le_refl _) | with_reducible refine le_past ?_ | with_reducible refine le_al ?_ | with_reducible refine le_set ?_ | with_reducible refine le_p1 ?_))) _)))⟩
    · have e1 : divV a 0 = 9223372036854775807 := by unfold divV; rw [if_pos rfl, if_neg (by omega), if_neg (by omega)]
      rw [e1]
      have hx : 0 < hd a := by unfold hd; split <;> omega
      obtain ⟨x, hxx⟩ : ∃ x, hd a = x := ⟨_, rfl⟩
      rw [hxx] at hx h2 ha2
      have xz : (x == 0) = false := by simp; omega
      clear e1 e2 hxx
      go_enter Tryz.func50, Tryz.ntmps50
      go_wp2_with (first | (go_at_call 66; first | (with_reducible refine Calls_past2 (h2 _) (fun z => ?_)) | (with_reducible refine Calls_past (h2 _) (fun z => ?_))) | (go_at_call 66; first | (with_reducible refine Calls_past2 (h3 _) (fun z => ?_)) | (with_reducible refine Calls_past (h3 _) (fun z => ?_))))
      go_ret2
      exact ⟨rfl, by (repeat (first | assumption | exact Below.refl _ _ | with_reducible refine past_t _ ?_ | with_reducible refine below_a _ ?_ | with_reducible refine Below.drew ?_ | with_reducible refine below_d _ ?_ | (with_reducible refine Below.setCell ?_ (by (show _ ≤ _; repeat (first | exact Nat.le_refl _ | assumption | (omega; done) | with_reducible exact le_past (Nat.le_refl _) | with_reducible refine le_past ?_ | with_reducible refine le_al ?_ | with_reducible refine le_set ?_ | with_reducible refine le_p1 ?_))) _)))⟩
  · have e1 : divV a b = fitV (divW a b) := by unfold divV; rw [if_neg hz]
    have e2 : divC a b = cutW (divW a b) a b := by unfold divC; rw [if_neg hz]
    rw [e1, e2]; exact rFDivN a b w ha hb hz
end Go.Proofs.YtlhadociaekkhaaGreat
