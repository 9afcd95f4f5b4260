/- The reference of fix. -/
import Derived.Test.YtlhadociaekkhaaQFix1
import Derived.Test.YtlhadociaekkhaaQRef5
import Derived.Test.YtlhadociaekkhaaQRFit
namespace Go.Proofs.Ytlhadociaekkhaa
set_option linter.unusedVariables false
open Go.RowKit
theorem rTaken (a : Int) (w : World) (h : InI a) :
    Calls Try.prog 84 #[.int .i64 a] w fun e w' => e = .returned (.tuple #[.int .i64 (hd a), .bool (bad a)]) ∧ Below w.heap.size w w' := by
  by_cases hc : a < -9223372036854775807
  · have e1 : hd a = -9223372036854775807 := by unfold hd; rw [if_pos hc]
    have e2 : bad a = true := by unfold bad; simpa using hc
    rw [e1, e2]
    go_enter Try.func84, Try.ntmps84
    go_wp2_with fail
    go_ret2
    exact ⟨rfl, Below.refl _ _⟩
  · have e1 : hd a = a := by unfold hd; rw [if_neg hc]
    have e2 : bad a = false := by unfold bad; simpa using hc
    rw [e1, e2]
    go_enter Try.func84, Try.ntmps84
    go_wp2_with fail
    go_ret2
    exact ⟨rfl, Below.refl _ _⟩
theorem rFits (X : Int) (c : Bool) (w : World) (x0 : -170141183460469231731687303715884105728 ≤ X) (x1 : X < 170141183460469231731687303715884105728) :
    Calls Try.prog 85 #[WV X, .bool c] w fun e w' => e = .returned (.tuple #[.int .i64 (fitV X), .bool (fitC X || c)]) ∧ Below w.heap.size w w' := by
  have h1 := fun w => rFit X w x0 x1
  obtain ⟨p, hp⟩ : ∃ p, fitC X = p := ⟨_, rfl⟩
  rw [hp] at h1 ⊢
  clear hp
  go_enter Try.func85, Try.ntmps85
  go_wp2_with (first | (go_at_call 99; first | (with_reducible refine Calls_past2 (h1 _) (fun z => ?_)) | (with_reducible refine Calls_past (h1 _) (fun z => ?_))))
  all_goals
    go_ret2
    refine ⟨ret_ib rfl ?_, by (repeat (first | assumption | exact Below.refl _ _ | with_reducible refine past_t _ ?_ | with_reducible refine below_a _ ?_ | with_reducible refine Below.drew ?_ | with_reducible refine below_d _ ?_ | (with_reducible refine Below.setCell ?_ (by (show _ ≤ _; repeat (first | exact Nat.le_refl _ | assumption | (omega; done) | with_reducible exact le_past (Nat.le_refl _) | with_reducible refine le_past ?_ | with_reducible refine le_al ?_ | with_reducible refine le_set ?_ | with_reducible refine le_p1 ?_))) _)))⟩
    clear h1
    cases p <;> cases c <;> first | rfl | contradiction
theorem rRoundB (x n d : Int) (w : World) (h0 : -170141183460469231731687303715884105728 ≤ x) (h1 : x < 170141183460469231731687303715884105728) (n0 : 0 ≤ n) (n1 : n ≤ 127) (hd : (2 : Int) ^ n.toNat = d) :
    Calls Try.prog 97 #[WV x, .int .i64 n] w fun e w' => e = .returned (.tuple #[WV (rnd x d), .int .i64 0]) ∧ Below w.heap.size w w' := by
  have h := rRound x n w h0 h1 n0 n1
  rw [hd] at h; exact h
theorem rSum0 (a b : Int) (w : World) (ha : InI a) (hb : InI b) :
    Calls Try.prog 96 #[.int .i64 a, .int .i64 b, .int .i64 0] w fun e w' => e = .returned (.tuple #[.int .i64 (fitV (addW a b)), .bool (cutW (addW a b) a b)]) ∧ Below w.heap.size w w' := by
  have ha2 := hd_bd a ha.1 ha.2
  have hb2 := hd_bd b hb.1 hb.2
  have h2 := fun w => rTaken a w ha
  have h3 := fun w => rTaken b w hb
  have bX := dAdd a b ha hb
  have hc : cutW (addW a b) a b = (fitC (addW a b) || (bad a || bad b)) := rfl
  have hu : addW a b = rnd (hd a + hd b) 1 := by unfold addW; rw [rnd_one]
  obtain ⟨q, hq⟩ : ∃ q, bad a = q := ⟨_, rfl⟩
  obtain ⟨r, hr⟩ : ∃ r, bad b = r := ⟨_, rfl⟩
  rw [hq] at h2 hc
  rw [hr] at h3 hc
  rw [hc]
  clear hc hq hr
  rw [hu] at bX ⊢
  clear hu
  obtain ⟨x, hx⟩ : ∃ x, hd a = x := ⟨_, rfl⟩
  obtain ⟨y, hy⟩ : ∃ y, hd b = y := ⟨_, rfl⟩
  rw [hx] at ha2 h2
  rw [hy] at hb2 h3
  rw [hx, hy] at bX ⊢
  clear hx hy
  obtain ⟨R, hR⟩ : ∃ R, rnd (x + y) 1 = R := ⟨_, rfl⟩
  have hr := fun w => rRoundB (x + y) 0 1 w (by omega) (by omega) (by omega) (by omega) (by decide)
  rw [hR] at hr bX ⊢
  clear hR
  go_enter Try.func96, Try.ntmps96
  go_wp2_with (first | (go_at_call 84; first | (with_reducible refine Calls_past2 (h2 _) (fun z => ?_)) | (with_reducible refine Calls_past (h2 _) (fun z => ?_))) | (go_at_call 84; first | (with_reducible refine Calls_past2 (h3 _) (fun z => ?_)) | (with_reducible refine Calls_past (h3 _) (fun z => ?_))) | (go_at_call 87; first | (with_reducible refine Calls_past2 (rOf x _ (by omega) (by omega)) (fun z => ?_)) | (with_reducible refine Calls_past (rOf x _ (by omega) (by omega)) (fun z => ?_))) | (go_at_call 87; first | (with_reducible refine Calls_past2 (rOf y _ (by omega) (by omega)) (fun z => ?_)) | (with_reducible refine Calls_past (rOf y _ (by omega) (by omega)) (fun z => ?_))) | (go_at_call 86; first | (with_reducible refine Calls_past2 (rAdd x y _) (fun z => ?_)) | (with_reducible refine Calls_past (rAdd x y _) (fun z => ?_))) | (go_at_call 97; first | (with_reducible refine Calls_past2 (hr _) (fun z => ?_)) | (with_reducible refine Calls_past (hr _) (fun z => ?_))) | (go_at_call 85; first | (with_reducible refine Calls_past2 (rFits R true _ (by omega) (by omega)) (fun z => ?_)) | (with_reducible refine Calls_past (rFits R true _ (by omega) (by omega)) (fun z => ?_))) | (go_at_call 85; first | (with_reducible refine Calls_past2 (rFits R r _ (by omega) (by omega)) (fun z => ?_)) | (with_reducible refine Calls_past (rFits R r _ (by omega) (by omega)) (fun z => ?_))))
  all_goals
    go_ret2
    refine ⟨ret_ib rfl ?_, by (repeat (first | assumption | exact Below.refl _ _ | with_reducible refine past_t _ ?_ | with_reducible refine below_a _ ?_ | with_reducible refine Below.drew ?_ | with_reducible refine below_d _ ?_ | (with_reducible refine Below.setCell ?_ (by (show _ ≤ _; repeat (first | exact Nat.le_refl _ | assumption | (omega; done) | with_reducible exact le_past (Nat.le_refl _) | with_reducible refine le_past ?_ | with_reducible refine le_al ?_ | with_reducible refine le_set ?_ | with_reducible refine le_p1 ?_))) _)))⟩
    clear h2 h3 hr
    cases q <;> cases r <;> first | rfl | contradiction | (simp; done)
theorem rSum1 (a b : Int) (w : World) (ha : InI a) (hb : InI b) :
    Calls Try.prog 96 #[.int .i64 a, .int .i64 b, .int .i64 1] w fun e w' => e = .returned (.tuple #[.int .i64 (fitV (halfW a b)), .bool (cutW (halfW a b) a b)]) ∧ Below w.heap.size w w' := by
  have ha2 := hd_bd a ha.1 ha.2
  have hb2 := hd_bd b hb.1 hb.2
  have h2 := fun w => rTaken a w ha
  have h3 := fun w => rTaken b w hb
  have bX := dHalf a b ha hb
  have hc : cutW (halfW a b) a b = (fitC (halfW a b) || (bad a || bad b)) := rfl
  have hu : halfW a b = rnd (hd a + hd b) 2 := rfl
  obtain ⟨q, hq⟩ : ∃ q, bad a = q := ⟨_, rfl⟩
  obtain ⟨r, hr⟩ : ∃ r, bad b = r := ⟨_, rfl⟩
  rw [hq] at h2 hc
  rw [hr] at h3 hc
  rw [hc]
  clear hc hq hr
  rw [hu] at bX ⊢
  clear hu
  obtain ⟨x, hx⟩ : ∃ x, hd a = x := ⟨_, rfl⟩
  obtain ⟨y, hy⟩ : ∃ y, hd b = y := ⟨_, rfl⟩
  rw [hx] at ha2 h2
  rw [hy] at hb2 h3
  rw [hx, hy] at bX ⊢
  clear hx hy
  obtain ⟨R, hR⟩ : ∃ R, rnd (x + y) 2 = R := ⟨_, rfl⟩
  have hr := fun w => rRoundB (x + y) 1 2 w (by omega) (by omega) (by omega) (by omega) (by decide)
  rw [hR] at hr bX ⊢
  clear hR
  go_enter Try.func96, Try.ntmps96
  go_wp2_with (first | (go_at_call 84; first | (with_reducible refine Calls_past2 (h2 _) (fun z => ?_)) | (with_reducible refine Calls_past (h2 _) (fun z => ?_))) | (go_at_call 84; first | (with_reducible refine Calls_past2 (h3 _) (fun z => ?_)) | (with_reducible refine Calls_past (h3 _) (fun z => ?_))) | (go_at_call 87; first | (with_reducible refine Calls_past2 (rOf x _ (by omega) (by omega)) (fun z => ?_)) | (with_reducible refine Calls_past (rOf x _ (by omega) (by omega)) (fun z => ?_))) | (go_at_call 87; first | (with_reducible refine Calls_past2 (rOf y _ (by omega) (by omega)) (fun z => ?_)) | (with_reducible refine Calls_past (rOf y _ (by omega) (by omega)) (fun z => ?_))) | (go_at_call 86; first | (with_reducible refine Calls_past2 (rAdd x y _) (fun z => ?_)) | (with_reducible refine Calls_past (rAdd x y _) (fun z => ?_))) | (go_at_call 97; first | (with_reducible refine Calls_past2 (hr _) (fun z => ?_)) | (with_reducible refine Calls_past (hr _) (fun z => ?_))) | (go_at_call 85; first | (with_reducible refine Calls_past2 (rFits R true _ (by omega) (by omega)) (fun z => ?_)) | (with_reducible refine Calls_past (rFits R true _ (by omega) (by omega)) (fun z => ?_))) | (go_at_call 85; first | (with_reducible refine Calls_past2 (rFits R r _ (by omega) (by omega)) (fun z => ?_)) | (with_reducible refine Calls_past (rFits R r _ (by omega) (by omega)) (fun z => ?_))))
  all_goals
    go_ret2
    refine ⟨ret_ib rfl ?_, by (repeat (first | assumption | exact Below.refl _ _ | with_reducible refine past_t _ ?_ | with_reducible refine below_a _ ?_ | with_reducible refine Below.drew ?_ | with_reducible refine below_d _ ?_ | (with_reducible refine Below.setCell ?_ (by (show _ ≤ _; repeat (first | exact Nat.le_refl _ | assumption | (omega; done) | with_reducible exact le_past (Nat.le_refl _) | with_reducible refine le_past ?_ | with_reducible refine le_al ?_ | with_reducible refine le_set ?_ | with_reducible refine le_p1 ?_))) _)))⟩
    clear h2 h3 hr
    cases q <;> cases r <;> first | rfl | contradiction | (simp; done)
theorem rFAdd (a b : Int) (w : World) (ha : InI a) (hb : InI b) :
    Calls Try.prog 81 #[.int .i64 a, .int .i64 b] w fun e w' => e = .returned (.tuple #[.int .i64 (fitV (addW a b)), .bool (cutW (addW a b) a b)]) ∧ Below w.heap.size w w' := by
  go_enter Try.func81, Try.ntmps81
  go_wp2_with (first | (go_at_call 96; first | (with_reducible refine Calls_past2 (rSum0 a b _ ha hb) (fun z => ?_)) | (with_reducible refine Calls_past (rSum0 a b _ ha hb) (fun z => ?_))))
  go_ret2
  exact ⟨rfl, by (repeat (first | assumption | exact Below.refl _ _ | with_reducible refine past_t _ ?_ | with_reducible refine below_a _ ?_ | with_reducible refine Below.drew ?_ | with_reducible refine below_d _ ?_ | (with_reducible refine Below.setCell ?_ (by (show _ ≤ _; repeat (first | exact Nat.le_refl _ | assumption | (omega; done) | with_reducible exact le_past (Nat.le_refl _) | with_reducible refine le_past ?_ | with_reducible refine le_al ?_ | with_reducible refine le_set ?_ | with_reducible refine le_p1 ?_))) _)))⟩
theorem rFSub (a b : Int) (w : World) (ha : InI a) (hb : InI b) :
    Calls Try.prog 74 #[.int .i64 a, .int .i64 b] w fun e w' => e = .returned (.tuple #[.int .i64 (fitV (subW a b)), .bool (cutW (subW a b) a b)]) ∧ Below w.heap.size w w' := by
  have ha2 := hd_bd a ha.1 ha.2
  have hb2 := hd_bd b hb.1 hb.2
  have h2 := fun w => rTaken a w ha
  have h3 := fun w => rTaken b w hb
  have bX := dSub a b ha hb
  have hc : cutW (subW a b) a b = (fitC (subW a b) || (bad a || bad b)) := rfl
  have hu : subW a b = hd a + -hd b := rfl
  obtain ⟨q, hq⟩ : ∃ q, bad a = q := ⟨_, rfl⟩
  obtain ⟨r, hr⟩ : ∃ r, bad b = r := ⟨_, rfl⟩
  rw [hq] at h2 hc
  rw [hr] at h3 hc
  rw [hc]
  clear hc hq hr
  rw [hu] at bX ⊢
  clear hu
  obtain ⟨x, hx⟩ : ∃ x, hd a = x := ⟨_, rfl⟩
  obtain ⟨y, hy⟩ : ∃ y, hd b = y := ⟨_, rfl⟩
  rw [hx] at ha2 h2
  rw [hy] at hb2 h3
  rw [hx, hy] at bX ⊢
  clear hx hy

  go_enter Try.func74, Try.ntmps74
  go_wp2_with (first | (go_at_call 84; first | (with_reducible refine Calls_past2 (h2 _) (fun z => ?_)) | (with_reducible refine Calls_past (h2 _) (fun z => ?_))) | (go_at_call 84; first | (with_reducible refine Calls_past2 (h3 _) (fun z => ?_)) | (with_reducible refine Calls_past (h3 _) (fun z => ?_))) | (go_at_call 87; first | (with_reducible refine Calls_past2 (rOf x _ (by omega) (by omega)) (fun z => ?_)) | (with_reducible refine Calls_past (rOf x _ (by omega) (by omega)) (fun z => ?_))) | (go_at_call 87; first | (with_reducible refine Calls_past2 (rOf y _ (by omega) (by omega)) (fun z => ?_)) | (with_reducible refine Calls_past (rOf y _ (by omega) (by omega)) (fun z => ?_))) | (go_at_call 88; first | (with_reducible refine Calls_past2 (rNeg y _) (fun z => ?_)) | (with_reducible refine Calls_past (rNeg y _) (fun z => ?_))) | (go_at_call 86; first | (with_reducible refine Calls_past2 (rAdd x (-y) _) (fun z => ?_)) | (with_reducible refine Calls_past (rAdd x (-y) _) (fun z => ?_))) | (go_at_call 85; first | (with_reducible refine Calls_past2 (rFits (x + -y) true _ (by omega) (by omega)) (fun z => ?_)) | (with_reducible refine Calls_past (rFits (x + -y) true _ (by omega) (by omega)) (fun z => ?_))) | (go_at_call 85; first | (with_reducible refine Calls_past2 (rFits (x + -y) r _ (by omega) (by omega)) (fun z => ?_)) | (with_reducible refine Calls_past (rFits (x + -y) r _ (by omega) (by omega)) (fun z => ?_))))
  all_goals
    go_ret2
    refine ⟨ret_ib rfl ?_, by (repeat (first | assumption | exact Below.refl _ _ | with_reducible refine past_t _ ?_ | with_reducible refine below_a _ ?_ | with_reducible refine Below.drew ?_ | with_reducible refine below_d _ ?_ | (with_reducible refine Below.setCell ?_ (by (show _ ≤ _; repeat (first | exact Nat.le_refl _ | assumption | (omega; done) | with_reducible exact le_past (Nat.le_refl _) | with_reducible refine le_past ?_ | with_reducible refine le_al ?_ | with_reducible refine le_set ?_ | with_reducible refine le_p1 ?_))) _)))⟩
    clear h2 h3
    cases q <;> cases r <;> first | rfl | contradiction | (simp; done)
theorem rFMul (a b : Int) (w : World) (ha : InI a) (hb : InI b) :
    Calls Try.prog 82 #[.int .i64 a, .int .i64 b] w fun e w' => e = .returned (.tuple #[.int .i64 (fitV (mulW a b)), .bool (cutW (mulW a b) a b)]) ∧ Below w.heap.size w w' := by
  have ha2 := hd_bd a ha.1 ha.2
  have hb2 := hd_bd b hb.1 hb.2
  have h2 := fun w => rTaken a w ha
  have h3 := fun w => rTaken b w hb
  have bX := dMul a b ha hb
  have hc : cutW (mulW a b) a b = (fitC (mulW a b) || (bad a || bad b)) := rfl
  have hu : mulW a b = rnd (hd a * hd b) 4294967296 := rfl
  obtain ⟨q, hq⟩ : ∃ q, bad a = q := ⟨_, rfl⟩
  obtain ⟨r, hr⟩ : ∃ r, bad b = r := ⟨_, rfl⟩
  rw [hq] at h2 hc
  rw [hr] at h3 hc
  rw [hc]
  clear hc hq hr
  rw [hu] at bX ⊢
  clear hu
  have mb := mul_bd _ _ ha2.1 ha2.2 hb2.1 hb2.2
  obtain ⟨x, hx⟩ : ∃ x, hd a = x := ⟨_, rfl⟩
  obtain ⟨y, hy⟩ : ∃ y, hd b = y := ⟨_, rfl⟩
  rw [hx] at ha2 h2
  rw [hy] at hb2 h3
  rw [hx, hy] at bX mb ⊢
  clear hx hy
  have hr := fun w => rRoundB (x * y) 32 4294967296 w (by omega) (by omega) (by omega) (by omega) (by decide)
  obtain ⟨R, hR⟩ : ∃ R, rnd (x * y) 4294967296 = R := ⟨_, rfl⟩
  rw [hR] at hr bX ⊢
  clear hR
  go_enter Try.func82, Try.ntmps82
  go_wp2_with (first | (go_at_call 84; first | (with_reducible refine Calls_past2 (h2 _) (fun z => ?_)) | (with_reducible refine Calls_past (h2 _) (fun z => ?_))) | (go_at_call 84; first | (with_reducible refine Calls_past2 (h3 _) (fun z => ?_)) | (with_reducible refine Calls_past (h3 _) (fun z => ?_))) | (go_at_call 98; first | (with_reducible refine Calls_past2 (rMul x y _ (by omega) (by omega) (by omega) (by omega)) (fun z => ?_)) | (with_reducible refine Calls_past (rMul x y _ (by omega) (by omega) (by omega) (by omega)) (fun z => ?_))) | (go_at_call 97; first | (with_reducible refine Calls_past2 (hr _) (fun z => ?_)) | (with_reducible refine Calls_past (hr _) (fun z => ?_))) | (go_at_call 85; first | (with_reducible refine Calls_past2 (rFits (R) true _ (by omega) (by omega)) (fun z => ?_)) | (with_reducible refine Calls_past (rFits (R) true _ (by omega) (by omega)) (fun z => ?_))) | (go_at_call 85; first | (with_reducible refine Calls_past2 (rFits (R) r _ (by omega) (by omega)) (fun z => ?_)) | (with_reducible refine Calls_past (rFits (R) r _ (by omega) (by omega)) (fun z => ?_))))
  all_goals
    go_ret2
    refine ⟨ret_ib rfl ?_, by (repeat (first | assumption | exact Below.refl _ _ | with_reducible refine past_t _ ?_ | with_reducible refine below_a _ ?_ | with_reducible refine Below.drew ?_ | with_reducible refine below_d _ ?_ | (with_reducible refine Below.setCell ?_ (by (show _ ≤ _; repeat (first | exact Nat.le_refl _ | assumption | (omega; done) | with_reducible exact le_past (Nat.le_refl _) | with_reducible refine le_past ?_ | with_reducible refine le_al ?_ | with_reducible refine le_set ?_ | with_reducible refine le_p1 ?_))) _)))⟩
    clear h2 h3
    cases q <;> cases r <;> first | rfl | contradiction | (simp; done)
end Go.Proofs.Ytlhadociaekkhaa
