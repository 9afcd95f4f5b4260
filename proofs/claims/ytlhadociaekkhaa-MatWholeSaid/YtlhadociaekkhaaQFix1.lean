/- Package fix. -/
import Derived.Test.YtlhadociaekkhaaQFixM
import Derived.Test.YtlhadociaekkhaaQPast2
import Derived.Deep.DeepCutAuto
namespace Go.Proofs.Ytlhadociaekkhaa
set_option linter.unusedVariables false
open Go.RowKit
abbrev InF (a : Int) : Prop := -9223372036854775807 ≤ a ∧ a ≤ 9223372036854775807
abbrev InI (a : Int) : Prop := -9223372036854775808 ≤ a ∧ a ≤ 9223372036854775807
set_option maxHeartbeats 400000 in
theorem fHeld (a : Int) (w : World) (h : InI a) :
    Calls Try.prog 90 #[.int .i64 a] w fun e w' => e = .returned (.tuple #[.int .i64 (hd a), .bool (bad a)]) ∧ Below w.heap.size w w' := by
  have m := max_hd a
  go_enter Try.func90, Try.ntmps90
  go_wp2_with fail
  go_ret2
  exact ⟨rfl, Below.refl _ _⟩
theorem round1 (x : Int) (w : World) (h0 : -170141183460469231731687303715884105728 ≤ x) (h1 : x < 170141183460469231731687303715884105728) :
    Calls Try.prog 94 #[WV x, .int .i64 1] w fun e w' => e = .returned (.tuple #[WV (rnd x 2), .int .i64 0]) ∧ Below w.heap.size w w' := by
  have h := wRound x 1 w h0 h1 (by omega) (by omega)
  rw [show (2 : Int) ^ (1 : Int).toNat = 2 from by decide] at h; exact h
theorem round32 (x : Int) (w : World) (h0 : -170141183460469231731687303715884105728 ≤ x) (h1 : x < 170141183460469231731687303715884105728) :
    Calls Try.prog 94 #[WV x, .int .i64 32] w fun e w' => e = .returned (.tuple #[WV (rnd x 4294967296), .int .i64 0]) ∧ Below w.heap.size w w' := by
  have h := wRound x 32 w h0 h1 (by omega) (by omega)
  rw [show (2 : Int) ^ (32 : Int).toNat = 4294967296 from by decide] at h; exact h
set_option maxHeartbeats 400000 in
theorem fSum (a b : Int) (w : World) (ha : InI a) (hb : InI b) :
    Calls Try.prog 79 #[.int .i64 a, .int .i64 b] w fun e w' => e = .returned (WV (a + b)) ∧ Below w.heap.size w w' := by
  go_enter Try.func79, Try.ntmps79
  go_wp2_with (first | (go_at_call 93; first | (with_reducible refine Calls_past2 (wOf a _ ha.1 ha.2) (fun z => ?_)) | (with_reducible refine Calls_past (wOf a _ ha.1 ha.2) (fun z => ?_))) | (go_at_call 93; first | (with_reducible refine Calls_past2 (wOf b _ hb.1 hb.2) (fun z => ?_)) | (with_reducible refine Calls_past (wOf b _ hb.1 hb.2) (fun z => ?_))) | (go_at_call 92; first | (with_reducible refine Calls_past2 (wAdd a b _) (fun z => ?_)) | (with_reducible refine Calls_past (wAdd a b _) (fun z => ?_))))
  exact bodyPost_ret (v := WV (a + b)) (by (first | (simp [results, Try.results79, go_sem]; done) | (simp [results, Try.results79, go_sem, ↓IntWalk.iteOmega]; done))) rfl ⟨rfl, by (repeat (first | assumption | exact Below.refl _ _ | with_reducible refine past_t _ ?_ | with_reducible refine below_a _ ?_ | with_reducible refine Below.drew ?_ | with_reducible refine below_d _ ?_ | (with_reducible refine Below.setCell ?_ (by (show _ ≤ _; repeat (first | exact Nat.le_refl _ | assumption | (omega; done) | with_reducible exact le_past (Nat.le_refl _) | with_reducible refine le_past ?_ | with_reducible refine le_al ?_ | with_reducible refine le_set ?_ | with_reducible refine le_p1 ?_))) _)))⟩
set_option maxHeartbeats 400000 in
theorem fProduct (a b : Int) (w : World) (ha : InF a) (hb : InF b) :
    Calls Try.prog 80 #[.int .i64 a, .int .i64 b] w fun e w' => e = .returned (WV (rnd (a * b) 4294967296)) ∧ Below w.heap.size w w' := by
  have m := mul_bd a b ha.1 ha.2 hb.1 hb.2
  go_enter Try.func80, Try.ntmps80
  go_wp2_with (first | (go_at_call 95; first | (with_reducible refine Calls_past2 (wMul a b _ (by omega) (by omega) (by omega) (by omega)) (fun z => ?_)) | (with_reducible refine Calls_past (wMul a b _ (by omega) (by omega) (by omega) (by omega)) (fun z => ?_))) | (go_at_call 94; first | (with_reducible refine Calls_past2 (round32 (a * b) _ (by omega) (by omega)) (fun z => ?_)) | (with_reducible refine Calls_past (round32 (a * b) _ (by omega) (by omega)) (fun z => ?_))))
  exact bodyPost_ret (v := WV (rnd (a * b) 4294967296)) (by (first | (simp [results, Try.results80, go_sem]; done) | (simp [results, Try.results80, go_sem, ↓IntWalk.iteOmega]; done))) rfl ⟨rfl, by (repeat (first | assumption | exact Below.refl _ _ | with_reducible refine past_t _ ?_ | with_reducible refine below_a _ ?_ | with_reducible refine Below.drew ?_ | with_reducible refine below_d _ ?_ | (with_reducible refine Below.setCell ?_ (by (show _ ≤ _; repeat (first | exact Nat.le_refl _ | assumption | (omega; done) | with_reducible exact le_past (Nat.le_refl _) | with_reducible refine le_past ?_ | with_reducible refine le_al ?_ | with_reducible refine le_set ?_ | with_reducible refine le_p1 ?_))) _)))⟩
set_option maxHeartbeats 400000 in
theorem fSub1 (a b : Int) (w : World) (ha : InF a) (hb : InF b) :
    Calls Try.prog 83 #[.int .i64 a, .int .i64 b] w fun e w' => e = .returned (WV (a + -b)) ∧ Below w.heap.size w w' := by
  go_enter Try.func83, Try.ntmps83
  go_wp2_with (first | (go_at_call 79; first | (with_reducible refine Calls_past2 (fSum a (-b) _ (by omega) (by omega)) (fun z => ?_)) | (with_reducible refine Calls_past (fSum a (-b) _ (by omega) (by omega)) (fun z => ?_))))
  exact bodyPost_ret (v := WV (a + -b)) (by (first | (simp [results, Try.results83, go_sem]; done) | (simp [results, Try.results83, go_sem, ↓IntWalk.iteOmega]; done))) rfl ⟨rfl, by (repeat (first | assumption | exact Below.refl _ _ | with_reducible refine past_t _ ?_ | with_reducible refine below_a _ ?_ | with_reducible refine Below.drew ?_ | with_reducible refine below_d _ ?_ | (with_reducible refine Below.setCell ?_ (by (show _ ≤ _; repeat (first | exact Nat.le_refl _ | assumption | (omega; done) | with_reducible exact le_past (Nat.le_refl _) | with_reducible refine le_past ?_ | with_reducible refine le_al ?_ | with_reducible refine le_set ?_ | with_reducible refine le_p1 ?_))) _)))⟩
theorem dAdd (a b : Int) (ha : InI a) (hb : InI b) : -85070591730234615847396907784232501249 ≤ addW a b ∧ addW a b ≤ 85070591730234615847396907784232501249 := by
  have ha2 := hd_bd a ha.1 ha.2
  have hb2 := hd_bd b hb.1 hb.2
  unfold addW; omega
set_option maxHeartbeats 400000 in
theorem fDoAdd (a b : Int) (w : World) (ha : InI a) (hb : InI b) :
    Calls Try.prog 78 #[.func (.func 79) #[] #[], .int .i64 a, .int .i64 b] w fun e w' => e = .returned (.tuple #[.int .i64 (fitV (addW a b)), .bool (cutW (addW a b) a b)]) ∧ Below w.heap.size w w' := by
  have ha2 := hd_bd a ha.1 ha.2
  have hb2 := hd_bd b hb.1 hb.2
  have hop : ∀ w, Calls Try.prog 79 #[.int .i64 (hd a), .int .i64 (hd b)] w fun e w' => e = .returned (WV (addW a b)) ∧ Below w.heap.size w w' := fun w => fSum (hd a) (hd b) w (by omega) (by omega)
  have bX := dAdd a b ha hb
  obtain ⟨X, hX⟩ : ∃ X, addW a b = X := ⟨_, rfl⟩
  rw [hX] at hop bX ⊢
  clear hX
  have hc : cutW X a b = (fitC X || (bad a || bad b)) := rfl
  have h1 := fun w => wFit X w (by omega) (by omega)
  have h2 := fun w => fHeld a w ha
  have h3 := fun w => fHeld b w hb
  obtain ⟨p, hp⟩ : ∃ p, fitC X = p := ⟨_, rfl⟩
  obtain ⟨q, hq⟩ : ∃ q, bad a = q := ⟨_, rfl⟩
  obtain ⟨r, hr⟩ : ∃ r, bad b = r := ⟨_, rfl⟩
  rw [hp] at h1 hc
  rw [hq] at h2 hc
  rw [hr] at h3 hc
  have HC := Lib.hid hc
  clear hc hp hq hr
  go_enter Try.func78, Try.ntmps78
  go_wp2_with (first | (go_at_call 90; first | (with_reducible refine Calls_past2 (h2 _) (fun z => ?_)) | (with_reducible refine Calls_past (h2 _) (fun z => ?_))) | (go_at_call 90; first | (with_reducible refine Calls_past2 (h3 _) (fun z => ?_)) | (with_reducible refine Calls_past (h3 _) (fun z => ?_))) | (go_at_call 91; first | (with_reducible refine Calls_past2 (h1 _) (fun z => ?_)) | (with_reducible refine Calls_past (h1 _) (fun z => ?_))) | (go_at_call 79; first | (with_reducible refine Calls_past2 (hop _) (fun z => ?_)) | (with_reducible refine Calls_past (hop _) (fun z => ?_))))
  all_goals
    go_ret2
    refine ⟨ret_ib rfl ?_, by (repeat (first | assumption | exact Below.refl _ _ | with_reducible refine past_t _ ?_ | with_reducible refine below_a _ ?_ | with_reducible refine Below.drew ?_ | with_reducible refine below_d _ ?_ | (with_reducible refine Below.setCell ?_ (by (show _ ≤ _; repeat (first | exact Nat.le_refl _ | assumption | (omega; done) | with_reducible exact le_past (Nat.le_refl _) | with_reducible refine le_past ?_ | with_reducible refine le_al ?_ | with_reducible refine le_set ?_ | with_reducible refine le_p1 ?_))) _)))⟩
    rw [HC.out]
    clear h1 h2 h3 hop
    cases p <;> cases q <;> cases r <;> first | rfl | contradiction
set_option maxHeartbeats 400000 in
theorem fAdd (a b : Int) (w : World) (ha : InI a) (hb : InI b) :
    Calls Try.prog 67 #[.int .i64 a, .int .i64 b] w fun e w' => e = .returned (.tuple #[.int .i64 (fitV (addW a b)), .bool (cutW (addW a b) a b)]) ∧ Below w.heap.size w w' := by
  go_enter Try.func67, Try.ntmps67
  go_wp2_with (first | (go_at_call 78; first | (with_reducible refine Calls_past2 (fDoAdd a b _ ha hb) (fun z => ?_)) | (with_reducible refine Calls_past (fDoAdd a b _ ha hb) (fun z => ?_))))
  go_ret2
  exact ⟨rfl, by (repeat (first | assumption | exact Below.refl _ _ | with_reducible refine past_t _ ?_ | with_reducible refine below_a _ ?_ | with_reducible refine Below.drew ?_ | with_reducible refine below_d _ ?_ | (with_reducible refine Below.setCell ?_ (by (show _ ≤ _; repeat (first | exact Nat.le_refl _ | assumption | (omega; done) | with_reducible exact le_past (Nat.le_refl _) | with_reducible refine le_past ?_ | with_reducible refine le_al ?_ | with_reducible refine le_set ?_ | with_reducible refine le_p1 ?_))) _)))⟩
theorem dHalf (a b : Int) (ha : InI a) (hb : InI b) : -85070591730234615847396907784232501249 ≤ halfW a b ∧ halfW a b ≤ 85070591730234615847396907784232501249 := by
  have ha2 := hd_bd a ha.1 ha.2
  have hb2 := hd_bd b hb.1 hb.2
  have m := rnd_bd (x := hd a + hd b) (d := 2) (m := 9223372036854775807) (by omega) (by omega) (by omega)
  unfold halfW; omega
theorem dMul (a b : Int) (ha : InI a) (hb : InI b) : -85070591730234615847396907784232501249 ≤ mulW a b ∧ mulW a b ≤ 85070591730234615847396907784232501249 := by
  have ha2 := hd_bd a ha.1 ha.2
  have hb2 := hd_bd b hb.1 hb.2
  have m := mul_bd _ _ ha2.1 ha2.2 hb2.1 hb2.2
  have k := rnd_bd (x := hd a * hd b) (d := 4294967296) (m := 85070591730234615847396907784232501249) (by omega) (by omega) (by omega)
  unfold mulW; omega
set_option maxHeartbeats 400000 in
theorem fDoMul (a b : Int) (w : World) (ha : InI a) (hb : InI b) :
    Calls Try.prog 78 #[.func (.func 80) #[] #[], .int .i64 a, .int .i64 b] w fun e w' => e = .returned (.tuple #[.int .i64 (fitV (mulW a b)), .bool (cutW (mulW a b) a b)]) ∧ Below w.heap.size w w' := by
  have ha2 := hd_bd a ha.1 ha.2
  have hb2 := hd_bd b hb.1 hb.2
  have hop : ∀ w, Calls Try.prog 80 #[.int .i64 (hd a), .int .i64 (hd b)] w fun e w' => e = .returned (WV (mulW a b)) ∧ Below w.heap.size w w' := fun w => fProduct (hd a) (hd b) w ha2 hb2
  have bX := dMul a b ha hb
  obtain ⟨X, hX⟩ : ∃ X, mulW a b = X := ⟨_, rfl⟩
  rw [hX] at hop bX ⊢
  clear hX
  have hc : cutW X a b = (fitC X || (bad a || bad b)) := rfl
  have h1 := fun w => wFit X w (by omega) (by omega)
  have h2 := fun w => fHeld a w ha
  have h3 := fun w => fHeld b w hb
  obtain ⟨p, hp⟩ : ∃ p, fitC X = p := ⟨_, rfl⟩
  obtain ⟨q, hq⟩ : ∃ q, bad a = q := ⟨_, rfl⟩
  obtain ⟨r, hr⟩ : ∃ r, bad b = r := ⟨_, rfl⟩
  rw [hp] at h1 hc
  rw [hq] at h2 hc
  rw [hr] at h3 hc
  have HC := Lib.hid hc
  clear hc hp hq hr
  go_enter Try.func78, Try.ntmps78
  go_wp2_with (first | (go_at_call 90; first | (with_reducible refine Calls_past2 (h2 _) (fun z => ?_)) | (with_reducible refine Calls_past (h2 _) (fun z => ?_))) | (go_at_call 90; first | (with_reducible refine Calls_past2 (h3 _) (fun z => ?_)) | (with_reducible refine Calls_past (h3 _) (fun z => ?_))) | (go_at_call 91; first | (with_reducible refine Calls_past2 (h1 _) (fun z => ?_)) | (with_reducible refine Calls_past (h1 _) (fun z => ?_))) | (go_at_call 80; first | (with_reducible refine Calls_past2 (hop _) (fun z => ?_)) | (with_reducible refine Calls_past (hop _) (fun z => ?_))))
  all_goals
    go_ret2
    refine ⟨ret_ib rfl ?_, by (repeat (first | assumption | exact Below.refl _ _ | with_reducible refine past_t _ ?_ | with_reducible refine below_a _ ?_ | with_reducible refine Below.drew ?_ | with_reducible refine below_d _ ?_ | (with_reducible refine Below.setCell ?_ (by (show _ ≤ _; repeat (first | exact Nat.le_refl _ | assumption | (omega; done) | with_reducible exact le_past (Nat.le_refl _) | with_reducible refine le_past ?_ | with_reducible refine le_al ?_ | with_reducible refine le_set ?_ | with_reducible refine le_p1 ?_))) _)))⟩
    rw [HC.out]
    clear h1 h2 h3 hop
    cases p <;> cases q <;> cases r <;> first | rfl | contradiction
set_option maxHeartbeats 400000 in
theorem fMul (a b : Int) (w : World) (ha : InI a) (hb : InI b) :
    Calls Try.prog 68 #[.int .i64 a, .int .i64 b] w fun e w' => e = .returned (.tuple #[.int .i64 (fitV (mulW a b)), .bool (cutW (mulW a b) a b)]) ∧ Below w.heap.size w w' := by
  go_enter Try.func68, Try.ntmps68
  go_wp2_with (first | (go_at_call 78; first | (with_reducible refine Calls_past2 (fDoMul a b _ ha hb) (fun z => ?_)) | (with_reducible refine Calls_past (fDoMul a b _ ha hb) (fun z => ?_))))
  go_ret2
  exact ⟨rfl, by (repeat (first | assumption | exact Below.refl _ _ | with_reducible refine past_t _ ?_ | with_reducible refine below_a _ ?_ | with_reducible refine Below.drew ?_ | with_reducible refine below_d _ ?_ | (with_reducible refine Below.setCell ?_ (by (show _ ≤ _; repeat (first | exact Nat.le_refl _ | assumption | (omega; done) | with_reducible exact le_past (Nat.le_refl _) | with_reducible refine le_past ?_ | with_reducible refine le_al ?_ | with_reducible refine le_set ?_ | with_reducible refine le_p1 ?_))) _)))⟩
theorem dDiv (a b : Int) (ha : InI a) (hb : InI b) (hz : ¬ b = 0) : -85070591730234615847396907784232501249 ≤ divW a b ∧ divW a b ≤ 85070591730234615847396907784232501249 := by
  have ha2 := hd_bd a ha.1 ha.2
  have hb2 := hd_bd b hb.1 hb.2
  have hz' : ¬ hd b = 0 := by unfold hd; split <;> omega
  unfold divW
  have k : ∀ d : Int, 0 < d → -39614081257132168792477007872 ≤ rnd (hd a * 4294967296) d ∧ rnd (hd a * 4294967296) d ≤ 39614081257132168792477007872 := fun d h0 =>
    rnd_bd h0 (by have : 39614081257132168792477007872 * 1 ≤ 39614081257132168792477007872 * d := Int.mul_le_mul_of_nonneg_left (by omega) (by omega)
                  omega) (by have : 39614081257132168792477007872 * 1 ≤ 39614081257132168792477007872 * d := Int.mul_le_mul_of_nonneg_left (by omega) (by omega)
                             omega)
  rcases Int.lt_or_le (hd b) 0 with g | g
  · rw [dvr_neg _ _ g]; have := k (-hd b) (by omega); omega
  · rw [dvr_pos _ _ (by omega)]; have := k (hd b) (by omega); omega
theorem dSub (a b : Int) (ha : InI a) (hb : InI b) : -85070591730234615847396907784232501249 ≤ subW a b ∧ subW a b ≤ 85070591730234615847396907784232501249 := by
  have ha2 := hd_bd a ha.1 ha.2
  have hb2 := hd_bd b hb.1 hb.2
  unfold subW; omega
set_option maxHeartbeats 400000 in
theorem fDoSub (a b : Int) (w : World) (ha : InI a) (hb : InI b) :
    Calls Try.prog 78 #[.func (.func 83) #[] #[], .int .i64 a, .int .i64 b] w fun e w' => e = .returned (.tuple #[.int .i64 (fitV (subW a b)), .bool (cutW (subW a b) a b)]) ∧ Below w.heap.size w w' := by
  have ha2 := hd_bd a ha.1 ha.2
  have hb2 := hd_bd b hb.1 hb.2
  have hop : ∀ w, Calls Try.prog 83 #[.int .i64 (hd a), .int .i64 (hd b)] w fun e w' => e = .returned (WV (subW a b)) ∧ Below w.heap.size w w' := fun w => fSub1 (hd a) (hd b) w ha2 hb2
  have bX := dSub a b ha hb
  obtain ⟨X, hX⟩ : ∃ X, subW a b = X := ⟨_, rfl⟩
  rw [hX] at hop bX ⊢
  clear hX
  have hc : cutW X a b = (fitC X || (bad a || bad b)) := rfl
  have h1 := fun w => wFit X w (by omega) (by omega)
  have h2 := fun w => fHeld a w ha
  have h3 := fun w => fHeld b w hb
  obtain ⟨p, hp⟩ : ∃ p, fitC X = p := ⟨_, rfl⟩
  obtain ⟨q, hq⟩ : ∃ q, bad a = q := ⟨_, rfl⟩
  obtain ⟨r, hr⟩ : ∃ r, bad b = r := ⟨_, rfl⟩
  rw [hp] at h1 hc
  rw [hq] at h2 hc
  rw [hr] at h3 hc
  have HC := Lib.hid hc
  clear hc hp hq hr
  go_enter Try.func78, Try.ntmps78
  go_wp2_with (first | (go_at_call 90; first | (with_reducible refine Calls_past2 (h2 _) (fun z => ?_)) | (with_reducible refine Calls_past (h2 _) (fun z => ?_))) | (go_at_call 90; first | (with_reducible refine Calls_past2 (h3 _) (fun z => ?_)) | (with_reducible refine Calls_past (h3 _) (fun z => ?_))) | (go_at_call 91; first | (with_reducible refine Calls_past2 (h1 _) (fun z => ?_)) | (with_reducible refine Calls_past (h1 _) (fun z => ?_))) | (go_at_call 83; first | (with_reducible refine Calls_past2 (hop _) (fun z => ?_)) | (with_reducible refine Calls_past (hop _) (fun z => ?_))))
  all_goals
    go_ret2
    refine ⟨ret_ib rfl ?_, by (repeat (first | assumption | exact Below.refl _ _ | with_reducible refine past_t _ ?_ | with_reducible refine below_a _ ?_ | with_reducible refine Below.drew ?_ | with_reducible refine below_d _ ?_ | (with_reducible refine Below.setCell ?_ (by (show _ ≤ _; repeat (first | exact Nat.le_refl _ | assumption | (omega; done) | with_reducible exact le_past (Nat.le_refl _) | with_reducible refine le_past ?_ | with_reducible refine le_al ?_ | with_reducible refine le_set ?_ | with_reducible refine le_p1 ?_))) _)))⟩
    rw [HC.out]
    clear h1 h2 h3 hop
    cases p <;> cases q <;> cases r <;> first | rfl | contradiction
set_option maxHeartbeats 400000 in
theorem fSub (a b : Int) (w : World) (ha : InI a) (hb : InI b) :
    Calls Try.prog 73 #[.int .i64 a, .int .i64 b] w fun e w' => e = .returned (.tuple #[.int .i64 (fitV (subW a b)), .bool (cutW (subW a b) a b)]) ∧ Below w.heap.size w w' := by
  go_enter Try.func73, Try.ntmps73
  go_wp2_with (first | (go_at_call 78; first | (with_reducible refine Calls_past2 (fDoSub a b _ ha hb) (fun z => ?_)) | (with_reducible refine Calls_past (fDoSub a b _ ha hb) (fun z => ?_))))
  go_ret2
  exact ⟨rfl, by (repeat (first | assumption | exact Below.refl _ _ | with_reducible refine past_t _ ?_ | with_reducible refine below_a _ ?_ | with_reducible refine Below.drew ?_ | with_reducible refine below_d _ ?_ | (with_reducible refine Below.setCell ?_ (by (show _ ≤ _; repeat (first | exact Nat.le_refl _ | assumption | (omega; done) | with_reducible exact le_past (Nat.le_refl _) | with_reducible refine le_past ?_ | with_reducible refine le_al ?_ | with_reducible refine le_set ?_ | with_reducible refine le_p1 ?_))) _)))⟩
theorem hd_0 : hd 0 = 0 := by decide
end Go.Proofs.Ytlhadociaekkhaa
