/- MatKnown, in any world. -/
import Derived.Test.YtlhadociaekkhaaQMatL3
import Derived.Test.YtlhadociaekkhaaQF
import Derived.Deep.DeepCutAuto
import Derived.Deep.LoopGhost
import Derived.Deep.RegionWith
import Derived.WalkKit
import Derived.ProofKit
import Derived.OpenShut
import Derived.ShutString
import Derived.ChangeOld
import Derived.Below
import Derived.Lib.SmallJoins
set_option linter.unusedSimpArgs false
set_option linter.unusedVariables false
namespace Go.Proofs.Ytlhadociaekkhaa
open Go.ChangeShapes Go.WideShapes Go.ChangeAt Go.RowKit Go.Shelf
set_option linter.unusedVariables false
set_option linter.unusedSimpArgs false
set_option maxHeartbeats 8000000 in
set_option maxRecDepth 100000 in
theorem lKnown7 (w : World) : Calls Try.prog 8 #[] w fun e w' => e = .returned (.bool true) ∧ Below w.heap.size w w' := by
  have haw := lAwake7
  go_enter Try.func8, Try.ntmps8
  go_upto_region 2 with (first | (go_at_call 10; refine (uNew _).mono ?_; rintro e w1 ⟨rfl, rfl⟩))
  refine wp_gen (fun W0 hW0 => ?_)
  have hU : UA w.heap.size false 0 W0 := by rw [hW0]; exact ⟨by (first | (simp [go_sem]; done) | (simp [go_sem, ↓IntWalk.iteOmega]; done)), by (first | (simp [go_sem]; done) | (simp [go_sem, ↓IntWalk.iteOmega]; done)), by (first | (simp [go_sem]; done) | (simp [go_sem, ↓IntWalk.iteOmega]; done)), by (first | (simp [go_sem]; done) | (simp [go_sem, ↓IntWalk.iteOmega]; done)), by (first | (simp [go_sem]; done) | (simp [go_sem, ↓IntWalk.iteOmega]; done))⟩
  have hB : Below w.heap.size w W0 := by rw [hW0]; (repeat (first | assumption | exact Below.refl _ _ | with_reducible refine past_t _ ?_ | with_reducible refine below_a _ ?_ | with_reducible refine Below.drew ?_ | with_reducible refine below_d _ ?_ | (with_reducible refine Below.setCell ?_ (by (show _ ≤ _; repeat (first | exact Nat.le_refl _ | assumption | (omega; done) | with_reducible exact le_past (Nat.le_refl _) | with_reducible refine le_past ?_ | with_reducible refine le_al ?_ | with_reducible refine le_set ?_ | with_reducible refine le_p1 ?_))) _)))
  have hUl := hU.lt
  clear hW0
  go_upto_region 3 with (first | (go_at_call 41; refine (lOfL [1, 2, 3, 4] (by rfl) (by rfl) (by rfl) (by decide)).mono ?_; rintro e x1 ⟨A1, c1, rfl, ho1, hb1⟩) | (go_at_call 41; refine (lOfL [0, 1, 1, 0] (by rfl) (by rfl) (by rfl) (by decide)).mono ?_; rintro e x2 ⟨A2, c2, rfl, ho2, hb2⟩))
  rw [k_w1] at ho1
  rw [k_w2] at ho2
  simp only [List.length_cons, List.length_nil, Nat.zero_add, Nat.reduceAdd] at ho1 ho2
  have b1 : Below W0.heap.size W0 x1 := (below_a _ (Below.refl _ _)).trans (hb1.mono (by simp only [World.size_alloc]; omega))
  have b2 : Below x1.heap.size x1 x2 := (below_a _ (Below.refl _ _)).trans (hb2.mono (by simp only [World.size_alloc]; omega))
  have z1 := b1.size
  have z2 := b2.size
  have l1 := (own_ri (ho1.keep b2))
  have l2 := own_ri ho2
  simp only [World.size_alloc] at l1 l2
  clear ho1 ho2 hb1 hb2
  refine wp_gen (fun W1 hW => ?_)
  have hs : Stp W1.heap.size W1.heap.size W0 W1 := (Stp.bel b1).trans ((Stp.bel b2).trans (by rw [hW]; exact Stp.bel (by (repeat (first | assumption | exact Below.refl _ _ | with_reducible refine past_t _ ?_ | with_reducible refine below_a _ ?_ | with_reducible refine Below.drew ?_ | with_reducible refine below_d _ ?_ | (with_reducible refine Below.setCell ?_ (by (show _ ≤ _; repeat (first | exact Nat.le_refl _ | assumption | (omega; done) | with_reducible exact le_past (Nat.le_refl _) | with_reducible refine le_past ?_ | with_reducible refine le_al ?_ | with_reducible refine le_set ?_ | with_reducible refine le_p1 ?_))) _))))))
  have hzW1 := hs.size
  replace hB := hs.below hB (by omega) (by omega)
  replace hU := hU.stp hs (by omega) (by omega)
  have b3 : Below x2.heap.size x2 W1 := by rw [hW]; (repeat (first | assumption | exact Below.refl _ _ | with_reducible refine past_t _ ?_ | with_reducible refine below_a _ ?_ | with_reducible refine Below.drew ?_ | with_reducible refine below_d _ ?_ | (with_reducible refine Below.setCell ?_ (by (show _ ≤ _; repeat (first | exact Nat.le_refl _ | assumption | (omega; done) | with_reducible exact le_past (Nat.le_refl _) | with_reducible refine le_past ?_ | with_reducible refine le_al ?_ | with_reducible refine le_set ?_ | with_reducible refine le_p1 ?_))) _)))
  have m1 := l1.keep b3
  have m2 := l2.keep b3
  have v1 : Bx W1 x2.heap.size 2 2 (.slice A1 4 c1) := by rw [hW]; exact ⟨by (first | (simp [go_sem]; done) | (simp [go_sem, ↓IntWalk.iteOmega]; done)), by (first | (simp [go_sem]; done) | (simp [go_sem, ↓IntWalk.iteOmega]; done)), by (first | (simp [go_sem]; done) | (simp [go_sem, ↓IntWalk.iteOmega]; done))⟩
  have v2 : Bx W1 (x2.heap.size + 1) 2 2 (.slice A2 4 c2) := by rw [hW]; exact ⟨by (first | (simp [go_sem]; done) | (simp [go_sem, ↓IntWalk.iteOmega]; done)), by (first | (simp [go_sem]; done) | (simp [go_sem, ↓IntWalk.iteOmega]; done)), by (first | (simp [go_sem]; done) | (simp [go_sem, ↓IntWalk.iteOmega]; done))⟩
  have y1 := World.block_lt_of_cell? _ _ v2.c0
  clear hW b1 b2 b3 l1 l2 hs
  generalize x2.heap.size = kk at *
  simp only at y1
  have HU := Lib.hid hU
  have HM := Lib.hid m1
  have v1_0 := v1.c0
  have v1_1 := v1.c1
  have v1_2 := v1.c2
  go_upto_region 4 with ((go_at_call 18; refine (xApply (HU.out.keep ?_) (by omega) (R1 := 2) (C1 := 2) (HM.out.1.keep ?_) (HM.out.fr (by omega)) (allI_of (by decide)) (RS.lit .i64 _ [4294967296, 4294967296] _ _ (by rfl) 2 (by rfl) (by omega) 2 (by rfl) _ (by rfl)) (fun _ b o e => by cases e; omega) (allI_of (by decide))).mono ?_; (focus ((repeat (first | assumption | exact Below.refl _ _ | with_reducible refine past_t _ ?_ | with_reducible refine below_a _ ?_ | with_reducible refine Below.drew ?_ | with_reducible refine below_d _ ?_ | (with_reducible refine Below.setCell ?_ (by (show _ ≤ _; repeat (first | exact Nat.le_refl _ | assumption | (omega; done) | with_reducible exact le_past (Nat.le_refl _) | with_reducible refine le_past ?_ | with_reducible refine le_al ?_ | with_reducible refine le_set ?_ | with_reducible refine le_p1 ?_))) _))); done)); (focus ((repeat (first | assumption | exact Below.refl _ _ | with_reducible refine past_t _ ?_ | with_reducible refine below_a _ ?_ | with_reducible refine Below.drew ?_ | with_reducible refine below_d _ ?_ | (with_reducible refine Below.setCell ?_ (by (show _ ≤ _; repeat (first | exact Nat.le_refl _ | assumption | (omega; done) | with_reducible exact le_past (Nat.le_refl _) | with_reducible refine le_past ?_ | with_reducible refine le_al ?_ | with_reducible refine le_set ?_ | with_reducible refine le_p1 ?_))) _))); done)); rw [k_app]; rintro e x3 ⟨A3, n3, c3, rfl, ho3, hb3⟩))
  have hs2 : W1.heap.size + 1 ≤ x3.heap.size := by have := hb3.size; rw [put_size] at this; simpa using this
  have u3 := ((hU.keep ((Below.refl _ _).alloc (Nat.le_refl _) _)).put false 8).keep (by rw [put_size]; exact hb3)
  clear v1_0 v1_1 v1_2
  refine wp_gen (fun W2 hW => ?_)
  have hs : Stp w.heap.size w.heap.size W1 W2 := ((Stp.bel ((Below.refl _ _).alloc (Nat.le_refl _) _)).trans (Stp.put1 hb3)).trans (by rw [hW]; exact Stp.bel (by (repeat (first | assumption | exact Below.refl _ _ | with_reducible refine past_t _ ?_ | with_reducible refine below_a _ ?_ | with_reducible refine Below.drew ?_ | with_reducible refine below_d _ ?_ | (with_reducible refine Below.setCell ?_ (by (show _ ≤ _; repeat (first | exact Nat.le_refl _ | assumption | (omega; done) | with_reducible exact le_past (Nat.le_refl _) | with_reducible refine le_past ?_ | with_reducible refine le_al ?_ | with_reducible refine le_set ?_ | with_reducible refine le_p1 ?_))) _)))))
  have hzW2 := hs.size
  replace hB := hs.below hB (by omega) (by omega)
  replace m1 := m1.stp hs (by omega) (by omega)
  replace m2 := m2.stp hs (by omega) (by omega)
  replace v1 := v1.stp hs (by omega) (by omega)
  replace v2 := v2.stp hs (by omega) (by omega)
  have b3 : Below x3.heap.size x3 W2 := by rw [hW]; (repeat (first | assumption | exact Below.refl _ _ | with_reducible refine past_t _ ?_ | with_reducible refine below_a _ ?_ | with_reducible refine Below.drew ?_ | with_reducible refine below_d _ ?_ | (with_reducible refine Below.setCell ?_ (by (show _ ≤ _; repeat (first | exact Nat.le_refl _ | assumption | (omega; done) | with_reducible exact le_past (Nat.le_refl _) | with_reducible refine le_past ?_ | with_reducible refine le_al ?_ | with_reducible refine le_set ?_ | with_reducible refine le_p1 ?_))) _)))
  replace hU := u3.keep b3
  have m3 := (own_ri ho3).keep b3
  simp only [World.size_alloc] at m3
  have y3 := b3.size
  clear hW hs ho3 hb3 u3 HU HM b3
  have hc := xSum hU (by omega) (R1 := 2) (C1 := 2) m1.1 (m1.fr (by omega)) (allI_of (by decide)) (R2 := 2) (C2 := 2) m2.1 (m2.fr (by omega)) (allI_of (by decide))
  rw [k_sum] at hc
  have HC := Lib.hid hc
  clear hc
  have v1_0 := v1.c0
  have v1_1 := v1.c1
  have v1_2 := v1.c2
  have v2_0 := v2.c0
  have v2_1 := v2.c1
  have v2_2 := v2.c2
  go_upto_region 5 with ((go_at_call 35; refine HC.out.mono ?_; rintro e x4 ⟨A4, n4, c4, rfl, ho4, hb4⟩))
  clear HC
  have hs2 : W2.heap.size ≤ x4.heap.size := by have := hb4.size; rwa [put_size] at this
  have u3 := (hU.put false 16).keep (by rw [put_size]; exact hb4)
  clear v1_0 v1_1 v1_2
  clear v2_0 v2_1 v2_2
  refine wp_gen (fun W3 hW => ?_)
  have hs : Stp w.heap.size w.heap.size W2 W3 := (Stp.put1 hb4).trans (by rw [hW]; exact Stp.bel (by (repeat (first | assumption | exact Below.refl _ _ | with_reducible refine past_t _ ?_ | with_reducible refine below_a _ ?_ | with_reducible refine Below.drew ?_ | with_reducible refine below_d _ ?_ | (with_reducible refine Below.setCell ?_ (by (show _ ≤ _; repeat (first | exact Nat.le_refl _ | assumption | (omega; done) | with_reducible exact le_past (Nat.le_refl _) | with_reducible refine le_past ?_ | with_reducible refine le_al ?_ | with_reducible refine le_set ?_ | with_reducible refine le_p1 ?_))) _)))))
  have hzW3 := hs.size
  replace hB := hs.below hB (by omega) (by omega)
  replace m1 := m1.stp hs (by omega) (by omega)
  replace m2 := m2.stp hs (by omega) (by omega)
  replace v1 := v1.stp hs (by omega) (by omega)
  replace v2 := v2.stp hs (by omega) (by omega)
  replace m3 := m3.stp hs (by omega) (by omega)
  replace hU := u3.keep (by rw [hW]; (repeat (first | assumption | exact Below.refl _ _ | with_reducible refine past_t _ ?_ | with_reducible refine below_a _ ?_ | with_reducible refine Below.drew ?_ | with_reducible refine below_d _ ?_ | (with_reducible refine Below.setCell ?_ (by (show _ ≤ _; repeat (first | exact Nat.le_refl _ | assumption | (omega; done) | with_reducible exact le_past (Nat.le_refl _) | with_reducible refine le_past ?_ | with_reducible refine le_al ?_ | with_reducible refine le_set ?_ | with_reducible refine le_p1 ?_))) _))) : Below x4.heap.size x4 W3)
  clear u3
  have b3 : Below x4.heap.size x4 W3 := by rw [hW]; (repeat (first | assumption | exact Below.refl _ _ | with_reducible refine past_t _ ?_ | with_reducible refine below_a _ ?_ | with_reducible refine Below.drew ?_ | with_reducible refine below_d _ ?_ | (with_reducible refine Below.setCell ?_ (by (show _ ≤ _; repeat (first | exact Nat.le_refl _ | assumption | (omega; done) | with_reducible exact le_past (Nat.le_refl _) | with_reducible refine le_past ?_ | with_reducible refine le_al ?_ | with_reducible refine le_set ?_ | with_reducible refine le_p1 ?_))) _)))
  have z_x4 : W2.heap.size ≤ x4.heap.size := hs2
  have m4 := (own_ri ho4).keep b3
  have v4 : Bx W3 x4.heap.size 2 2 (.slice A4 n4 c4) := by rw [hW]; exact ⟨by (first | (simp [go_sem]; done) | (simp [go_sem, ↓IntWalk.iteOmega]; done)), by (first | (simp [go_sem]; done) | (simp [go_sem, ↓IntWalk.iteOmega]; done)), by (first | (simp [go_sem]; done) | (simp [go_sem, ↓IntWalk.iteOmega]; done))⟩
  have y_v4 := World.block_lt_of_cell? _ _ v4.c0
  clear hW b3 hs hs2 ho4 hb4
  generalize x4.heap.size = k4 at *
  simp only at y_v4
  have hc := xEye 2 W3
  rw [k_eye2] at hc
  have HC := Lib.hid hc
  clear hc
  go_upto_region 6 with ((go_at_call 26; refine HC.out.mono ?_; rintro e x5 ⟨A5, n5, c5, rfl, ho5, hb5⟩))
  have hs2 := hb5.size
  clear HC
  refine wp_gen (fun W4 hW => ?_)
  have hs : Stp W4.heap.size W4.heap.size W3 W4 := (Stp.bel hb5).trans (by rw [hW]; exact Stp.bel (by (repeat (first | assumption | exact Below.refl _ _ | with_reducible refine past_t _ ?_ | with_reducible refine below_a _ ?_ | with_reducible refine Below.drew ?_ | with_reducible refine below_d _ ?_ | (with_reducible refine Below.setCell ?_ (by (show _ ≤ _; repeat (first | exact Nat.le_refl _ | assumption | (omega; done) | with_reducible exact le_past (Nat.le_refl _) | with_reducible refine le_past ?_ | with_reducible refine le_al ?_ | with_reducible refine le_set ?_ | with_reducible refine le_p1 ?_))) _)))))
  have hzW4 := hs.size
  replace hB := hs.below hB (by omega) (by omega)
  replace hU := hU.stp hs (by omega) (by omega)
  replace m1 := m1.stp hs (by omega) (by omega)
  replace m2 := m2.stp hs (by omega) (by omega)
  replace v1 := v1.stp hs (by omega) (by omega)
  replace v2 := v2.stp hs (by omega) (by omega)
  replace m3 := m3.stp hs (by omega) (by omega)
  replace m4 := m4.stp hs (by omega) (by omega)
  replace v4 := v4.stp hs (by omega) (by omega)
  have b3 : Below x5.heap.size x5 W4 := by rw [hW]; (repeat (first | assumption | exact Below.refl _ _ | with_reducible refine past_t _ ?_ | with_reducible refine below_a _ ?_ | with_reducible refine Below.drew ?_ | with_reducible refine below_d _ ?_ | (with_reducible refine Below.setCell ?_ (by (show _ ≤ _; repeat (first | exact Nat.le_refl _ | assumption | (omega; done) | with_reducible exact le_past (Nat.le_refl _) | with_reducible refine le_past ?_ | with_reducible refine le_al ?_ | with_reducible refine le_set ?_ | with_reducible refine le_p1 ?_))) _)))
  have z_x5 : W3.heap.size ≤ x5.heap.size := hs2
  have m5 := (own_ri ho5).keep b3
  have v5 : Bx W4 x5.heap.size 2 2 (.slice A5 n5 c5) := by rw [hW]; exact ⟨by (first | (simp [go_sem]; done) | (simp [go_sem, ↓IntWalk.iteOmega]; done)), by (first | (simp [go_sem]; done) | (simp [go_sem, ↓IntWalk.iteOmega]; done)), by (first | (simp [go_sem]; done) | (simp [go_sem, ↓IntWalk.iteOmega]; done))⟩
  have y_v5 := World.block_lt_of_cell? _ _ v5.c0
  clear hW b3 hs hs2 ho5 hb5
  generalize x5.heap.size = k5 at *
  simp only at y_v5
  go_upto_region 7 with ((go_at_call 28; refine (xDiag (RS.lit .i64 _ [5, 6] _ _ (by rfl) 2 (by rfl) (by omega) 2 (by rfl) _ (by rfl))).mono ?_; rw [k_diag]; rintro e x6 ⟨A6, n6, c6, rfl, ho6, hb6⟩))
  have b6 : Below W4.heap.size W4 x6 := (below_a _ (Below.refl _ _)).trans (hb6.mono (by simp only [World.size_alloc]; omega))
  have hs2 := b6.size
  refine wp_gen (fun W5 hW => ?_)
  have hs : Stp W5.heap.size W5.heap.size W4 W5 := (Stp.bel b6).trans (by rw [hW]; exact Stp.bel (by (repeat (first | assumption | exact Below.refl _ _ | with_reducible refine past_t _ ?_ | with_reducible refine below_a _ ?_ | with_reducible refine Below.drew ?_ | with_reducible refine below_d _ ?_ | (with_reducible refine Below.setCell ?_ (by (show _ ≤ _; repeat (first | exact Nat.le_refl _ | assumption | (omega; done) | with_reducible exact le_past (Nat.le_refl _) | with_reducible refine le_past ?_ | with_reducible refine le_al ?_ | with_reducible refine le_set ?_ | with_reducible refine le_p1 ?_))) _)))))
  have hzW5 := hs.size
  replace hB := hs.below hB (by omega) (by omega)
  replace hU := hU.stp hs (by omega) (by omega)
  replace m1 := m1.stp hs (by omega) (by omega)
  replace m2 := m2.stp hs (by omega) (by omega)
  replace v1 := v1.stp hs (by omega) (by omega)
  replace v2 := v2.stp hs (by omega) (by omega)
  replace m3 := m3.stp hs (by omega) (by omega)
  replace m4 := m4.stp hs (by omega) (by omega)
  replace v4 := v4.stp hs (by omega) (by omega)
  replace m5 := m5.stp hs (by omega) (by omega)
  replace v5 := v5.stp hs (by omega) (by omega)
  replace ho6 := ho6.base (U := W4) (by simp only [World.size_alloc]; omega)
  clear b6
  have b3 : Below x6.heap.size x6 W5 := by rw [hW]; (repeat (first | assumption | exact Below.refl _ _ | with_reducible refine past_t _ ?_ | with_reducible refine below_a _ ?_ | with_reducible refine Below.drew ?_ | with_reducible refine below_d _ ?_ | (with_reducible refine Below.setCell ?_ (by (show _ ≤ _; repeat (first | exact Nat.le_refl _ | assumption | (omega; done) | with_reducible exact le_past (Nat.le_refl _) | with_reducible refine le_past ?_ | with_reducible refine le_al ?_ | with_reducible refine le_set ?_ | with_reducible refine le_p1 ?_))) _)))
  have z_x6 : W4.heap.size ≤ x6.heap.size := hs2
  have m6 := (own_ri ho6).keep b3
  have v6 : Bx W5 x6.heap.size 2 2 (.slice A6 n6 c6) := by rw [hW]; exact ⟨by (first | (simp [go_sem]; done) | (simp [go_sem, ↓IntWalk.iteOmega]; done)), by (first | (simp [go_sem]; done) | (simp [go_sem, ↓IntWalk.iteOmega]; done)), by (first | (simp [go_sem]; done) | (simp [go_sem, ↓IntWalk.iteOmega]; done))⟩
  have y_v6 := World.block_lt_of_cell? _ _ v6.c0
  clear hW b3 hs hs2 ho6 hb6
  generalize x6.heap.size = k6 at *
  simp only at y_v6
  have hc := xRow (R := 2) (C := 2) (i := 1) m1.1
  rw [k_row] at hc
  have HC := Lib.hid hc
  clear hc
  have v1_0 := v1.c0
  have v1_1 := v1.c1
  have v1_2 := v1.c2
  go_upto_region 8 with ((go_at_call 31; refine HC.out.mono ?_; rintro e x7 ⟨A7, n7, c7, rfl, ho7, hb7⟩))
  have hs2 := hb7.size
  clear HC
  clear v1_0 v1_1 v1_2
  refine wp_gen (fun W6 hW => ?_)
  have hs : Stp W6.heap.size W6.heap.size W5 W6 := (Stp.bel hb7).trans (by rw [hW]; exact Stp.bel (by (repeat (first | assumption | exact Below.refl _ _ | with_reducible refine past_t _ ?_ | with_reducible refine below_a _ ?_ | with_reducible refine Below.drew ?_ | with_reducible refine below_d _ ?_ | (with_reducible refine Below.setCell ?_ (by (show _ ≤ _; repeat (first | exact Nat.le_refl _ | assumption | (omega; done) | with_reducible exact le_past (Nat.le_refl _) | with_reducible refine le_past ?_ | with_reducible refine le_al ?_ | with_reducible refine le_set ?_ | with_reducible refine le_p1 ?_))) _)))))
  have hzW6 := hs.size
  replace hB := hs.below hB (by omega) (by omega)
  replace hU := hU.stp hs (by omega) (by omega)
  replace m1 := m1.stp hs (by omega) (by omega)
  replace m2 := m2.stp hs (by omega) (by omega)
  replace v1 := v1.stp hs (by omega) (by omega)
  replace v2 := v2.stp hs (by omega) (by omega)
  replace m3 := m3.stp hs (by omega) (by omega)
  replace m4 := m4.stp hs (by omega) (by omega)
  replace v4 := v4.stp hs (by omega) (by omega)
  replace m5 := m5.stp hs (by omega) (by omega)
  replace v5 := v5.stp hs (by omega) (by omega)
  replace m6 := m6.stp hs (by omega) (by omega)
  replace v6 := v6.stp hs (by omega) (by omega)
  have b3 : Below x7.heap.size x7 W6 := by rw [hW]; (repeat (first | assumption | exact Below.refl _ _ | with_reducible refine past_t _ ?_ | with_reducible refine below_a _ ?_ | with_reducible refine Below.drew ?_ | with_reducible refine below_d _ ?_ | (with_reducible refine Below.setCell ?_ (by (show _ ≤ _; repeat (first | exact Nat.le_refl _ | assumption | (omega; done) | with_reducible exact le_past (Nat.le_refl _) | with_reducible refine le_past ?_ | with_reducible refine le_al ?_ | with_reducible refine le_set ?_ | with_reducible refine le_p1 ?_))) _)))
  have z_x7 : W5.heap.size ≤ x7.heap.size := hs2
  have m7 := (own_ri ho7).keep b3
  have y_x7 := b3.size
  clear hW b3 hs hs2 ho7 hb7
  have hc := xScale hU (by omega) (R1 := 2) (C1 := 2) m1.1 (m1.fr (by omega)) (allI_of (by decide)) (s := 2147483648) ⟨by omega, by omega⟩
  rw [k_scale] at hc
  have HC := Lib.hid hc
  clear hc
  have v1_0 := v1.c0
  have v1_1 := v1.c1
  have v1_2 := v1.c2
  go_upto_region 9 with ((go_at_call 39; refine HC.out.mono ?_; rintro e x8 ⟨A8, n8, c8, rfl, ho8, hb8⟩))
  clear HC
  have hs2 : W6.heap.size ≤ x8.heap.size := by have := hb8.size; rwa [put_size] at this
  have u3 := (hU.put false 24).keep (by rw [put_size]; exact hb8)
  clear v1_0 v1_1 v1_2
  refine wp_gen (fun W7 hW => ?_)
  have hs : Stp w.heap.size w.heap.size W6 W7 := (Stp.put1 hb8).trans (by rw [hW]; exact Stp.bel (by (repeat (first | assumption | exact Below.refl _ _ | with_reducible refine past_t _ ?_ | with_reducible refine below_a _ ?_ | with_reducible refine Below.drew ?_ | with_reducible refine below_d _ ?_ | (with_reducible refine Below.setCell ?_ (by (show _ ≤ _; repeat (first | exact Nat.le_refl _ | assumption | (omega; done) | with_reducible exact le_past (Nat.le_refl _) | with_reducible refine le_past ?_ | with_reducible refine le_al ?_ | with_reducible refine le_set ?_ | with_reducible refine le_p1 ?_))) _)))))
  have hzW7 := hs.size
  replace hB := hs.below hB (by omega) (by omega)
  replace m1 := m1.stp hs (by omega) (by omega)
  replace m2 := m2.stp hs (by omega) (by omega)
  replace v1 := v1.stp hs (by omega) (by omega)
  replace v2 := v2.stp hs (by omega) (by omega)
  replace m3 := m3.stp hs (by omega) (by omega)
  replace m4 := m4.stp hs (by omega) (by omega)
  replace v4 := v4.stp hs (by omega) (by omega)
  replace m5 := m5.stp hs (by omega) (by omega)
  replace v5 := v5.stp hs (by omega) (by omega)
  replace m6 := m6.stp hs (by omega) (by omega)
  replace v6 := v6.stp hs (by omega) (by omega)
  replace m7 := m7.stp hs (by omega) (by omega)
  replace hU := u3.keep (by rw [hW]; (repeat (first | assumption | exact Below.refl _ _ | with_reducible refine past_t _ ?_ | with_reducible refine below_a _ ?_ | with_reducible refine Below.drew ?_ | with_reducible refine below_d _ ?_ | (with_reducible refine Below.setCell ?_ (by (show _ ≤ _; repeat (first | exact Nat.le_refl _ | assumption | (omega; done) | with_reducible exact le_past (Nat.le_refl _) | with_reducible refine le_past ?_ | with_reducible refine le_al ?_ | with_reducible refine le_set ?_ | with_reducible refine le_p1 ?_))) _))) : Below x8.heap.size x8 W7)
  clear u3
  have b3 : Below x8.heap.size x8 W7 := by rw [hW]; (repeat (first | assumption | exact Below.refl _ _ | with_reducible refine past_t _ ?_ | with_reducible refine below_a _ ?_ | with_reducible refine Below.drew ?_ | with_reducible refine below_d _ ?_ | (with_reducible refine Below.setCell ?_ (by (show _ ≤ _; repeat (first | exact Nat.le_refl _ | assumption | (omega; done) | with_reducible exact le_past (Nat.le_refl _) | with_reducible refine le_past ?_ | with_reducible refine le_al ?_ | with_reducible refine le_set ?_ | with_reducible refine le_p1 ?_))) _)))
  have z_x8 : W6.heap.size ≤ x8.heap.size := hs2
  have m8 := (own_ri ho8).keep b3
  have v8 : Bx W7 x8.heap.size 2 2 (.slice A8 n8 c8) := by rw [hW]; exact ⟨by (first | (simp [go_sem]; done) | (simp [go_sem, ↓IntWalk.iteOmega]; done)), by (first | (simp [go_sem]; done) | (simp [go_sem, ↓IntWalk.iteOmega]; done)), by (first | (simp [go_sem]; done) | (simp [go_sem, ↓IntWalk.iteOmega]; done))⟩
  have y_v8 := World.block_lt_of_cell? _ _ v8.c0
  clear hW b3 hs hs2 ho8 hb8
  generalize x8.heap.size = k8 at *
  simp only at y_v8
  have M3 := Lib.hid m3.1
  have M4 := Lib.hid m4.1
  have M5 := Lib.hid m5.1
  have M6 := Lib.hid m6.1
  have FS := Lib.hid (And.intro hU (And.intro hB (And.intro m1 (And.intro m7 (And.intro m8 (And.intro v1 v8))))))
  have keepS : ∀ w' : World, Below W7.heap.size W7 w' → (Below W7.heap.size W7 w' ∧ w'.cell? ⟨k4, 0, none⟩ = some (.int .i64 2) ∧ w'.cell? ⟨k4, 1, none⟩ = some (.int .i64 2) ∧ w'.cell? ⟨k4, 2, none⟩ = some (.slice A4 n4 c4) ∧ w'.cell? ⟨k5, 0, none⟩ = some (.int .i64 2) ∧ w'.cell? ⟨k5, 1, none⟩ = some (.int .i64 2) ∧ w'.cell? ⟨k5, 2, none⟩ = some (.slice A5 n5 c5) ∧ w'.cell? ⟨k6, 0, none⟩ = some (.int .i64 2) ∧ w'.cell? ⟨k6, 1, none⟩ = some (.int .i64 2) ∧ w'.cell? ⟨k6, 2, none⟩ = some (.slice A6 n6 c6)) := fun w' h => ⟨h, cell_keep v4.c0 h, cell_keep v4.c1 h, cell_keep v4.c2 h, cell_keep v5.c0 h, cell_keep v5.c1 h, cell_keep v5.c2 h, cell_keep v6.c0 h, cell_keep v6.c1 h, cell_keep v6.c2 h⟩
  have KS := Lib.hid keepS
  clear keepS
  clear hU hB m1 m2 m3 m4 m5 m6 m7 m8 v1 v2 v4 v5 v6 v8
  go_wp2_with fail
  go_region_held3 (fun w' => Below W7.heap.size W7 w' ∧ w'.cell? ⟨k4, 0, none⟩ = some (.int .i64 2) ∧ w'.cell? ⟨k4, 1, none⟩ = some (.int .i64 2) ∧ w'.cell? ⟨k4, 2, none⟩ = some (.slice A4 n4 c4) ∧ w'.cell? ⟨k5, 0, none⟩ = some (.int .i64 2) ∧ w'.cell? ⟨k5, 1, none⟩ = some (.int .i64 2) ∧ w'.cell? ⟨k5, 2, none⟩ = some (.slice A5 n5 c5) ∧ w'.cell? ⟨k6, 0, none⟩ = some (.int .i64 2) ∧ w'.cell? ⟨k6, 1, none⟩ = some (.int .i64 2) ∧ w'.cell? ⟨k6, 2, none⟩ = some (.slice A6 n6 c6)) (((try go_split_ands); refine KS.out _ ?_; (repeat (first | assumption | exact Below.refl _ _ | with_reducible refine past_t _ ?_ | with_reducible refine below_a _ ?_ | with_reducible refine Below.drew ?_ | with_reducible refine below_d _ ?_ | (with_reducible refine Below.setCell ?_ (by (show _ ≤ _; repeat (first | exact Nat.le_refl _ | assumption | (omega; done) | with_reducible exact le_past (Nat.le_refl _) | with_reducible refine le_past ?_ | with_reducible refine le_al ?_ | with_reducible refine le_set ?_ | with_reducible refine le_p1 ?_))) _))))) (((try go_split_ands); first | (go_at_call 41; (fail_if_success (clear gb1v)); refine Calls.mono (lOfD [3, 7] (by rfl) (by rfl) (by rfl) (by decide)) ?_; rintro _ z1 ⟨D1, f1, rfl, go1, gb1⟩; rw [k_o1] at go1; have gb1v := bel_trans (V := W7) (by (repeat (first | assumption | exact Below.refl _ _ | with_reducible refine past_t _ ?_ | with_reducible refine below_a _ ?_ | with_reducible refine Below.drew ?_ | with_reducible refine below_d _ ?_ | (with_reducible refine Below.setCell ?_ (by (show _ ≤ _; repeat (first | exact Nat.le_refl _ | assumption | (omega; done) | with_reducible exact le_past (Nat.le_refl _) | with_reducible refine le_past ?_ | with_reducible refine le_al ?_ | with_reducible refine le_set ?_ | with_reducible refine le_p1 ?_))) _)))) gb1) | (go_at_call 21; (fail_if_success (clear gb2v)); refine Calls.mono (iSameT (M3.out.keep (by (repeat (first | assumption | exact Below.refl _ _ | with_reducible refine past_t _ ?_ | with_reducible refine below_a _ ?_ | with_reducible refine Below.drew ?_ | with_reducible refine below_d _ ?_ | (with_reducible refine Below.setCell ?_ (by (show _ ≤ _; repeat (first | exact Nat.le_refl _ | assumption | (omega; done) | with_reducible exact le_past (Nat.le_refl _) | with_reducible refine le_past ?_ | with_reducible refine le_al ?_ | with_reducible refine le_set ?_ | with_reducible refine le_p1 ?_))) _))))) (go1.rs.keep (by (repeat (first | assumption | exact Below.refl _ _ | with_reducible refine past_t _ ?_ | with_reducible refine below_a _ ?_ | with_reducible refine Below.drew ?_ | with_reducible refine below_d _ ?_ | (with_reducible refine Below.setCell ?_ (by (show _ ≤ _; repeat (first | exact Nat.le_refl _ | assumption | (omega; done) | with_reducible exact le_past (Nat.le_refl _) | with_reducible refine le_past ?_ | with_reducible refine le_al ?_ | with_reducible refine le_set ?_ | with_reducible refine le_p1 ?_))) _)))))) ?_; rintro _ ygb2 ⟨rfl, gb2⟩; have gb2v := bel_trans (V := W7) (by (repeat (first | assumption | exact Below.refl _ _ | with_reducible refine past_t _ ?_ | with_reducible refine below_a _ ?_ | with_reducible refine Below.drew ?_ | with_reducible refine below_d _ ?_ | (with_reducible refine Below.setCell ?_ (by (show _ ≤ _; repeat (first | exact Nat.le_refl _ | assumption | (omega; done) | with_reducible exact le_past (Nat.le_refl _) | with_reducible refine le_past ?_ | with_reducible refine le_al ?_ | with_reducible refine le_set ?_ | with_reducible refine le_p1 ?_))) _)))) gb2) | (go_at_call 41; (fail_if_success (clear gb3v)); refine Calls.mono (lOfL [1, 3, 4, 4] (by rfl) (by rfl) (by rfl) (by decide)) ?_; rintro _ z2 ⟨D2, f2, rfl, go2, gb3⟩; rw [k_o2] at go2; have gb3v := bel_trans (V := W7) (by (repeat (first | assumption | exact Below.refl _ _ | with_reducible refine past_t _ ?_ | with_reducible refine below_a _ ?_ | with_reducible refine Below.drew ?_ | with_reducible refine below_d _ ?_ | (with_reducible refine Below.setCell ?_ (by (show _ ≤ _; repeat (first | exact Nat.le_refl _ | assumption | (omega; done) | with_reducible exact le_past (Nat.le_refl _) | with_reducible refine le_past ?_ | with_reducible refine le_al ?_ | with_reducible refine le_set ?_ | with_reducible refine le_p1 ?_))) _)))) gb3) | (go_at_call 20; (fail_if_success (clear gb4v)); refine Calls.mono (kSameMat (M4.out.keep (by (repeat (first | assumption | exact Below.refl _ _ | with_reducible refine past_t _ ?_ | with_reducible refine below_a _ ?_ | with_reducible refine Below.drew ?_ | with_reducible refine below_d _ ?_ | (with_reducible refine Below.setCell ?_ (by (show _ ≤ _; repeat (first | exact Nat.le_refl _ | assumption | (omega; done) | with_reducible exact le_past (Nat.le_refl _) | with_reducible refine le_past ?_ | with_reducible refine le_al ?_ | with_reducible refine le_set ?_ | with_reducible refine le_p1 ?_))) _))))) (go2.rs.keep (by (repeat (first | assumption | exact Below.refl _ _ | with_reducible refine past_t _ ?_ | with_reducible refine below_a _ ?_ | with_reducible refine Below.drew ?_ | with_reducible refine below_d _ ?_ | (with_reducible refine Below.setCell ?_ (by (show _ ≤ _; repeat (first | exact Nat.le_refl _ | assumption | (omega; done) | with_reducible exact le_past (Nat.le_refl _) | with_reducible refine le_past ?_ | with_reducible refine le_al ?_ | with_reducible refine le_set ?_ | with_reducible refine le_p1 ?_))) _)))))) ?_; rintro _ ygb4 ⟨rfl, gb4⟩; have gb4v := bel_trans (V := W7) (by (repeat (first | assumption | exact Below.refl _ _ | with_reducible refine past_t _ ?_ | with_reducible refine below_a _ ?_ | with_reducible refine Below.drew ?_ | with_reducible refine below_d _ ?_ | (with_reducible refine Below.setCell ?_ (by (show _ ≤ _; repeat (first | exact Nat.le_refl _ | assumption | (omega; done) | with_reducible exact le_past (Nat.le_refl _) | with_reducible refine le_past ?_ | with_reducible refine le_al ?_ | with_reducible refine le_set ?_ | with_reducible refine le_p1 ?_))) _)))) gb4) | (go_at_call 41; (fail_if_success (clear gb5v)); refine Calls.mono (lOfL [1, 0, 0, 1] (by rfl) (by rfl) (by rfl) (by decide)) ?_; rintro _ z3 ⟨D3, f3, rfl, go3, gb5⟩; rw [k_o3] at go3; have gb5v := bel_trans (V := W7) (by (repeat (first | assumption | exact Below.refl _ _ | with_reducible refine past_t _ ?_ | with_reducible refine below_a _ ?_ | with_reducible refine Below.drew ?_ | with_reducible refine below_d _ ?_ | (with_reducible refine Below.setCell ?_ (by (show _ ≤ _; repeat (first | exact Nat.le_refl _ | assumption | (omega; done) | with_reducible exact le_past (Nat.le_refl _) | with_reducible refine le_past ?_ | with_reducible refine le_al ?_ | with_reducible refine le_set ?_ | with_reducible refine le_p1 ?_))) _)))) gb5) | (go_at_call 20; (fail_if_success (clear gb6v)); refine Calls.mono (kSameMat (M5.out.keep (by (repeat (first | assumption | exact Below.refl _ _ | with_reducible refine past_t _ ?_ | with_reducible refine below_a _ ?_ | with_reducible refine Below.drew ?_ | with_reducible refine below_d _ ?_ | (with_reducible refine Below.setCell ?_ (by (show _ ≤ _; repeat (first | exact Nat.le_refl _ | assumption | (omega; done) | with_reducible exact le_past (Nat.le_refl _) | with_reducible refine le_past ?_ | with_reducible refine le_al ?_ | with_reducible refine le_set ?_ | with_reducible refine le_p1 ?_))) _))))) (go3.rs.keep (by (repeat (first | assumption | exact Below.refl _ _ | with_reducible refine past_t _ ?_ | with_reducible refine below_a _ ?_ | with_reducible refine Below.drew ?_ | with_reducible refine below_d _ ?_ | (with_reducible refine Below.setCell ?_ (by (show _ ≤ _; repeat (first | exact Nat.le_refl _ | assumption | (omega; done) | with_reducible exact le_past (Nat.le_refl _) | with_reducible refine le_past ?_ | with_reducible refine le_al ?_ | with_reducible refine le_set ?_ | with_reducible refine le_p1 ?_))) _)))))) ?_; rintro _ ygb6 ⟨rfl, gb6⟩; have gb6v := bel_trans (V := W7) (by (repeat (first | assumption | exact Below.refl _ _ | with_reducible refine past_t _ ?_ | with_reducible refine below_a _ ?_ | with_reducible refine Below.drew ?_ | with_reducible refine below_d _ ?_ | (with_reducible refine Below.setCell ?_ (by (show _ ≤ _; repeat (first | exact Nat.le_refl _ | assumption | (omega; done) | with_reducible exact le_past (Nat.le_refl _) | with_reducible refine le_past ?_ | with_reducible refine le_al ?_ | with_reducible refine le_set ?_ | with_reducible refine le_p1 ?_))) _)))) gb6) | (go_at_call 21; (fail_if_success (clear gb7v)); refine Calls.mono (iSameT (M6.out.keep (by (repeat (first | assumption | exact Below.refl _ _ | with_reducible refine past_t _ ?_ | with_reducible refine below_a _ ?_ | with_reducible refine Below.drew ?_ | with_reducible refine below_d _ ?_ | (with_reducible refine Below.setCell ?_ (by (show _ ≤ _; repeat (first | exact Nat.le_refl _ | assumption | (omega; done) | with_reducible exact le_past (Nat.le_refl _) | with_reducible refine le_past ?_ | with_reducible refine le_al ?_ | with_reducible refine le_set ?_ | with_reducible refine le_p1 ?_))) _))))) (RS.lit .i64 _ [5, 0, 0, 6] _ _ (by rfl) 4 (by rfl) (by omega) 4 (by rfl) _ (by rfl))) ?_; rintro _ ygb7 ⟨rfl, gb7⟩; have gb7v := bel_trans (V := W7) (by (repeat (first | assumption | exact Below.refl _ _ | with_reducible refine past_t _ ?_ | with_reducible refine below_a _ ?_ | with_reducible refine Below.drew ?_ | with_reducible refine below_d _ ?_ | (with_reducible refine Below.setCell ?_ (by (show _ ≤ _; repeat (first | exact Nat.le_refl _ | assumption | (omega; done) | with_reducible exact le_past (Nat.le_refl _) | with_reducible refine le_past ?_ | with_reducible refine le_al ?_ | with_reducible refine le_set ?_ | with_reducible refine le_p1 ?_))) _)))) gb7)))
  go_upto_region 10 with fail
  obtain ⟨hU, hB, m1, m7, m8, v1, v8⟩ := FS.out
  clear FS KS M3 M4 M5 M6
  refine wp_gen (fun W8 hW => ?_)
  have hs : Stp W8.heap.size W8.heap.size W7 W8 := by rw [hW]; exact Stp.bel (by (repeat (first | assumption | exact Below.refl _ _ | with_reducible refine past_t _ ?_ | with_reducible refine below_a _ ?_ | with_reducible refine Below.drew ?_ | with_reducible refine below_d _ ?_ | (with_reducible refine Below.setCell ?_ (by (show _ ≤ _; repeat (first | exact Nat.le_refl _ | assumption | (omega; done) | with_reducible exact le_past (Nat.le_refl _) | with_reducible refine le_past ?_ | with_reducible refine le_al ?_ | with_reducible refine le_set ?_ | with_reducible refine le_p1 ?_))) _))))
  have hzW8 := hs.size
  replace hU := hU.stp hs (by omega) (by omega)
  replace hB := hs.below hB (by omega) (by omega)
  replace m1 := m1.stp hs (by omega) (by omega)
  replace m7 := m7.stp hs (by omega) (by omega)
  replace m8 := m8.stp hs (by omega) (by omega)
  replace v1 := v1.stp hs (by omega) (by omega)
  replace v8 := v8.stp hs (by omega) (by omega)
  clear hW hs
  have M7 := Lib.hid m7.1
  have M8 := Lib.hid m8.1
  have FS := Lib.hid (And.intro hU (And.intro hB (And.intro m1 v1)))
  have v8_0 := v8.c0
  have v8_1 := v8.c1
  have v8_2 := v8.c2
  clear hU hB m1 m7 m8 v1 v8
  go_upto_region 11 with (first | (go_at_call 41; (fail_if_success (clear gb8v)); refine Calls.mono (lOfL [3, 4] (by rfl) (by rfl) (by rfl) (by decide)) ?_; rintro _ z4 ⟨D4, f4, rfl, go4, gb8⟩; rw [k_o4] at go4; have gb8v := bel_trans (V := W8) (by (repeat (first | assumption | exact Below.refl _ _ | with_reducible refine past_t _ ?_ | with_reducible refine below_a _ ?_ | with_reducible refine Below.drew ?_ | with_reducible refine below_d _ ?_ | (with_reducible refine Below.setCell ?_ (by (show _ ≤ _; repeat (first | exact Nat.le_refl _ | assumption | (omega; done) | with_reducible exact le_past (Nat.le_refl _) | with_reducible refine le_past ?_ | with_reducible refine le_al ?_ | with_reducible refine le_set ?_ | with_reducible refine le_p1 ?_))) _)))) gb8) | (go_at_call 21; (fail_if_success (clear gb9v)); refine Calls.mono (iSameT (M7.out.keep (by (repeat (first | assumption | exact Below.refl _ _ | with_reducible refine past_t _ ?_ | with_reducible refine below_a _ ?_ | with_reducible refine Below.drew ?_ | with_reducible refine below_d _ ?_ | (with_reducible refine Below.setCell ?_ (by (show _ ≤ _; repeat (first | exact Nat.le_refl _ | assumption | (omega; done) | with_reducible exact le_past (Nat.le_refl _) | with_reducible refine le_past ?_ | with_reducible refine le_al ?_ | with_reducible refine le_set ?_ | with_reducible refine le_p1 ?_))) _))))) (go4.rs.keep (by (repeat (first | assumption | exact Below.refl _ _ | with_reducible refine past_t _ ?_ | with_reducible refine below_a _ ?_ | with_reducible refine Below.drew ?_ | with_reducible refine below_d _ ?_ | (with_reducible refine Below.setCell ?_ (by (show _ ≤ _; repeat (first | exact Nat.le_refl _ | assumption | (omega; done) | with_reducible exact le_past (Nat.le_refl _) | with_reducible refine le_past ?_ | with_reducible refine le_al ?_ | with_reducible refine le_set ?_ | with_reducible refine le_p1 ?_))) _)))))) ?_; rintro _ ygb9 ⟨rfl, gb9⟩; have gb9v := bel_trans (V := W8) (by (repeat (first | assumption | exact Below.refl _ _ | with_reducible refine past_t _ ?_ | with_reducible refine below_a _ ?_ | with_reducible refine Below.drew ?_ | with_reducible refine below_d _ ?_ | (with_reducible refine Below.setCell ?_ (by (show _ ≤ _; repeat (first | exact Nat.le_refl _ | assumption | (omega; done) | with_reducible exact le_past (Nat.le_refl _) | with_reducible refine le_past ?_ | with_reducible refine le_al ?_ | with_reducible refine le_set ?_ | with_reducible refine le_p1 ?_))) _)))) gb9; have v8y := cell_keep v8_2 gb9v) | (go_at_call 21; (fail_if_success (clear gb10v)); refine Calls.mono (iSameT (M8.out.keep (by (repeat (first | assumption | exact Below.refl _ _ | with_reducible refine past_t _ ?_ | with_reducible refine below_a _ ?_ | with_reducible refine Below.drew ?_ | with_reducible refine below_d _ ?_ | (with_reducible refine Below.setCell ?_ (by (show _ ≤ _; repeat (first | exact Nat.le_refl _ | assumption | (omega; done) | with_reducible exact le_past (Nat.le_refl _) | with_reducible refine le_past ?_ | with_reducible refine le_al ?_ | with_reducible refine le_set ?_ | with_reducible refine le_p1 ?_))) _))))) (RS.lit .i64 _ [2147483648, 4294967296, 6442450944, 8589934592] _ _ (by rfl) 4 (by rfl) (by omega) 4 (by rfl) _ (by rfl))) ?_; rintro _ ygb10 ⟨rfl, gb10⟩; have gb10v := bel_trans (V := W8) (by (repeat (first | assumption | exact Below.refl _ _ | with_reducible refine past_t _ ?_ | with_reducible refine below_a _ ?_ | with_reducible refine Below.drew ?_ | with_reducible refine below_d _ ?_ | (with_reducible refine Below.setCell ?_ (by (show _ ≤ _; repeat (first | exact Nat.le_refl _ | assumption | (omega; done) | with_reducible exact le_past (Nat.le_refl _) | with_reducible refine le_past ?_ | with_reducible refine le_al ?_ | with_reducible refine le_set ?_ | with_reducible refine le_p1 ?_))) _)))) gb10))
  clear v8_0 v8_1 v8_2
  obtain ⟨hU, hB, m1, v1⟩ := FS.out
  clear FS M7 M8
  refine wp_gen (fun W9 hW => ?_)
  have hs : Stp W9.heap.size W9.heap.size W8 W9 := by rw [hW]; exact Stp.bel (by (repeat (first | assumption | exact Below.refl _ _ | with_reducible refine past_t _ ?_ | with_reducible refine below_a _ ?_ | with_reducible refine Below.drew ?_ | with_reducible refine below_d _ ?_ | (with_reducible refine Below.setCell ?_ (by (show _ ≤ _; repeat (first | exact Nat.le_refl _ | assumption | (omega; done) | with_reducible exact le_past (Nat.le_refl _) | with_reducible refine le_past ?_ | with_reducible refine le_al ?_ | with_reducible refine le_set ?_ | with_reducible refine le_p1 ?_))) _))))
  have hzW9 := hs.size
  replace hU := hU.stp hs (by omega) (by omega)
  replace hB := hs.below hB (by omega) (by omega)
  replace m1 := m1.stp hs (by omega) (by omega)
  replace v1 := v1.stp hs (by omega) (by omega)
  clear hW hs
  have hc := xEye 0 W9
  rw [k_eye0] at hc
  have HC := Lib.hid hc
  clear hc
  go_upto_region 12 with ((go_at_call 26; refine HC.out.mono ?_; rintro e x11 ⟨A11, n11, c11, rfl, ho11, hb11⟩))
  have hs2 := hb11.size
  clear HC
  refine wp_gen (fun W10 hW => ?_)
  have hs : Stp W10.heap.size W10.heap.size W9 W10 := (Stp.bel hb11).trans (by rw [hW]; exact Stp.bel (by (repeat (first | assumption | exact Below.refl _ _ | with_reducible refine past_t _ ?_ | with_reducible refine below_a _ ?_ | with_reducible refine Below.drew ?_ | with_reducible refine below_d _ ?_ | (with_reducible refine Below.setCell ?_ (by (show _ ≤ _; repeat (first | exact Nat.le_refl _ | assumption | (omega; done) | with_reducible exact le_past (Nat.le_refl _) | with_reducible refine le_past ?_ | with_reducible refine le_al ?_ | with_reducible refine le_set ?_ | with_reducible refine le_p1 ?_))) _)))))
  have hzW10 := hs.size
  replace hU := hU.stp hs (by omega) (by omega)
  replace hB := hs.below hB (by omega) (by omega)
  replace m1 := m1.stp hs (by omega) (by omega)
  replace v1 := v1.stp hs (by omega) (by omega)
  have b3 : Below x11.heap.size x11 W10 := by rw [hW]; (repeat (first | assumption | exact Below.refl _ _ | with_reducible refine past_t _ ?_ | with_reducible refine below_a _ ?_ | with_reducible refine Below.drew ?_ | with_reducible refine below_d _ ?_ | (with_reducible refine Below.setCell ?_ (by (show _ ≤ _; repeat (first | exact Nat.le_refl _ | assumption | (omega; done) | with_reducible exact le_past (Nat.le_refl _) | with_reducible refine le_past ?_ | with_reducible refine le_al ?_ | with_reducible refine le_set ?_ | with_reducible refine le_p1 ?_))) _)))
  have z_x11 : W9.heap.size ≤ x11.heap.size := hs2
  have m11 := (own_ri ho11).keep b3
  have v11 : Bx W10 x11.heap.size 0 0 (.slice A11 n11 c11) := by rw [hW]; exact ⟨by (first | (simp [go_sem]; done) | (simp [go_sem, ↓IntWalk.iteOmega]; done)), by (first | (simp [go_sem]; done) | (simp [go_sem, ↓IntWalk.iteOmega]; done)), by (first | (simp [go_sem]; done) | (simp [go_sem, ↓IntWalk.iteOmega]; done))⟩
  have y_v11 := World.block_lt_of_cell? _ _ v11.c0
  clear hW b3 hs hs2 ho11 hb11
  generalize x11.heap.size = k11 at *
  simp only at y_v11
  have hc := xRow (R := 2) (C := 2) (i := 2) m1.1
  rw [k_row2] at hc
  have HC := Lib.hid hc
  clear hc
  have v1_0 := v1.c0
  have v1_1 := v1.c1
  have v1_2 := v1.c2
  go_upto_region 13 with ((go_at_call 31; refine HC.out.mono ?_; rintro e x12 ⟨A12, n12, c12, rfl, ho12, hb12⟩))
  have hs2 := hb12.size
  clear HC
  clear v1_0 v1_1 v1_2
  refine wp_gen (fun W11 hW => ?_)
  have hs : Stp W11.heap.size W11.heap.size W10 W11 := (Stp.bel hb12).trans (by rw [hW]; exact Stp.bel (by (repeat (first | assumption | exact Below.refl _ _ | with_reducible refine past_t _ ?_ | with_reducible refine below_a _ ?_ | with_reducible refine Below.drew ?_ | with_reducible refine below_d _ ?_ | (with_reducible refine Below.setCell ?_ (by (show _ ≤ _; repeat (first | exact Nat.le_refl _ | assumption | (omega; done) | with_reducible exact le_past (Nat.le_refl _) | with_reducible refine le_past ?_ | with_reducible refine le_al ?_ | with_reducible refine le_set ?_ | with_reducible refine le_p1 ?_))) _)))))
  have hzW11 := hs.size
  replace hU := hU.stp hs (by omega) (by omega)
  replace hB := hs.below hB (by omega) (by omega)
  replace m1 := m1.stp hs (by omega) (by omega)
  replace v1 := v1.stp hs (by omega) (by omega)
  replace m11 := m11.stp hs (by omega) (by omega)
  replace v11 := v11.stp hs (by omega) (by omega)
  have b3 : Below x12.heap.size x12 W11 := by rw [hW]; (repeat (first | assumption | exact Below.refl _ _ | with_reducible refine past_t _ ?_ | with_reducible refine below_a _ ?_ | with_reducible refine Below.drew ?_ | with_reducible refine below_d _ ?_ | (with_reducible refine Below.setCell ?_ (by (show _ ≤ _; repeat (first | exact Nat.le_refl _ | assumption | (omega; done) | with_reducible exact le_past (Nat.le_refl _) | with_reducible refine le_past ?_ | with_reducible refine le_al ?_ | with_reducible refine le_set ?_ | with_reducible refine le_p1 ?_))) _)))
  have z_x12 : W10.heap.size ≤ x12.heap.size := hs2
  have m12 := (own_ri ho12).keep b3
  have y_x12 := b3.size
  clear hW b3 hs hs2 ho12 hb12
  have hc := xEye 3 W11
  rw [k_eye3] at hc
  have HC := Lib.hid hc
  clear hc
  go_upto_region 14 with ((go_at_call 26; refine HC.out.mono ?_; rintro e x13 ⟨A13, n13, c13, rfl, ho13, hb13⟩))
  have hs2 := hb13.size
  clear HC
  refine wp_gen (fun W12 hW => ?_)
  have hs : Stp W12.heap.size W12.heap.size W11 W12 := (Stp.bel hb13).trans (by rw [hW]; exact Stp.bel (by (repeat (first | assumption | exact Below.refl _ _ | with_reducible refine past_t _ ?_ | with_reducible refine below_a _ ?_ | with_reducible refine Below.drew ?_ | with_reducible refine below_d _ ?_ | (with_reducible refine Below.setCell ?_ (by (show _ ≤ _; repeat (first | exact Nat.le_refl _ | assumption | (omega; done) | with_reducible exact le_past (Nat.le_refl _) | with_reducible refine le_past ?_ | with_reducible refine le_al ?_ | with_reducible refine le_set ?_ | with_reducible refine le_p1 ?_))) _)))))
  have hzW12 := hs.size
  replace hU := hU.stp hs (by omega) (by omega)
  replace hB := hs.below hB (by omega) (by omega)
  replace m1 := m1.stp hs (by omega) (by omega)
  replace v1 := v1.stp hs (by omega) (by omega)
  replace m11 := m11.stp hs (by omega) (by omega)
  replace v11 := v11.stp hs (by omega) (by omega)
  replace m12 := m12.stp hs (by omega) (by omega)
  have b3 : Below x13.heap.size x13 W12 := by rw [hW]; (repeat (first | assumption | exact Below.refl _ _ | with_reducible refine past_t _ ?_ | with_reducible refine below_a _ ?_ | with_reducible refine Below.drew ?_ | with_reducible refine below_d _ ?_ | (with_reducible refine Below.setCell ?_ (by (show _ ≤ _; repeat (first | exact Nat.le_refl _ | assumption | (omega; done) | with_reducible exact le_past (Nat.le_refl _) | with_reducible refine le_past ?_ | with_reducible refine le_al ?_ | with_reducible refine le_set ?_ | with_reducible refine le_p1 ?_))) _)))
  have z_x13 : W11.heap.size ≤ x13.heap.size := hs2
  have m13 := (own_ri ho13).keep b3
  have v13 : Bx W12 x13.heap.size 3 3 (.slice A13 n13 c13) := by rw [hW]; exact ⟨by (first | (simp [go_sem]; done) | (simp [go_sem, ↓IntWalk.iteOmega]; done)), by (first | (simp [go_sem]; done) | (simp [go_sem, ↓IntWalk.iteOmega]; done)), by (first | (simp [go_sem]; done) | (simp [go_sem, ↓IntWalk.iteOmega]; done))⟩
  have y_v13 := World.block_lt_of_cell? _ _ v13.c0
  clear hW b3 hs hs2 ho13 hb13
  generalize x13.heap.size = k13 at *
  simp only at y_v13
  have hc := xMul hU (by omega) (R1 := 2) (C1 := 2) m1.1 (m1.fr (by omega)) (allI_of (by decide)) (R2 := 3) (C2 := 3) m13.1 (m13.fr (by omega)) (allI_of (by decide))
  rw [k_mul3] at hc
  have HC := Lib.hid hc
  clear hc
  have v1_0 := v1.c0
  have v1_1 := v1.c1
  have v1_2 := v1.c2
  have v13_0 := v13.c0
  have v13_1 := v13.c1
  have v13_2 := v13.c2
  go_upto_region 15 with ((go_at_call 16; refine HC.out.mono ?_; rintro e x14 ⟨A14, n14, c14, rfl, ho14, hb14⟩))
  clear HC
  have hs2 : W12.heap.size ≤ x14.heap.size := by have := hb14.size; rwa [put_size] at this
  have u3 := (hU.put false 24).keep (by rw [put_size]; exact hb14)
  clear v1_0 v1_1 v1_2
  clear v13_0 v13_1 v13_2
  refine wp_gen (fun W13 hW => ?_)
  have hs : Stp w.heap.size w.heap.size W12 W13 := (Stp.put1 hb14).trans (by rw [hW]; exact Stp.bel (by (repeat (first | assumption | exact Below.refl _ _ | with_reducible refine past_t _ ?_ | with_reducible refine below_a _ ?_ | with_reducible refine Below.drew ?_ | with_reducible refine below_d _ ?_ | (with_reducible refine Below.setCell ?_ (by (show _ ≤ _; repeat (first | exact Nat.le_refl _ | assumption | (omega; done) | with_reducible exact le_past (Nat.le_refl _) | with_reducible refine le_past ?_ | with_reducible refine le_al ?_ | with_reducible refine le_set ?_ | with_reducible refine le_p1 ?_))) _)))))
  have hzW13 := hs.size
  replace hB := hs.below hB (by omega) (by omega)
  replace m1 := m1.stp hs (by omega) (by omega)
  replace v1 := v1.stp hs (by omega) (by omega)
  replace m11 := m11.stp hs (by omega) (by omega)
  replace v11 := v11.stp hs (by omega) (by omega)
  replace m12 := m12.stp hs (by omega) (by omega)
  replace m13 := m13.stp hs (by omega) (by omega)
  replace v13 := v13.stp hs (by omega) (by omega)
  replace hU := u3.keep (by rw [hW]; (repeat (first | assumption | exact Below.refl _ _ | with_reducible refine past_t _ ?_ | with_reducible refine below_a _ ?_ | with_reducible refine Below.drew ?_ | with_reducible refine below_d _ ?_ | (with_reducible refine Below.setCell ?_ (by (show _ ≤ _; repeat (first | exact Nat.le_refl _ | assumption | (omega; done) | with_reducible exact le_past (Nat.le_refl _) | with_reducible refine le_past ?_ | with_reducible refine le_al ?_ | with_reducible refine le_set ?_ | with_reducible refine le_p1 ?_))) _))) : Below x14.heap.size x14 W13)
  clear u3
  have b3 : Below x14.heap.size x14 W13 := by rw [hW]; (repeat (first | assumption | exact Below.refl _ _ | with_reducible refine past_t _ ?_ | with_reducible refine below_a _ ?_ | with_reducible refine Below.drew ?_ | with_reducible refine below_d _ ?_ | (with_reducible refine Below.setCell ?_ (by (show _ ≤ _; repeat (first | exact Nat.le_refl _ | assumption | (omega; done) | with_reducible exact le_past (Nat.le_refl _) | with_reducible refine le_past ?_ | with_reducible refine le_al ?_ | with_reducible refine le_set ?_ | with_reducible refine le_p1 ?_))) _)))
  have z_x14 : W12.heap.size ≤ x14.heap.size := hs2
  have m14 := (own_ri ho14).keep b3
  have v14 : Bx W13 x14.heap.size 0 0 (.slice A14 n14 c14) := by rw [hW]; exact ⟨by (first | (simp [go_sem]; done) | (simp [go_sem, ↓IntWalk.iteOmega]; done)), by (first | (simp [go_sem]; done) | (simp [go_sem, ↓IntWalk.iteOmega]; done)), by (first | (simp [go_sem]; done) | (simp [go_sem, ↓IntWalk.iteOmega]; done))⟩
  have y_v14 := World.block_lt_of_cell? _ _ v14.c0
  clear hW b3 hs hs2 ho14 hb14
  generalize x14.heap.size = k14 at *
  simp only at y_v14
  have HN : ∀ W, Calls Try.prog 16 #[.pointer none, .agg #[.int .i64 2, .int .i64 2, .slice A1 4 c1], .agg #[.int .i64 2, .int .i64 2, .slice A1 4 c1]] W fun e w' => e = .returned (.tuple #[M0, .int .i64 1]) ∧ Below W.heap.size W w' := fun W => mMulN (.inl rfl)
  have hchk : ∀ A c W, Calls Try.prog 25 #[.agg #[.int .i64 2, .int .i64 2, .slice A 3 c]] W fun e w' => e = .returned (.int .i64 3) ∧ Below W.heap.size W w' := fun A c W => by have := mCheck 2 2 A 3 c W; rwa [k_chk] at this
  have HB := Lib.hid hB
  have v1_0 := v1.c0
  have v1_1 := v1.c1
  have v1_2 := v1.c2
  clear hU hB m1 v1 m11 m12 m13 m14 v11 v13 v14
  go_wp2_with (first | (go_at_call 16; first | (with_reducible refine Calls_past2 (HN _) (fun z => ?_)) | (with_reducible refine Calls_past (HN _) (fun z => ?_))) | (go_at_call 25; first | (with_reducible refine Calls_past2 (hchk _ _ _) (fun z => ?_)) | (with_reducible refine Calls_past (hchk _ _ _) (fun z => ?_))) | (go_at_call 13; first | (with_reducible refine Calls_past2 (haw _) (fun z => ?_)) | (with_reducible refine Calls_past (haw _) (fun z => ?_))))
  go_ret
  exact ⟨rfl, bel_trans HB.out (by (repeat (first | assumption | exact Below.refl _ _ | with_reducible refine past_t _ ?_ | with_reducible refine below_a _ ?_ | with_reducible refine Below.drew ?_ | with_reducible refine below_d _ ?_ | (with_reducible refine Below.setCell ?_ (by (show _ ≤ _; repeat (first | exact Nat.le_refl _ | assumption | (omega; done) | with_reducible exact le_past (Nat.le_refl _) | with_reducible refine le_past ?_ | with_reducible refine le_al ?_ | with_reducible refine le_set ?_ | with_reducible refine le_p1 ?_))) _))))⟩
end Go.Proofs.Ytlhadociaekkhaa
