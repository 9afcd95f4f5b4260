/- Which matrices are made, turned, which rows they have, is the document's answer; what is handed in stays. -/
import Derived.Test.YtlhadociaekkhaaQF
import Derived.Deep.DeepCutAuto
import Derived.Deep.LoopGhost
import Derived.Deep.RegionWith
import Derived.WalkKit
import Derived.ProofKit
import Derived.OpenShut
import Derived.ShutString
import Derived.ChangeOld
import Derived.Below
import Derived.Lib.SmallJoins
set_option linter.unusedSimpArgs false
set_option linter.unusedVariables false
namespace Go.Proofs.Ytlhadociaekkhaa.matShapes
open Go.ChangeShapes Go.WideShapes Go.ChangeAt Go.RowKit
open Go.ChangeMaps (open_string shut_string)
open Go.Joins
set_option linter.unusedVariables false
theorem own : ownKnob Try.prog.godebug = none := by kernel_rfl
theorem laidOut : laidOutB Try.prog = true := by kernel_rfl
def IsRow (k : IntKind) (w : World) (a : Option Addr) (len cap : Nat) (zs : List Int) : Prop :=
  (a = none ∧ len = 0 ∧ cap = 0 ∧ zs = []) ∨
  ∃ x, a = some x ∧ len ≤ cap ∧ cap ≤ maxLen ∧ zs.length = cap ∧ (∀ i, i < zs.length → w.cell? (x.add i) = some (.int k (zs.getD i 0))) ∧ ∀ n ∈ zs, (Lit.int k n).wf = true
set_option maxHeartbeats 8000000 in
set_option maxRecDepth 100000 in
theorem walk (w : World) (m : MatX) (w0 : m.ok w) (l : Option Addr) (lenl capl : Nat) (zl : List Int) (w1 : IsRow .i64 w l lenl capl zl) (n : Int) (w2 : (Lit.int .i64 n).wf = true) : -- the walk
    Calls Try.prog 5 #[m.val, .slice l lenl capl, .int .i64 n] w fun e w' => e = .returned (.bool true) ∧ Below w.heap.size w w' := by
  have haw := lAwake7
  obtain ⟨L, rfl, hcapL, hiL, hrL⟩ := RL_of w1
  have htL : capl ≤ 9223372036854775807 := by rcases w1 with ⟨_, _, e, _⟩ | ⟨_, _, _, e, _⟩ <;> (first | omega | (unfold maxLen at e; exact e))
  clear w1
  have rsL := hrL.rs hcapL htL
  by_cases hbig1 : 160 < m.V.length
  · have hlong := fun W => lLong (R := m.R) (C := m.C) (A := m.A) (n := m.V.length) (c := m.c) W
    rw [decide_eq_true (by omega : (160 : Int) < (m.V.length : Int))] at hlong
    go_enter Try.func5, Try.ntmps5
    go_wp2_with (first | (go_at_call 12; first | (with_reducible refine Calls_past2 (hlong _) (fun z => ?_)) | (with_reducible refine Calls_past (hlong _) (fun z => ?_))) | (go_at_call 13; first | (with_reducible refine Calls_past2 (haw _) (fun z => ?_)) | (with_reducible refine Calls_past (haw _) (fun z => ?_))))
    go_ret
    exact ⟨rfl, by (repeat (first | assumption | exact Below.refl _ _ | with_reducible refine past_t _ ?_ | with_reducible refine below_a _ ?_ | with_reducible refine Below.drew ?_ | with_reducible refine below_d _ ?_ | (with_reducible refine Below.setCell ?_ (by (show _ ≤ _; repeat (first | exact Nat.le_refl _ | assumption | (omega; done) | with_reducible exact le_past (Nat.le_refl _) | with_reducible refine le_past ?_ | with_reducible refine le_al ?_ | with_reducible refine le_set ?_ | with_reducible refine le_p1 ?_))) _)))⟩
  have hlong := fun W => lLong (R := m.R) (C := m.C) (A := m.A) (n := m.V.length) (c := m.c) W
  rw [decide_eq_false (by omega : ¬(160 : Int) < (m.V.length : Int))] at hlong
  by_cases hbig2 : 40 < L.length
  · have d2 : decide ((40 : Int) < (L.length : Int)) = true := by simp; omega
    go_enter Try.func5, Try.ntmps5
    go_wp2_with (first | (go_at_call 12; first | (with_reducible refine Calls_past2 (hlong _) (fun z => ?_)) | (with_reducible refine Calls_past (hlong _) (fun z => ?_))) | (go_at_call 13; first | (with_reducible refine Calls_past2 (haw _) (fun z => ?_)) | (with_reducible refine Calls_past (haw _) (fun z => ?_))))
    go_ret
    exact ⟨rfl, by (repeat (first | assumption | exact Below.refl _ _ | with_reducible refine past_t _ ?_ | with_reducible refine below_a _ ?_ | with_reducible refine Below.drew ?_ | with_reducible refine below_d _ ?_ | (with_reducible refine Below.setCell ?_ (by (show _ ≤ _; repeat (first | exact Nat.le_refl _ | assumption | (omega; done) | with_reducible exact le_past (Nat.le_refl _) | with_reducible refine le_past ?_ | with_reducible refine le_al ?_ | with_reducible refine le_set ?_ | with_reducible refine le_p1 ?_))) _)))⟩
  have d2 : decide ((40 : Int) < (L.length : Int)) = false := by simp; omega
  go_enter Try.func5, Try.ntmps5
  go_upto_region 3 with ((go_at_call 12; first | (with_reducible refine Calls_past2 (hlong _) (fun z => ?_)) | (with_reducible refine Calls_past (hlong _) (fun z => ?_))))
  refine wp_gen (fun W0 hW => ?_)
  have hB : Below w.heap.size w W0 := by rw [hW]; (repeat (first | assumption | exact Below.refl _ _ | with_reducible refine past_t _ ?_ | with_reducible refine below_a _ ?_ | with_reducible refine Below.drew ?_ | with_reducible refine below_d _ ?_ | (with_reducible refine Below.setCell ?_ (by (show _ ≤ _; repeat (first | exact Nat.le_refl _ | assumption | (omega; done) | with_reducible exact le_past (Nat.le_refl _) | with_reducible refine le_past ?_ | with_reducible refine le_al ?_ | with_reducible refine le_set ?_ | with_reducible refine le_p1 ?_))) _)))
  have v0 : Bx W0 w.heap.size m.R m.C (.slice m.A m.V.length m.c) := by rw [hW]; exact ⟨by (first | (simp [go_sem]; done) | (simp [go_sem, ↓IntWalk.iteOmega]; done)), by (first | (simp [go_sem]; done) | (simp [go_sem, ↓IntWalk.iteOmega]; done)), by (first | (simp [go_sem]; done) | (simp [go_sem, ↓IntWalk.iteOmega]; done))⟩
  have im := iis_of w0.rs hB
  have il := iis_of rsL hB
  have hz0 := World.block_lt_of_cell? _ _ v0.c0
  simp only at hz0
  clear hW hlong
  have IM := Lib.hid im
  have IL := Lib.hid il
  have v0_0 := v0.c0
  have v0_1 := v0.c1
  have v0_2 := v0.c2
  go_upto_region 4 with (first | (go_at_call 14; refine (kCopyMat IM.out.1 (by omega)).mono ?_; rintro e x1 ⟨A1, c1, rfl, ho1, hb1⟩) | (go_at_call 15; refine (iCopy (IL.out.1.keep hb1) (by omega)).mono ?_; rintro e x2 ⟨A2, c2, rfl, ho2, hb2⟩))
  have z1 := hb1.size
  have z2 := hb2.size
  have l1 := (own_ri ho1).keep hb2
  have l2 := own_ri ho2
  clear IM IL
  clear v0_0 v0_1 v0_2
  refine wp_gen (fun W1 hW => ?_)
  have hs : Stp W1.heap.size W1.heap.size W0 W1 := (Stp.bel hb1).trans ((Stp.bel hb2).trans (by rw [hW]; exact Stp.bel (by (repeat (first | assumption | exact Below.refl _ _ | with_reducible refine past_t _ ?_ | with_reducible refine below_a _ ?_ | with_reducible refine Below.drew ?_ | with_reducible refine below_d _ ?_ | (with_reducible refine Below.setCell ?_ (by (show _ ≤ _; repeat (first | exact Nat.le_refl _ | assumption | (omega; done) | with_reducible exact le_past (Nat.le_refl _) | with_reducible refine le_past ?_ | with_reducible refine le_al ?_ | with_reducible refine le_set ?_ | with_reducible refine le_p1 ?_))) _))))))
  have hzW1 := hs.size
  replace hB := hs.below hB (by omega) (by omega)
  replace v0 := v0.stp hs (by omega) (by omega)
  replace im := im.stp hs (by omega) (by omega)
  replace il := il.stp hs (by omega) (by omega)
  have b3 : Below x2.heap.size x2 W1 := by rw [hW]; (repeat (first | assumption | exact Below.refl _ _ | with_reducible refine past_t _ ?_ | with_reducible refine below_a _ ?_ | with_reducible refine Below.drew ?_ | with_reducible refine below_d _ ?_ | (with_reducible refine Below.setCell ?_ (by (show _ ≤ _; repeat (first | exact Nat.le_refl _ | assumption | (omega; done) | with_reducible exact le_past (Nat.le_refl _) | with_reducible refine le_past ?_ | with_reducible refine le_al ?_ | with_reducible refine le_set ?_ | with_reducible refine le_p1 ?_))) _)))
  have m1 := l1.keep b3
  have m2 := l2.keep b3
  have v1 : Bx W1 x2.heap.size m.R m.C (.slice A1 m.V.length c1) := by rw [hW]; exact ⟨by (first | (simp [go_sem]; done) | (simp [go_sem, ↓IntWalk.iteOmega]; done)), by (first | (simp [go_sem]; done) | (simp [go_sem, ↓IntWalk.iteOmega]; done)), by (first | (simp [go_sem]; done) | (simp [go_sem, ↓IntWalk.iteOmega]; done))⟩
  have y1 := World.block_lt_of_cell? _ _ v1.c0
  clear hW b3 hs l1 l2 ho1 ho2 hb1 hb2
  generalize x2.heap.size = kk at *
  simp only at y1
  obtain ⟨⟨R3, C3, L3, e3⟩, hP3⟩ : ∃ P, eyeR n = P := ⟨_, rfl⟩
  obtain ⟨⟨R5, C5, L5, e5⟩, hP5⟩ : ∃ P, diagR L = P := ⟨_, rfl⟩
  obtain ⟨⟨R7, C7, L7, e7⟩, hP7⟩ : ∃ P, turnR m.R m.C m.V = P := ⟨_, rfl⟩
  obtain ⟨⟨L9, e9⟩, hP9⟩ : ∃ P, rowR m.R m.C m.V n = P := ⟨_, rfl⟩
  have hc := xEye n W1
  rw [hP3] at hc
  have HC := Lib.hid hc
  clear hc
  go_upto_region 5 with ((go_at_call 26; refine HC.out.mono ?_; rintro e x3 ⟨A3, n3, c3, rfl, ho3, hb3⟩))
  have hs2 := hb3.size
  clear HC
  refine wp_gen (fun W2 hW => ?_)
  have hs : Stp W2.heap.size W2.heap.size W1 W2 := (Stp.bel hb3).trans (by rw [hW]; exact Stp.bel (by (repeat (first | assumption | exact Below.refl _ _ | with_reducible refine past_t _ ?_ | with_reducible refine below_a _ ?_ | with_reducible refine Below.drew ?_ | with_reducible refine below_d _ ?_ | (with_reducible refine Below.setCell ?_ (by (show _ ≤ _; repeat (first | exact Nat.le_refl _ | assumption | (omega; done) | with_reducible exact le_past (Nat.le_refl _) | with_reducible refine le_past ?_ | with_reducible refine le_al ?_ | with_reducible refine le_set ?_ | with_reducible refine le_p1 ?_))) _)))))
  have hzW2 := hs.size
  replace hB := hs.below hB (by omega) (by omega)
  replace v0 := v0.stp hs (by omega) (by omega)
  replace im := im.stp hs (by omega) (by omega)
  replace il := il.stp hs (by omega) (by omega)
  replace m1 := m1.stp hs (by omega) (by omega)
  replace m2 := m2.stp hs (by omega) (by omega)
  replace v1 := v1.stp hs (by omega) (by omega)
  have b3 : Below x3.heap.size x3 W2 := by rw [hW]; (repeat (first | assumption | exact Below.refl _ _ | with_reducible refine past_t _ ?_ | with_reducible refine below_a _ ?_ | with_reducible refine Below.drew ?_ | with_reducible refine below_d _ ?_ | (with_reducible refine Below.setCell ?_ (by (show _ ≤ _; repeat (first | exact Nat.le_refl _ | assumption | (omega; done) | with_reducible exact le_past (Nat.le_refl _) | with_reducible refine le_past ?_ | with_reducible refine le_al ?_ | with_reducible refine le_set ?_ | with_reducible refine le_p1 ?_))) _)))
  have z_x3 : W1.heap.size ≤ x3.heap.size := hs2
  have m3 := (own_ri ho3).keep b3
  have v3 : Bx W2 x3.heap.size R3 C3 (.slice A3 n3 c3) := by rw [hW]; exact ⟨by (first | (simp [go_sem]; done) | (simp [go_sem, ↓IntWalk.iteOmega]; done)), by (first | (simp [go_sem]; done) | (simp [go_sem, ↓IntWalk.iteOmega]; done)), by (first | (simp [go_sem]; done) | (simp [go_sem, ↓IntWalk.iteOmega]; done))⟩
  have y_v3 := World.block_lt_of_cell? _ _ v3.c0
  clear hW b3 hs hs2 ho3 hb3
  generalize x3.heap.size = k3 at *
  simp only at y_v3
  have hc := yEye n W2
  rw [hP3] at hc
  have HC := Lib.hid hc
  clear hc
  go_upto_region 6 with ((go_at_call 27; refine HC.out.mono ?_; rintro e x4 ⟨A4, n4, c4, rfl, ho4, hb4⟩))
  have hs2 := hb4.size
  clear HC
  refine wp_gen (fun W3 hW => ?_)
  have hs : Stp W3.heap.size W3.heap.size W2 W3 := (Stp.bel hb4).trans (by rw [hW]; exact Stp.bel (by (repeat (first | assumption | exact Below.refl _ _ | with_reducible refine past_t _ ?_ | with_reducible refine below_a _ ?_ | with_reducible refine Below.drew ?_ | with_reducible refine below_d _ ?_ | (with_reducible refine Below.setCell ?_ (by (show _ ≤ _; repeat (first | exact Nat.le_refl _ | assumption | (omega; done) | with_reducible exact le_past (Nat.le_refl _) | with_reducible refine le_past ?_ | with_reducible refine le_al ?_ | with_reducible refine le_set ?_ | with_reducible refine le_p1 ?_))) _)))))
  have hzW3 := hs.size
  replace hB := hs.below hB (by omega) (by omega)
  replace v0 := v0.stp hs (by omega) (by omega)
  replace im := im.stp hs (by omega) (by omega)
  replace il := il.stp hs (by omega) (by omega)
  replace m1 := m1.stp hs (by omega) (by omega)
  replace m2 := m2.stp hs (by omega) (by omega)
  replace v1 := v1.stp hs (by omega) (by omega)
  replace m3 := m3.stp hs (by omega) (by omega)
  replace v3 := v3.stp hs (by omega) (by omega)
  have b3 : Below x4.heap.size x4 W3 := by rw [hW]; (repeat (first | assumption | exact Below.refl _ _ | with_reducible refine past_t _ ?_ | with_reducible refine below_a _ ?_ | with_reducible refine Below.drew ?_ | with_reducible refine below_d _ ?_ | (with_reducible refine Below.setCell ?_ (by (show _ ≤ _; repeat (first | exact Nat.le_refl _ | assumption | (omega; done) | with_reducible exact le_past (Nat.le_refl _) | with_reducible refine le_past ?_ | with_reducible refine le_al ?_ | with_reducible refine le_set ?_ | with_reducible refine le_p1 ?_))) _)))
  have z_x4 : W2.heap.size ≤ x4.heap.size := hs2
  have m4 := (own_ri ho4).keep b3
  have v4 : Bx W3 x4.heap.size R3 C3 (.slice A4 n4 c4) := by rw [hW]; exact ⟨by (first | (simp [go_sem]; done) | (simp [go_sem, ↓IntWalk.iteOmega]; done)), by (first | (simp [go_sem]; done) | (simp [go_sem, ↓IntWalk.iteOmega]; done)), by (first | (simp [go_sem]; done) | (simp [go_sem, ↓IntWalk.iteOmega]; done))⟩
  have y_v4 := World.block_lt_of_cell? _ _ v4.c0
  clear hW b3 hs hs2 ho4 hb4
  generalize x4.heap.size = k4 at *
  simp only at y_v4
  have hc := xDiag m2.1
  rw [hP5] at hc
  have HC := Lib.hid hc
  clear hc
  go_upto_region 7 with ((go_at_call 28; refine HC.out.mono ?_; rintro e x5 ⟨A5, n5, c5, rfl, ho5, hb5⟩))
  have hs2 := hb5.size
  clear HC
  refine wp_gen (fun W4 hW => ?_)
  have hs : Stp W4.heap.size W4.heap.size W3 W4 := (Stp.bel hb5).trans (by rw [hW]; exact Stp.bel (by (repeat (first | assumption | exact Below.refl _ _ | with_reducible refine past_t _ ?_ | with_reducible refine below_a _ ?_ | with_reducible refine Below.drew ?_ | with_reducible refine below_d _ ?_ | (with_reducible refine Below.setCell ?_ (by (show _ ≤ _; repeat (first | exact Nat.le_refl _ | assumption | (omega; done) | with_reducible exact le_past (Nat.le_refl _) | with_reducible refine le_past ?_ | with_reducible refine le_al ?_ | with_reducible refine le_set ?_ | with_reducible refine le_p1 ?_))) _)))))
  have hzW4 := hs.size
  replace hB := hs.below hB (by omega) (by omega)
  replace v0 := v0.stp hs (by omega) (by omega)
  replace im := im.stp hs (by omega) (by omega)
  replace il := il.stp hs (by omega) (by omega)
  replace m1 := m1.stp hs (by omega) (by omega)
  replace m2 := m2.stp hs (by omega) (by omega)
  replace v1 := v1.stp hs (by omega) (by omega)
  replace m3 := m3.stp hs (by omega) (by omega)
  replace v3 := v3.stp hs (by omega) (by omega)
  replace m4 := m4.stp hs (by omega) (by omega)
  replace v4 := v4.stp hs (by omega) (by omega)
  have b3 : Below x5.heap.size x5 W4 := by rw [hW]; (repeat (first | assumption | exact Below.refl _ _ | with_reducible refine past_t _ ?_ | with_reducible refine below_a _ ?_ | with_reducible refine Below.drew ?_ | with_reducible refine below_d _ ?_ | (with_reducible refine Below.setCell ?_ (by (show _ ≤ _; repeat (first | exact Nat.le_refl _ | assumption | (omega; done) | with_reducible exact le_past (Nat.le_refl _) | with_reducible refine le_past ?_ | with_reducible refine le_al ?_ | with_reducible refine le_set ?_ | with_reducible refine le_p1 ?_))) _)))
  have z_x5 : W3.heap.size ≤ x5.heap.size := hs2
  have m5 := (own_ri ho5).keep b3
  have o5 := ho5.keep b3
  have v5 : Bx W4 x5.heap.size R5 C5 (.slice A5 n5 c5) := by rw [hW]; exact ⟨by (first | (simp [go_sem]; done) | (simp [go_sem, ↓IntWalk.iteOmega]; done)), by (first | (simp [go_sem]; done) | (simp [go_sem, ↓IntWalk.iteOmega]; done)), by (first | (simp [go_sem]; done) | (simp [go_sem, ↓IntWalk.iteOmega]; done))⟩
  have y_v5 := World.block_lt_of_cell? _ _ v5.c0
  clear hW b3 hs hs2 ho5 hb5
  generalize x5.heap.size = k5 at *
  simp only at y_v5
  have hc := yDiag il.1
  rw [hP5] at hc
  have HC := Lib.hid hc
  clear hc
  go_upto_region 8 with ((go_at_call 29; refine HC.out.mono ?_; rintro e x6 ⟨A6, n6, c6, rfl, ho6, hb6⟩))
  have hs2 := hb6.size
  clear HC
  refine wp_gen (fun W5 hW => ?_)
  have hs : Stp W5.heap.size W5.heap.size W4 W5 := (Stp.bel hb6).trans (by rw [hW]; exact Stp.bel (by (repeat (first | assumption | exact Below.refl _ _ | with_reducible refine past_t _ ?_ | with_reducible refine below_a _ ?_ | with_reducible refine Below.drew ?_ | with_reducible refine below_d _ ?_ | (with_reducible refine Below.setCell ?_ (by (show _ ≤ _; repeat (first | exact Nat.le_refl _ | assumption | (omega; done) | with_reducible exact le_past (Nat.le_refl _) | with_reducible refine le_past ?_ | with_reducible refine le_al ?_ | with_reducible refine le_set ?_ | with_reducible refine le_p1 ?_))) _)))))
  have hzW5 := hs.size
  replace o5 := own_stp o5 hs m5 (by omega) (by omega)
  replace hB := hs.below hB (by omega) (by omega)
  replace v0 := v0.stp hs (by omega) (by omega)
  replace im := im.stp hs (by omega) (by omega)
  replace il := il.stp hs (by omega) (by omega)
  replace m1 := m1.stp hs (by omega) (by omega)
  replace m2 := m2.stp hs (by omega) (by omega)
  replace v1 := v1.stp hs (by omega) (by omega)
  replace m3 := m3.stp hs (by omega) (by omega)
  replace v3 := v3.stp hs (by omega) (by omega)
  replace m4 := m4.stp hs (by omega) (by omega)
  replace v4 := v4.stp hs (by omega) (by omega)
  replace m5 := m5.stp hs (by omega) (by omega)
  replace v5 := v5.stp hs (by omega) (by omega)
  have b3 : Below x6.heap.size x6 W5 := by rw [hW]; (repeat (first | assumption | exact Below.refl _ _ | with_reducible refine past_t _ ?_ | with_reducible refine below_a _ ?_ | with_reducible refine Below.drew ?_ | with_reducible refine below_d _ ?_ | (with_reducible refine Below.setCell ?_ (by (show _ ≤ _; repeat (first | exact Nat.le_refl _ | assumption | (omega; done) | with_reducible exact le_past (Nat.le_refl _) | with_reducible refine le_past ?_ | with_reducible refine le_al ?_ | with_reducible refine le_set ?_ | with_reducible refine le_p1 ?_))) _)))
  have z_x6 : W4.heap.size ≤ x6.heap.size := hs2
  have m6 := (own_ri ho6).keep b3
  have v6 : Bx W5 x6.heap.size R5 C5 (.slice A6 n6 c6) := by rw [hW]; exact ⟨by (first | (simp [go_sem]; done) | (simp [go_sem, ↓IntWalk.iteOmega]; done)), by (first | (simp [go_sem]; done) | (simp [go_sem, ↓IntWalk.iteOmega]; done)), by (first | (simp [go_sem]; done) | (simp [go_sem, ↓IntWalk.iteOmega]; done))⟩
  have y_v6 := World.block_lt_of_cell? _ _ v6.c0
  clear hW b3 hs hs2 ho6 hb6
  generalize x6.heap.size = k6 at *
  simp only at y_v6
  have hc := xTurn (R := m.R) (C := m.C) m1.1
  rw [hP7] at hc
  have HC := Lib.hid hc
  clear hc
  have v1_0 := v1.c0
  have v1_1 := v1.c1
  have v1_2 := v1.c2
  go_upto_region 9 with ((go_at_call 24; refine HC.out.mono ?_; rintro e x7 ⟨A7, n7, c7, rfl, ho7, hb7⟩))
  have hs2 := hb7.size
  clear HC
  clear v1_0 v1_1 v1_2
  refine wp_gen (fun W6 hW => ?_)
  have hs : Stp W6.heap.size W6.heap.size W5 W6 := (Stp.bel hb7).trans (by rw [hW]; exact Stp.bel (by (repeat (first | assumption | exact Below.refl _ _ | with_reducible refine past_t _ ?_ | with_reducible refine below_a _ ?_ | with_reducible refine Below.drew ?_ | with_reducible refine below_d _ ?_ | (with_reducible refine Below.setCell ?_ (by (show _ ≤ _; repeat (first | exact Nat.le_refl _ | assumption | (omega; done) | with_reducible exact le_past (Nat.le_refl _) | with_reducible refine le_past ?_ | with_reducible refine le_al ?_ | with_reducible refine le_set ?_ | with_reducible refine le_p1 ?_))) _)))))
  have hzW6 := hs.size
  replace o5 := own_stp o5 hs m5 (by omega) (by omega)
  replace hB := hs.below hB (by omega) (by omega)
  replace v0 := v0.stp hs (by omega) (by omega)
  replace im := im.stp hs (by omega) (by omega)
  replace il := il.stp hs (by omega) (by omega)
  replace m1 := m1.stp hs (by omega) (by omega)
  replace m2 := m2.stp hs (by omega) (by omega)
  replace v1 := v1.stp hs (by omega) (by omega)
  replace m3 := m3.stp hs (by omega) (by omega)
  replace v3 := v3.stp hs (by omega) (by omega)
  replace m4 := m4.stp hs (by omega) (by omega)
  replace v4 := v4.stp hs (by omega) (by omega)
  replace m5 := m5.stp hs (by omega) (by omega)
  replace v5 := v5.stp hs (by omega) (by omega)
  replace m6 := m6.stp hs (by omega) (by omega)
  replace v6 := v6.stp hs (by omega) (by omega)
  have b3 : Below x7.heap.size x7 W6 := by rw [hW]; (repeat (first | assumption | exact Below.refl _ _ | with_reducible refine past_t _ ?_ | with_reducible refine below_a _ ?_ | with_reducible refine Below.drew ?_ | with_reducible refine below_d _ ?_ | (with_reducible refine Below.setCell ?_ (by (show _ ≤ _; repeat (first | exact Nat.le_refl _ | assumption | (omega; done) | with_reducible exact le_past (Nat.le_refl _) | with_reducible refine le_past ?_ | with_reducible refine le_al ?_ | with_reducible refine le_set ?_ | with_reducible refine le_p1 ?_))) _)))
  have z_x7 : W5.heap.size ≤ x7.heap.size := hs2
  have m7 := (own_ri ho7).keep b3
  have o7 := ho7.keep b3
  have v7 : Bx W6 x7.heap.size R7 C7 (.slice A7 n7 c7) := by rw [hW]; exact ⟨by (first | (simp [go_sem]; done) | (simp [go_sem, ↓IntWalk.iteOmega]; done)), by (first | (simp [go_sem]; done) | (simp [go_sem, ↓IntWalk.iteOmega]; done)), by (first | (simp [go_sem]; done) | (simp [go_sem, ↓IntWalk.iteOmega]; done))⟩
  have y_v7 := World.block_lt_of_cell? _ _ v7.c0
  clear hW b3 hs hs2 ho7 hb7
  generalize x7.heap.size = k7 at *
  simp only at y_v7
  have hc := yTurn (R := m.R) (C := m.C) im.1
  rw [hP7] at hc
  have HC := Lib.hid hc
  clear hc
  have v0_0 := v0.c0
  have v0_1 := v0.c1
  have v0_2 := v0.c2
  go_upto_region 10 with ((go_at_call 30; refine HC.out.mono ?_; rintro e x8 ⟨A8, n8, c8, rfl, ho8, hb8⟩))
  have hs2 := hb8.size
  clear HC
  clear v0_0 v0_1 v0_2
  refine wp_gen (fun W7 hW => ?_)
  have hs : Stp W7.heap.size W7.heap.size W6 W7 := (Stp.bel hb8).trans (by rw [hW]; exact Stp.bel (by (repeat (first | assumption | exact Below.refl _ _ | with_reducible refine past_t _ ?_ | with_reducible refine below_a _ ?_ | with_reducible refine Below.drew ?_ | with_reducible refine below_d _ ?_ | (with_reducible refine Below.setCell ?_ (by (show _ ≤ _; repeat (first | exact Nat.le_refl _ | assumption | (omega; done) | with_reducible exact le_past (Nat.le_refl _) | with_reducible refine le_past ?_ | with_reducible refine le_al ?_ | with_reducible refine le_set ?_ | with_reducible refine le_p1 ?_))) _)))))
  have hzW7 := hs.size
  replace o5 := own_stp o5 hs m5 (by omega) (by omega)
  replace o7 := own_stp o7 hs m7 (by omega) (by omega)
  replace hB := hs.below hB (by omega) (by omega)
  replace v0 := v0.stp hs (by omega) (by omega)
  replace im := im.stp hs (by omega) (by omega)
  replace il := il.stp hs (by omega) (by omega)
  replace m1 := m1.stp hs (by omega) (by omega)
  replace m2 := m2.stp hs (by omega) (by omega)
  replace v1 := v1.stp hs (by omega) (by omega)
  replace m3 := m3.stp hs (by omega) (by omega)
  replace v3 := v3.stp hs (by omega) (by omega)
  replace m4 := m4.stp hs (by omega) (by omega)
  replace v4 := v4.stp hs (by omega) (by omega)
  replace m5 := m5.stp hs (by omega) (by omega)
  replace v5 := v5.stp hs (by omega) (by omega)
  replace m6 := m6.stp hs (by omega) (by omega)
  replace v6 := v6.stp hs (by omega) (by omega)
  replace m7 := m7.stp hs (by omega) (by omega)
  replace v7 := v7.stp hs (by omega) (by omega)
  have b3 : Below x8.heap.size x8 W7 := by rw [hW]; (repeat (first | assumption | exact Below.refl _ _ | with_reducible refine past_t _ ?_ | with_reducible refine below_a _ ?_ | with_reducible refine Below.drew ?_ | with_reducible refine below_d _ ?_ | (with_reducible refine Below.setCell ?_ (by (show _ ≤ _; repeat (first | exact Nat.le_refl _ | assumption | (omega; done) | with_reducible exact le_past (Nat.le_refl _) | with_reducible refine le_past ?_ | with_reducible refine le_al ?_ | with_reducible refine le_set ?_ | with_reducible refine le_p1 ?_))) _)))
  have z_x8 : W6.heap.size ≤ x8.heap.size := hs2
  have m8 := (own_ri ho8).keep b3
  have v8 : Bx W7 x8.heap.size R7 C7 (.slice A8 n8 c8) := by rw [hW]; exact ⟨by (first | (simp [go_sem]; done) | (simp [go_sem, ↓IntWalk.iteOmega]; done)), by (first | (simp [go_sem]; done) | (simp [go_sem, ↓IntWalk.iteOmega]; done)), by (first | (simp [go_sem]; done) | (simp [go_sem, ↓IntWalk.iteOmega]; done))⟩
  have y_v8 := World.block_lt_of_cell? _ _ v8.c0
  clear hW b3 hs hs2 ho8 hb8
  generalize x8.heap.size = k8 at *
  simp only at y_v8
  have hc := xRow (R := m.R) (C := m.C) (i := n) m1.1
  rw [hP9] at hc
  have HC := Lib.hid hc
  clear hc
  have v1_0 := v1.c0
  have v1_1 := v1.c1
  have v1_2 := v1.c2
  go_upto_region 11 with ((go_at_call 31; refine HC.out.mono ?_; rintro e x9 ⟨A9, n9, c9, rfl, ho9, hb9⟩))
  have hs2 := hb9.size
  clear HC
  clear v1_0 v1_1 v1_2
  refine wp_gen (fun W8 hW => ?_)
  have hs : Stp W8.heap.size W8.heap.size W7 W8 := (Stp.bel hb9).trans (by rw [hW]; exact Stp.bel (by (repeat (first | assumption | exact Below.refl _ _ | with_reducible refine past_t _ ?_ | with_reducible refine below_a _ ?_ | with_reducible refine Below.drew ?_ | with_reducible refine below_d _ ?_ | (with_reducible refine Below.setCell ?_ (by (show _ ≤ _; repeat (first | exact Nat.le_refl _ | assumption | (omega; done) | with_reducible exact le_past (Nat.le_refl _) | with_reducible refine le_past ?_ | with_reducible refine le_al ?_ | with_reducible refine le_set ?_ | with_reducible refine le_p1 ?_))) _)))))
  have hzW8 := hs.size
  replace o5 := own_stp o5 hs m5 (by omega) (by omega)
  replace o7 := own_stp o7 hs m7 (by omega) (by omega)
  replace hB := hs.below hB (by omega) (by omega)
  replace v0 := v0.stp hs (by omega) (by omega)
  replace im := im.stp hs (by omega) (by omega)
  replace il := il.stp hs (by omega) (by omega)
  replace m1 := m1.stp hs (by omega) (by omega)
  replace m2 := m2.stp hs (by omega) (by omega)
  replace v1 := v1.stp hs (by omega) (by omega)
  replace m3 := m3.stp hs (by omega) (by omega)
  replace v3 := v3.stp hs (by omega) (by omega)
  replace m4 := m4.stp hs (by omega) (by omega)
  replace v4 := v4.stp hs (by omega) (by omega)
  replace m5 := m5.stp hs (by omega) (by omega)
  replace v5 := v5.stp hs (by omega) (by omega)
  replace m6 := m6.stp hs (by omega) (by omega)
  replace v6 := v6.stp hs (by omega) (by omega)
  replace m7 := m7.stp hs (by omega) (by omega)
  replace v7 := v7.stp hs (by omega) (by omega)
  replace m8 := m8.stp hs (by omega) (by omega)
  replace v8 := v8.stp hs (by omega) (by omega)
  have b3 : Below x9.heap.size x9 W8 := by rw [hW]; (repeat (first | assumption | exact Below.refl _ _ | with_reducible refine past_t _ ?_ | with_reducible refine below_a _ ?_ | with_reducible refine Below.drew ?_ | with_reducible refine below_d _ ?_ | (with_reducible refine Below.setCell ?_ (by (show _ ≤ _; repeat (first | exact Nat.le_refl _ | assumption | (omega; done) | with_reducible exact le_past (Nat.le_refl _) | with_reducible refine le_past ?_ | with_reducible refine le_al ?_ | with_reducible refine le_set ?_ | with_reducible refine le_p1 ?_))) _)))
  have z_x9 : W7.heap.size ≤ x9.heap.size := hs2
  have m9 := (own_ri ho9).keep b3
  have o9 := ho9.keep b3
  have y_x9 := b3.size
  clear hW b3 hs hs2 ho9 hb9
  have hc := yRow (R := m.R) (C := m.C) (i := n) im.1
  rw [hP9] at hc
  have HC := Lib.hid hc
  clear hc
  have v0_0 := v0.c0
  have v0_1 := v0.c1
  have v0_2 := v0.c2
  go_upto_region 12 with ((go_at_call 32; refine HC.out.mono ?_; rintro e x10 ⟨A10, n10, c10, rfl, ho10, hb10⟩))
  have hs2 := hb10.size
  clear HC
  clear v0_0 v0_1 v0_2
  refine wp_gen (fun W9 hW => ?_)
  have hs : Stp W9.heap.size W9.heap.size W8 W9 := (Stp.bel hb10).trans (by rw [hW]; exact Stp.bel (by (repeat (first | assumption | exact Below.refl _ _ | with_reducible refine past_t _ ?_ | with_reducible refine below_a _ ?_ | with_reducible refine Below.drew ?_ | with_reducible refine below_d _ ?_ | (with_reducible refine Below.setCell ?_ (by (show _ ≤ _; repeat (first | exact Nat.le_refl _ | assumption | (omega; done) | with_reducible exact le_past (Nat.le_refl _) | with_reducible refine le_past ?_ | with_reducible refine le_al ?_ | with_reducible refine le_set ?_ | with_reducible refine le_p1 ?_))) _)))))
  have hzW9 := hs.size
  replace o5 := own_stp o5 hs m5 (by omega) (by omega)
  replace o7 := own_stp o7 hs m7 (by omega) (by omega)
  replace o9 := own_stp o9 hs m9 (by omega) (by omega)
  replace hB := hs.below hB (by omega) (by omega)
  replace v0 := v0.stp hs (by omega) (by omega)
  replace im := im.stp hs (by omega) (by omega)
  replace il := il.stp hs (by omega) (by omega)
  replace m1 := m1.stp hs (by omega) (by omega)
  replace m2 := m2.stp hs (by omega) (by omega)
  replace v1 := v1.stp hs (by omega) (by omega)
  replace m3 := m3.stp hs (by omega) (by omega)
  replace v3 := v3.stp hs (by omega) (by omega)
  replace m4 := m4.stp hs (by omega) (by omega)
  replace v4 := v4.stp hs (by omega) (by omega)
  replace m5 := m5.stp hs (by omega) (by omega)
  replace v5 := v5.stp hs (by omega) (by omega)
  replace m6 := m6.stp hs (by omega) (by omega)
  replace v6 := v6.stp hs (by omega) (by omega)
  replace m7 := m7.stp hs (by omega) (by omega)
  replace v7 := v7.stp hs (by omega) (by omega)
  replace m8 := m8.stp hs (by omega) (by omega)
  replace v8 := v8.stp hs (by omega) (by omega)
  replace m9 := m9.stp hs (by omega) (by omega)
  have b3 : Below x10.heap.size x10 W9 := by rw [hW]; (repeat (first | assumption | exact Below.refl _ _ | with_reducible refine past_t _ ?_ | with_reducible refine below_a _ ?_ | with_reducible refine Below.drew ?_ | with_reducible refine below_d _ ?_ | (with_reducible refine Below.setCell ?_ (by (show _ ≤ _; repeat (first | exact Nat.le_refl _ | assumption | (omega; done) | with_reducible exact le_past (Nat.le_refl _) | with_reducible refine le_past ?_ | with_reducible refine le_al ?_ | with_reducible refine le_set ?_ | with_reducible refine le_p1 ?_))) _)))
  have z_x10 : W8.heap.size ≤ x10.heap.size := hs2
  have m10 := (own_ri ho10).keep b3
  have y_x10 := b3.size
  clear hW b3 hs hs2 ho10 hb10
  have v0_0 := v0.c0
  have v0_1 := v0.c1
  have v0_2 := v0.c2
  have v1_0 := v1.c0
  have v1_1 := v1.c1
  have v1_2 := v1.c2
  have v3_0 := v3.c0
  have v3_1 := v3.c1
  have v3_2 := v3.c2
  have v4_0 := v4.c0
  have v4_1 := v4.c1
  have v4_2 := v4.c2
  have v5_0 := v5.c0
  have v5_1 := v5.c1
  have v5_2 := v5.c2
  have v6_0 := v6.c0
  have v6_1 := v6.c1
  have v6_2 := v6.c2
  have v7_0 := v7.c0
  have v7_1 := v7.c1
  have v7_2 := v7.c2
  have v8_0 := v8.c0
  have v8_1 := v8.c1
  have v8_2 := v8.c2
  have s1 := fun z => kSameMat (R := R3) (C := C3) (m3.1.keep (past_below W9 z)) (m4.1.keep (past_below W9 z))
  have s2 := fun z => kSameMat (R := R5) (C := C5) (m5.1.keep (past_below W9 z)) (m6.1.keep (past_below W9 z))
  have s3 := fun z => kSameMat (R := R7) (C := C7) (m7.1.keep (past_below W9 z)) (m8.1.keep (past_below W9 z))
  have s4 := fun z => iSameT (m9.1.keep (past_below W9 z)) (m10.1.keep (past_below W9 z))
  have s5 := fun z => mCheck m.R m.C A1 m.V.length c1 (past W9 z)
  have s6 := fun z => r7Check m.R m.C m.A m.V.length m.c (past W9 z)
  have S := Lib.hid (And.intro m1 (And.intro m2 (And.intro im (And.intro il (And.intro m5 (And.intro m7 (And.intro m9 (And.intro o5 (And.intro o7 (And.intro o9 (And.intro hB (And.intro v0 (And.intro v1 (And.intro v5 v7))))))))))))))
  generalize hck : chk m.R m.C m.V.length = ck at *
  clear m3 m4 m6 m8 m10 m1 m2 im il m5 m7 m9 o5 o7 o9 hB v0 v1 v3 v4 v5 v6 v7 v8
  go_upto_region 12 with fail
  (first | refine region_past2 (by kernel_rfl) (by kernel_rfl) ?_ | refine region_past (by kernel_rfl) (by kernel_rfl) ?_)
  repeat (go_big_quiet_step (first | (go_at_call 20; with_reducible exact Calls_pastq (s1 _)) | (go_at_call 20; with_reducible exact Calls_pastq (s2 _)) | (go_at_call 20; with_reducible exact Calls_pastq (s3 _)) | (go_at_call 21; with_reducible exact Calls_pastq (s4 _)) | (go_at_call 25; with_reducible exact Calls_pastq (s5 _)) | (go_at_call 33; with_reducible exact Calls_pastq (s6 _))))
  refine wpQuiet_nil ?_; rintro _ ⟨y, rfl⟩
  obtain ⟨m1, m2, im, il, m5, m7, m9, o5, o7, o9, hB, v0, v1, v5, v7⟩ := S.out
  clear S s1 s2 s3 s4 s5 s6
  go_upto_region 13 with fail
  refine wp_gen (fun W10 hW => ?_)
  have hs : Stp W10.heap.size W10.heap.size W9 W10 := by rw [hW]; exact Stp.bel (by (repeat (first | assumption | exact Below.refl _ _ | with_reducible refine past_t _ ?_ | with_reducible refine below_a _ ?_ | with_reducible refine Below.drew ?_ | with_reducible refine below_d _ ?_ | (with_reducible refine Below.setCell ?_ (by (show _ ≤ _; repeat (first | exact Nat.le_refl _ | assumption | (omega; done) | with_reducible exact le_past (Nat.le_refl _) | with_reducible refine le_past ?_ | with_reducible refine le_al ?_ | with_reducible refine le_set ?_ | with_reducible refine le_p1 ?_))) _))))
  have hzW10 := hs.size
  replace o5 := own_stp o5 hs m5 (by omega) (by omega)
  replace o7 := own_stp o7 hs m7 (by omega) (by omega)
  replace o9 := own_stp o9 hs m9 (by omega) (by omega)
  replace m1 := m1.stp hs (by omega) (by omega)
  replace m2 := m2.stp hs (by omega) (by omega)
  replace im := im.stp hs (by omega) (by omega)
  replace il := il.stp hs (by omega) (by omega)
  replace m5 := m5.stp hs (by omega) (by omega)
  replace m7 := m7.stp hs (by omega) (by omega)
  replace m9 := m9.stp hs (by omega) (by omega)
  replace hB := hs.below hB (by omega) (by omega)
  replace v0 := v0.stp hs (by omega) (by omega)
  replace v1 := v1.stp hs (by omega) (by omega)
  replace v5 := v5.stp hs (by omega) (by omega)
  replace v7 := v7.stp hs (by omega) (by omega)
  clear hW hs
  have HC := Lib.hid (iOver2 o5)
  obtain ⟨g11, hg11, hl11, hh11⟩ := over_at m5
  have v5_0 := v5.c0
  have v5_1 := v5.c1
  have v5_2 := v5.c2
  go_upto_region 14 with ((go_at_call 34; refine HC.out.mono ?_; rintro e x11 ⟨rfl, hv⟩))
  clear HC
  clear v5_0 v5_1 v5_2
  refine wp_gen (fun W11 hW => ?_)
  have hs : Stp g11 g11 W10 W11 := (hv g11 hg11).trans (by rw [hW]; exact Stp.bel (by (repeat (first | assumption | exact Below.refl _ _ | with_reducible refine past_t _ ?_ | with_reducible refine below_a _ ?_ | with_reducible refine Below.drew ?_ | with_reducible refine below_d _ ?_ | (with_reducible refine Below.setCell ?_ (by (show _ ≤ _; repeat (first | exact Nat.le_refl _ | assumption | (omega; done) | with_reducible exact le_past (Nat.le_refl _) | with_reducible refine le_past ?_ | with_reducible refine le_al ?_ | with_reducible refine le_set ?_ | with_reducible refine le_p1 ?_))) _)))))
  have hzW11 := hs.size
  replace o7 := own_stp o7 hs m7 (by omega) (by omega)
  replace o9 := own_stp o9 hs m9 (by omega) (by omega)
  replace m1 := m1.stp hs (by omega) (by omega)
  replace m2 := m2.stp hs (by omega) (by omega)
  replace im := im.stp hs (by omega) (by omega)
  replace il := il.stp hs (by omega) (by omega)
  replace m7 := m7.stp hs (by omega) (by omega)
  replace m9 := m9.stp hs (by omega) (by omega)
  replace hB := hs.below hB (by omega) (by omega)
  replace v0 := v0.stp hs (by omega) (by omega)
  replace v1 := v1.stp hs (by omega) (by omega)
  replace v7 := v7.stp hs (by omega) (by omega)
  clear hW hs hv m5 o5 v5
  have HC := Lib.hid (iOver2 o7)
  obtain ⟨g12, hg12, hl12, hh12⟩ := over_at m7
  have v7_0 := v7.c0
  have v7_1 := v7.c1
  have v7_2 := v7.c2
  go_upto_region 15 with ((go_at_call 34; refine HC.out.mono ?_; rintro e x12 ⟨rfl, hv⟩))
  clear HC
  clear v7_0 v7_1 v7_2
  refine wp_gen (fun W12 hW => ?_)
  have hs : Stp g12 g12 W11 W12 := (hv g12 hg12).trans (by rw [hW]; exact Stp.bel (by (repeat (first | assumption | exact Below.refl _ _ | with_reducible refine past_t _ ?_ | with_reducible refine below_a _ ?_ | with_reducible refine Below.drew ?_ | with_reducible refine below_d _ ?_ | (with_reducible refine Below.setCell ?_ (by (show _ ≤ _; repeat (first | exact Nat.le_refl _ | assumption | (omega; done) | with_reducible exact le_past (Nat.le_refl _) | with_reducible refine le_past ?_ | with_reducible refine le_al ?_ | with_reducible refine le_set ?_ | with_reducible refine le_p1 ?_))) _)))))
  have hzW12 := hs.size
  replace o9 := own_stp o9 hs m9 (by omega) (by omega)
  replace m1 := m1.stp hs (by omega) (by omega)
  replace m2 := m2.stp hs (by omega) (by omega)
  replace im := im.stp hs (by omega) (by omega)
  replace il := il.stp hs (by omega) (by omega)
  replace m9 := m9.stp hs (by omega) (by omega)
  replace hB := hs.below hB (by omega) (by omega)
  replace v0 := v0.stp hs (by omega) (by omega)
  replace v1 := v1.stp hs (by omega) (by omega)
  clear hW hs hv m7 o7 v7
  have HC := Lib.hid (iOver2 o9)
  obtain ⟨g13, hg13, hl13, hh13⟩ := over_at m9
  go_upto_region 16 with ((go_at_call 34; refine HC.out.mono ?_; rintro e x13 ⟨rfl, hv⟩))
  clear HC
  refine wp_gen (fun W13 hW => ?_)
  have hs : Stp g13 g13 W12 W13 := (hv g13 hg13).trans (by rw [hW]; exact Stp.bel (by (repeat (first | assumption | exact Below.refl _ _ | with_reducible refine past_t _ ?_ | with_reducible refine below_a _ ?_ | with_reducible refine Below.drew ?_ | with_reducible refine below_d _ ?_ | (with_reducible refine Below.setCell ?_ (by (show _ ≤ _; repeat (first | exact Nat.le_refl _ | assumption | (omega; done) | with_reducible exact le_past (Nat.le_refl _) | with_reducible refine le_past ?_ | with_reducible refine le_al ?_ | with_reducible refine le_set ?_ | with_reducible refine le_p1 ?_))) _)))))
  have hzW13 := hs.size
  replace m1 := m1.stp hs (by omega) (by omega)
  replace m2 := m2.stp hs (by omega) (by omega)
  replace im := im.stp hs (by omega) (by omega)
  replace il := il.stp hs (by omega) (by omega)
  replace hB := hs.below hB (by omega) (by omega)
  replace v0 := v0.stp hs (by omega) (by omega)
  replace v1 := v1.stp hs (by omega) (by omega)
  clear hW hs hv m9 o9 
  have M1 := Lib.hid m1.1
  have M2 := Lib.hid m2.1
  have I1 := Lib.hid im.1
  have I2 := Lib.hid il.1
  have HB := Lib.hid hB
  have v0_0 := v0.c0
  have v0_1 := v0.c1
  have v0_2 := v0.c2
  have v1_0 := v1.c0
  have v1_1 := v1.c1
  have v1_2 := v1.c2
  clear m1 m2 im il v0 v1 hB
  go_wp2_with (first | (go_at_call 20; with_reducible refine Calls_past (kSameMat (R := m.R) (C := m.C) (M1.out.keep ?_) (I1.out.keep ?_)) (fun z => ?_); (focus ((first | ((repeat (first | assumption | exact Below.refl _ _ | with_reducible refine past_t _ ?_ | with_reducible refine below_a _ ?_ | with_reducible refine Below.drew ?_ | with_reducible refine below_d _ ?_ | (with_reducible refine Below.setCell ?_ (by (show _ ≤ _; repeat (first | exact Nat.le_refl _ | assumption | (omega; done) | with_reducible exact le_past (Nat.le_refl _) | with_reducible refine le_past ?_ | with_reducible refine le_al ?_ | with_reducible refine le_set ?_ | with_reducible refine le_p1 ?_))) _))); done) | (with_reducible rfl; done) | omega | (rfl; done) | (simp; done) | (simp [go_sem]; done) | (simp; omega) | (simp [go_sem]; omega)); done)); (focus ((first | ((repeat (first | assumption | exact Below.refl _ _ | with_reducible refine past_t _ ?_ | with_reducible refine below_a _ ?_ | with_reducible refine Below.drew ?_ | with_reducible refine below_d _ ?_ | (with_reducible refine Below.setCell ?_ (by (show _ ≤ _; repeat (first | exact Nat.le_refl _ | assumption | (omega; done) | with_reducible exact le_past (Nat.le_refl _) | with_reducible refine le_past ?_ | with_reducible refine le_al ?_ | with_reducible refine le_set ?_ | with_reducible refine le_p1 ?_))) _))); done) | (with_reducible rfl; done) | omega | (rfl; done) | (simp; done) | (simp [go_sem]; done) | (simp; omega) | (simp [go_sem]; omega)); done))) | (go_at_call 21; with_reducible refine Calls_past (iSameT (M2.out.keep ?_) (I2.out.keep ?_)) (fun z => ?_); (focus ((first | ((repeat (first | assumption | exact Below.refl _ _ | with_reducible refine past_t _ ?_ | with_reducible refine below_a _ ?_ | with_reducible refine Below.drew ?_ | with_reducible refine below_d _ ?_ | (with_reducible refine Below.setCell ?_ (by (show _ ≤ _; repeat (first | exact Nat.le_refl _ | assumption | (omega; done) | with_reducible exact le_past (Nat.le_refl _) | with_reducible refine le_past ?_ | with_reducible refine le_al ?_ | with_reducible refine le_set ?_ | with_reducible refine le_p1 ?_))) _))); done) | (with_reducible rfl; done) | omega | (rfl; done) | (simp; done) | (simp [go_sem]; done) | (simp; omega) | (simp [go_sem]; omega)); done)); (focus ((first | ((repeat (first | assumption | exact Below.refl _ _ | with_reducible refine past_t _ ?_ | with_reducible refine below_a _ ?_ | with_reducible refine Below.drew ?_ | with_reducible refine below_d _ ?_ | (with_reducible refine Below.setCell ?_ (by (show _ ≤ _; repeat (first | exact Nat.le_refl _ | assumption | (omega; done) | with_reducible exact le_past (Nat.le_refl _) | with_reducible refine le_past ?_ | with_reducible refine le_al ?_ | with_reducible refine le_set ?_ | with_reducible refine le_p1 ?_))) _))); done) | (with_reducible rfl; done) | omega | (rfl; done) | (simp; done) | (simp [go_sem]; done) | (simp; omega) | (simp [go_sem]; omega)); done))) | (go_at_call 13; first | (with_reducible refine Calls_past2 (haw _) (fun z => ?_)) | (with_reducible refine Calls_past (haw _) (fun z => ?_))))
  go_ret
  exact ⟨rfl, bel_trans HB.out (by (repeat (first | assumption | exact Below.refl _ _ | with_reducible refine past_t _ ?_ | with_reducible refine below_a _ ?_ | with_reducible refine Below.drew ?_ | with_reducible refine below_d _ ?_ | (with_reducible refine Below.setCell ?_ (by (show _ ≤ _; repeat (first | exact Nat.le_refl _ | assumption | (omega; done) | with_reducible exact le_past (Nat.le_refl _) | with_reducible refine le_past ?_ | with_reducible refine le_al ?_ | with_reducible refine le_set ?_ | with_reducible refine le_p1 ?_))) _))))⟩
set_option maxRecDepth 100000 in
theorem lifted (os : Os) (started : os.Started) (H : Type) (enc : TypeId × Value → H) :
    ReturnsInHanded {} Try.checked os 5 .any (Rows.matShapesSpec.pre6 enc Try.prog Try.f5 Rows.matShapesRow.domain false) (Rows.matShapesSpec.post enc Try.prog Try.f5 false true false false) := by
  refine returnsInHanded_of_change (C := Try.checked) own started (by kernel_rfl) Try.func5
    (ChangeSpec.witness6 (enc := enc) (C := Try.checked) false ⟨#[], #[.agg #[.int .i64 0, .int .i64 0, .slice none 0 0], .slice none 0 0, .int .i64 0], []⟩ 8 (by kernel_rfl) (by kernel_rfl) (by kernel_rfl) (by kernel_rfl)) ?_
  intro W base args ds gs before hval0 hW hcnd _
  have hval : ∀ (j : Nat) t v, Try.f5.params[j]? = some t → args[j]? = some v → Value.okWide Try.prog W .any base t v := hval0
  have hW' := hW
  obtain ⟨p, q, hA0, hV, rfl, hfz, hnd⟩ := hW
  have hA : DataW.TrodAll enc Try.prog W 0 (fun _ => true) true Try.f5.params.toList args.toList ds p := hA0
  rw [Try.params5] at hA hval
  obtain ⟨v0, vs0, d0, ds0, p0, q0, hargs, rfl, rfl, h0, r0⟩ := trodAll_cons hA
  obtain ⟨v1, vs1, d1, ds1, p1, q1, rfl, rfl, rfl, h1, r1⟩ := trodAll_cons r0
  obtain ⟨v2, vs2, d2, ds2, p2, q2, rfl, rfl, rfl, h2, r2⟩ := trodAll_cons r1
  obtain ⟨rfl, rfl, rfl⟩ := trodAll_nil r2
  obtain rfl : args = #[v0, v1, v2] := by cases args; simp_all
  obtain ⟨rfl, rfl⟩ := trodVars_none hV
  have k0 := h0
  have lt0 : ∀ x ∈ p0, x.block < W.heap.size := by obtain ⟨m, hm⟩ := k0; exact DataW.trod_lt m _ _ _ hm
  obtain ⟨m, rfl, w0⟩ := open_mat (hval 0 24 v0 rfl rfl) h0
  obtain ⟨l, lenl, capl, rfl⟩ := okWide_slice Try.underlying22 (hval 1 22 v1 rfl rfl)
  have k1 := h1
  have lt1 : ∀ x ∈ p1, x.block < W.heap.size := by obtain ⟨m, hm⟩ := k1; exact DataW.trod_lt m _ _ _ hm
  obtain ⟨zl, w1⟩ : ∃ zs, IsRow .i64 W l lenl capl zs := by
    obtain ⟨fuel, hf⟩ := h1
    rcases open_ints Try.underlying22 Try.underlying3 (by kernel_rfl) hf with ⟨hcs, _⟩ | ⟨x, l, c, zs, hcs, _, hl, hm, hz, _, hcell, hwz⟩
    · simp [Value.cells] at hcs
      obtain ⟨rfl, rfl, rfl⟩ := hcs
      exact ⟨[], .inl ⟨rfl, rfl, rfl, rfl⟩⟩
    · simp [Value.cells] at hcs
      obtain ⟨rfl, rfl, rfl⟩ := hcs
      exact ⟨zs, .inr ⟨_, rfl, hl, hm, by simpa using hz, hcell, hwz⟩⟩
  obtain ⟨n, rfl, rfl, rfl, w2⟩ := open_int Try.underlying3 (hval 2 3 v2 rfl rfl) h2
  clear hA0 hval0
  refine (walk W m w0 l lenl capl zl w1 n w2).mono fun e W' ⟨he, bel⟩ => ?_
  subst he
  exact ⟨_, rfl, _, _, _, [], _, [], hW', trodAll_mk1 (shut_bool Try.underlying4 _), (trodAll_cons_mk (Below.trod laidOut (by kernel_rfl) (of_decide_eq_true (by kernel_rfl)) k0 bel lt0) (trodAll_cons_mk (Below.trod laidOut (by kernel_rfl) (of_decide_eq_true (by kernel_rfl)) k1 bel lt1) (trodAll_cons_mk (shut_int Try.underlying3 w2) trodAll_mk0))), rfl, bel.frame _, fun h => by cases h⟩
theorem over : Rows.matShapesRow.holds Try.pinned (OpenSpec.ofChange Rows.matShapesSpec) :=
  OpenClaim.holds_of_wide 5 Try.f5 rfl rfl rfl rfl rfl rfl rfl ⟨rfl, rfl, rfl, rfl, rfl⟩ rfl rfl rfl rfl rfl (by kernel_rfl) Try.func5 (by kernel_rfl)
    (of_decide_eq_true (by kernel_rfl)) (by unfold Func.isWrapper; first | (rw [if_pos (by decide +kernel)]; kernel_rfl) | (rw [if_neg (by decide +kernel)]; exact ⟨rfl, rfl⟩))
    (fun os started H enc _ => lifted os started H enc)
theorem proved : Rows.MatShapesSaid := over
#print axioms proved
end Go.Proofs.Ytlhadociaekkhaa.matShapes
