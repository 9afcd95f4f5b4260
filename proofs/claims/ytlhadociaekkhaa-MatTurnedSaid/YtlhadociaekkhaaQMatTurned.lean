/- A product turned is that of both turned, exchanged; what is turned twice is as it was; Eye is neutral on either side. -/
import Derived.Test.YtlhadociaekkhaaQMatL4
import Derived.Test.YtlhadociaekkhaaQF
import Derived.Deep.DeepCutAuto
import Derived.Deep.LoopGhost
import Derived.Deep.RegionWith
import Derived.WalkKit
import Derived.ProofKit
import Derived.OpenShut
import Derived.ShutString
import Derived.ChangeOld
import Derived.Below
import Derived.Lib.SmallJoins
set_option linter.unusedSimpArgs false
set_option linter.unusedVariables false
namespace Go.Proofs.Ytlhadociaekkhaa.matTurned
open Go.ChangeShapes Go.WideShapes Go.ChangeAt Go.RowKit
open Go.ChangeMaps (open_string shut_string)
open Go.Joins
set_option linter.unusedVariables false
theorem own : ownKnob Try.prog.godebug = none := by kernel_rfl
theorem laidOut : laidOutB Try.prog = true := by kernel_rfl
set_option maxHeartbeats 8000000 in
set_option maxRecDepth 100000 in
theorem walk (w : World) (a : MatX) (w0 : a.ok w) (b : MatX) (w1 : b.ok w) : -- the walk
    Calls Try.prog 4 #[a.val, b.val] w fun e w' => e = .returned (.bool true) ∧ Below w.heap.size w w' := by
  have haw := lAwake7
  go_enter Try.func4, Try.ntmps4
  go_upto_region 2 with ((go_at_call 13; first | (with_reducible refine Calls_past2 (haw _) (fun z => ?_)) | (with_reducible refine Calls_past (haw _) (fun z => ?_))))
  refine wp_gen (fun W0 hW => ?_)
  have hB0 : Below w.heap.size w W0 := by rw [hW]; (repeat (first | assumption | exact Below.refl _ _ | with_reducible refine past_t _ ?_ | with_reducible refine below_a _ ?_ | with_reducible refine Below.drew ?_ | with_reducible refine below_d _ ?_ | (with_reducible refine Below.setCell ?_ (by (show _ ≤ _; repeat (first | exact Nat.le_refl _ | assumption | (omega; done) | with_reducible exact le_past (Nat.le_refl _) | with_reducible refine le_past ?_ | with_reducible refine le_al ?_ | with_reducible refine le_set ?_ | with_reducible refine le_p1 ?_))) _)))
  have va0 : Bx W0 w.heap.size a.R a.C (.slice a.A a.V.length a.c) := by rw [hW]; exact ⟨by (first | (simp [go_sem]; done) | (simp [go_sem, ↓IntWalk.iteOmega]; done)), by (first | (simp [go_sem]; done) | (simp [go_sem, ↓IntWalk.iteOmega]; done)), by (first | (simp [go_sem]; done) | (simp [go_sem, ↓IntWalk.iteOmega]; done))⟩
  have vb0 : Bx W0 (w.heap.size + 1) b.R b.C (.slice b.A b.V.length b.c) := by rw [hW]; exact ⟨by (first | (simp [go_sem]; done) | (simp [go_sem, ↓IntWalk.iteOmega]; done)), by (first | (simp [go_sem]; done) | (simp [go_sem, ↓IntWalk.iteOmega]; done)), by (first | (simp [go_sem]; done) | (simp [go_sem, ↓IntWalk.iteOmega]; done))⟩
  have hz0 := World.block_lt_of_cell? _ _ vb0.c0
  simp only at hz0
  clear hW
  have va_0 := va0.c0
  have va_1 := va0.c1
  have va_2 := va0.c2
  have vb_0 := vb0.c0
  have vb_1 := vb0.c1
  have vb_2 := vb0.c2
  have HB0 := Lib.hid hB0
  have VA0 := Lib.hid va0
  have VB0 := Lib.hid vb0
  clear hB0 va0 vb0
  by_cases hbig1 : 160 < a.V.length
  · have hl1 := fun W => lLong (R := a.R) (C := a.C) (A := a.A) (n := a.V.length) (c := a.c) W
    rw [decide_eq_true (by omega : (160 : Int) < (a.V.length : Int))] at hl1
    go_wp2_with (first | (go_at_call 10; refine (uNew _).mono ?_; rintro e w1 ⟨rfl, rfl⟩) | (go_at_call 12; first | (with_reducible refine Calls_past2 (hl1 _) (fun z => ?_)) | (with_reducible refine Calls_past (hl1 _) (fun z => ?_))))
    go_ret
    exact ⟨rfl, bel_trans HB0.out (by (repeat (first | assumption | exact Below.refl _ _ | with_reducible refine past_t _ ?_ | with_reducible refine below_a _ ?_ | with_reducible refine Below.drew ?_ | with_reducible refine below_d _ ?_ | (with_reducible refine Below.setCell ?_ (by (show _ ≤ _; repeat (first | exact Nat.le_refl _ | assumption | (omega; done) | with_reducible exact le_past (Nat.le_refl _) | with_reducible refine le_past ?_ | with_reducible refine le_al ?_ | with_reducible refine le_set ?_ | with_reducible refine le_p1 ?_))) _))))⟩
  have hl1 := fun W => lLong (R := a.R) (C := a.C) (A := a.A) (n := a.V.length) (c := a.c) W
  rw [decide_eq_false (by omega : ¬(160 : Int) < (a.V.length : Int))] at hl1
  by_cases hbig2 : 160 < b.V.length
  · have hl2 := fun W => lLong (R := b.R) (C := b.C) (A := b.A) (n := b.V.length) (c := b.c) W
    rw [decide_eq_true (by omega : (160 : Int) < (b.V.length : Int))] at hl2
    go_wp2_with (first | (go_at_call 10; refine (uNew _).mono ?_; rintro e w1 ⟨rfl, rfl⟩) | (go_at_call 12; first | (with_reducible refine Calls_past2 (hl1 _) (fun z => ?_)) | (with_reducible refine Calls_past (hl1 _) (fun z => ?_))) | (go_at_call 12; first | (with_reducible refine Calls_past2 (hl2 _) (fun z => ?_)) | (with_reducible refine Calls_past (hl2 _) (fun z => ?_))))
    go_ret
    exact ⟨rfl, bel_trans HB0.out (by (repeat (first | assumption | exact Below.refl _ _ | with_reducible refine past_t _ ?_ | with_reducible refine below_a _ ?_ | with_reducible refine Below.drew ?_ | with_reducible refine below_d _ ?_ | (with_reducible refine Below.setCell ?_ (by (show _ ≤ _; repeat (first | exact Nat.le_refl _ | assumption | (omega; done) | with_reducible exact le_past (Nat.le_refl _) | with_reducible refine le_past ?_ | with_reducible refine le_al ?_ | with_reducible refine le_set ?_ | with_reducible refine le_p1 ?_))) _))))⟩
  have hl2 := fun W => lLong (R := b.R) (C := b.C) (A := b.A) (n := b.V.length) (c := b.c) W
  rw [decide_eq_false (by omega : ¬(160 : Int) < (b.V.length : Int))] at hl2
  go_upto_region 5 with (first | (go_at_call 10; refine (uNew _).mono ?_; rintro e w1 ⟨rfl, rfl⟩) | (go_at_call 12; first | (with_reducible refine Calls_past2 (hl1 _) (fun z => ?_)) | (with_reducible refine Calls_past (hl1 _) (fun z => ?_))) | (go_at_call 12; first | (with_reducible refine Calls_past2 (hl2 _) (fun z => ?_)) | (with_reducible refine Calls_past (hl2 _) (fun z => ?_))))
  refine wp_gen (fun W1 hW => ?_)
  have hb1 : Below W0.heap.size W0 W1 := by rw [hW]; (repeat (first | assumption | exact Below.refl _ _ | with_reducible refine past_t _ ?_ | with_reducible refine below_a _ ?_ | with_reducible refine Below.drew ?_ | with_reducible refine below_d _ ?_ | (with_reducible refine Below.setCell ?_ (by (show _ ≤ _; repeat (first | exact Nat.le_refl _ | assumption | (omega; done) | with_reducible exact le_past (Nat.le_refl _) | with_reducible refine le_past ?_ | with_reducible refine le_al ?_ | with_reducible refine le_set ?_ | with_reducible refine le_p1 ?_))) _)))
  have hB := bel_trans HB0.out hb1
  have va := VA0.out.keep hb1
  have vb := VB0.out.keep hb1
  have hU : UA W0.heap.size false 0 W1 := by rw [hW]; exact ⟨by (first | (simp [go_sem]; done) | (simp [go_sem, ↓IntWalk.iteOmega]; done)), by (first | (simp [go_sem]; done) | (simp [go_sem, ↓IntWalk.iteOmega]; done)), by (first | (simp [go_sem]; done) | (simp [go_sem, ↓IntWalk.iteOmega]; done)), by (first | (simp [go_sem]; done) | (simp [go_sem, ↓IntWalk.iteOmega]; done)), by (first | (simp [go_sem]; done) | (simp [go_sem, ↓IntWalk.iteOmega]; done))⟩
  have hV : UA (W0.heap.size + 1) false 0 W1 := by rw [hW]; exact ⟨by (first | (simp [go_sem]; done) | (simp [go_sem, ↓IntWalk.iteOmega]; done)), by (first | (simp [go_sem]; done) | (simp [go_sem, ↓IntWalk.iteOmega]; done)), by (first | (simp [go_sem]; done) | (simp [go_sem, ↓IntWalk.iteOmega]; done)), by (first | (simp [go_sem]; done) | (simp [go_sem, ↓IntWalk.iteOmega]; done)), by (first | (simp [go_sem]; done) | (simp [go_sem, ↓IntWalk.iteOmega]; done))⟩
  have ia := iis_of w0.rs hB
  have ib := iis_of w1.rs hB
  have ja := w0.hV
  have jb := w1.hV
  have hz1 := hV.lt
  clear hW hb1 HB0 VA0 VB0 va_0 va_1 va_2 vb_0 vb_1 vb_2 hl1 hl2
  by_cases hck : chk a.R a.C a.V.length = 0
  rotate_left
  · skip
    have hc := xTurn (R := a.R) (C := a.C) ia.1
    rw [turnR_no hck] at hc
    have HC := Lib.hid hc
    clear hc
    have va_0 := va.c0
    have va_1 := va.c1
    have va_2 := va.c2
    go_upto_region 6 with ((go_at_call 24; refine HC.out.mono ?_; rintro e x1 ⟨A1, n1, c1, rfl, ho1, hb1⟩))
    have hs2 := hb1.size
    clear HC
    clear va_0 va_1 va_2
    refine wp_gen (fun W2 hW => ?_)
    have hs : Stp W2.heap.size W2.heap.size W1 W2 := (Stp.bel hb1).trans (by rw [hW]; exact Stp.bel (by (repeat (first | assumption | exact Below.refl _ _ | with_reducible refine past_t _ ?_ | with_reducible refine below_a _ ?_ | with_reducible refine Below.drew ?_ | with_reducible refine below_d _ ?_ | (with_reducible refine Below.setCell ?_ (by (show _ ≤ _; repeat (first | exact Nat.le_refl _ | assumption | (omega; done) | with_reducible exact le_past (Nat.le_refl _) | with_reducible refine le_past ?_ | with_reducible refine le_al ?_ | with_reducible refine le_set ?_ | with_reducible refine le_p1 ?_))) _)))))
    have hzW2 := hs.size
    replace hB := hs.below hB (by omega) (by omega)
    replace hU := hU.stp hs (by omega) (by omega)
    replace hV := hV.stp hs (by omega) (by omega)
    replace va := va.stp hs (by omega) (by omega)
    replace vb := vb.stp hs (by omega) (by omega)
    replace ia := ia.stp hs (by omega) (by omega)
    replace ib := ib.stp hs (by omega) (by omega)
    have b3 : Below x1.heap.size x1 W2 := by rw [hW]; (repeat (first | assumption | exact Below.refl _ _ | with_reducible refine past_t _ ?_ | with_reducible refine below_a _ ?_ | with_reducible refine Below.drew ?_ | with_reducible refine below_d _ ?_ | (with_reducible refine Below.setCell ?_ (by (show _ ≤ _; repeat (first | exact Nat.le_refl _ | assumption | (omega; done) | with_reducible exact le_past (Nat.le_refl _) | with_reducible refine le_past ?_ | with_reducible refine le_al ?_ | with_reducible refine le_set ?_ | with_reducible refine le_p1 ?_))) _)))
    have z_x1 : W1.heap.size ≤ x1.heap.size := hs2
    have m1 := (own_ri ho1).keep b3
    have v1 : Bx W2 x1.heap.size 0 0 (.slice A1 n1 c1) := by rw [hW]; exact ⟨by (first | (simp [go_sem]; done) | (simp [go_sem, ↓IntWalk.iteOmega]; done)), by (first | (simp [go_sem]; done) | (simp [go_sem, ↓IntWalk.iteOmega]; done)), by (first | (simp [go_sem]; done) | (simp [go_sem, ↓IntWalk.iteOmega]; done))⟩
    have y_v1 := World.block_lt_of_cell? _ _ v1.c0
    clear hW b3 hs hs2 ho1 hb1
    generalize x1.heap.size = k1 at *
    simp only at y_v1
    have hchk : ∀ W, Calls Try.prog 25 #[.agg #[.int .i64 a.R, .int .i64 a.C, .slice a.A a.V.length a.c]] W fun e w' => e = .returned (.int .i64 3) ∧ Below W.heap.size W w' := fun W => by have := mCheck a.R a.C a.A a.V.length a.c W; rwa [chk_no hck] at this
    have HB := Lib.hid hB
    have va_0 := va.c0
    have va_1 := va.c1
    have va_2 := va.c2
    clear hB hU hV va vb ia ib m1 v1
    go_wp2_with (first | (go_at_call 25; first | (with_reducible refine Calls_past2 (hchk _) (fun z => ?_)) | (with_reducible refine Calls_past (hchk _) (fun z => ?_))))
    go_ret
    exact ⟨rfl, bel_trans HB.out (by (repeat (first | assumption | exact Below.refl _ _ | with_reducible refine past_t _ ?_ | with_reducible refine below_a _ ?_ | with_reducible refine Below.drew ?_ | with_reducible refine below_d _ ?_ | (with_reducible refine Below.setCell ?_ (by (show _ ≤ _; repeat (first | exact Nat.le_refl _ | assumption | (omega; done) | with_reducible exact le_past (Nat.le_refl _) | with_reducible refine le_past ?_ | with_reducible refine le_al ?_ | with_reducible refine le_set ?_ | with_reducible refine le_p1 ?_))) _))))⟩
  · skip
    obtain ⟨T, E, G, ⟨t1, t2, t3, t4, t5, t6⟩, iT, iE, iG⟩ := turned_a hck ja
    obtain ⟨X5, f5, d5, e5, p5⟩ := t5 false 0
    have q5 := mulM_cnt e5
    simp only at q5
    obtain ⟨X6, f6, d6, e6, p6⟩ := t6 f5 d5
    have q6 := mulM_cnt e6
    simp only at q6
    clear t5 t6
    have hc := xTurn (R := a.R) (C := a.C) ia.1
    rw [t1] at hc
    have HC := Lib.hid hc
    clear hc
    have va_0 := va.c0
    have va_1 := va.c1
    have va_2 := va.c2
    go_upto_region 8 with ((go_at_call 24; refine HC.out.mono ?_; rintro e x1 ⟨A1, n1, c1, rfl, ho1, hb1⟩))
    have hs2 := hb1.size
    clear HC
    clear va_0 va_1 va_2
    refine wp_gen (fun W2 hW => ?_)
    have hs : Stp W2.heap.size W2.heap.size W1 W2 := (Stp.bel hb1).trans (by rw [hW]; exact Stp.bel (by (repeat (first | assumption | exact Below.refl _ _ | with_reducible refine past_t _ ?_ | with_reducible refine below_a _ ?_ | with_reducible refine Below.drew ?_ | with_reducible refine below_d _ ?_ | (with_reducible refine Below.setCell ?_ (by (show _ ≤ _; repeat (first | exact Nat.le_refl _ | assumption | (omega; done) | with_reducible exact le_past (Nat.le_refl _) | with_reducible refine le_past ?_ | with_reducible refine le_al ?_ | with_reducible refine le_set ?_ | with_reducible refine le_p1 ?_))) _)))))
    have hzW2 := hs.size
    replace hB := hs.below hB (by omega) (by omega)
    replace hU := hU.stp hs (by omega) (by omega)
    replace hV := hV.stp hs (by omega) (by omega)
    replace va := va.stp hs (by omega) (by omega)
    replace vb := vb.stp hs (by omega) (by omega)
    replace ia := ia.stp hs (by omega) (by omega)
    replace ib := ib.stp hs (by omega) (by omega)
    have b3 : Below x1.heap.size x1 W2 := by rw [hW]; (repeat (first | assumption | exact Below.refl _ _ | with_reducible refine past_t _ ?_ | with_reducible refine below_a _ ?_ | with_reducible refine Below.drew ?_ | with_reducible refine below_d _ ?_ | (with_reducible refine Below.setCell ?_ (by (show _ ≤ _; repeat (first | exact Nat.le_refl _ | assumption | (omega; done) | with_reducible exact le_past (Nat.le_refl _) | with_reducible refine le_past ?_ | with_reducible refine le_al ?_ | with_reducible refine le_set ?_ | with_reducible refine le_p1 ?_))) _)))
    have z_x1 : W1.heap.size ≤ x1.heap.size := hs2
    have m1 := (own_ri ho1).keep b3
    have v1 : Bx W2 x1.heap.size a.C a.R (.slice A1 n1 c1) := by rw [hW]; exact ⟨by (first | (simp [go_sem]; done) | (simp [go_sem, ↓IntWalk.iteOmega]; done)), by (first | (simp [go_sem]; done) | (simp [go_sem, ↓IntWalk.iteOmega]; done)), by (first | (simp [go_sem]; done) | (simp [go_sem, ↓IntWalk.iteOmega]; done))⟩
    have y_v1 := World.block_lt_of_cell? _ _ v1.c0
    clear hW b3 hs hs2 ho1 hb1
    generalize x1.heap.size = k1 at *
    simp only at y_v1
    have hc := xTurn (R := a.C) (C := a.R) m1.1
    rw [t2] at hc
    have HC := Lib.hid hc
    clear hc
    have v1_0 := v1.c0
    have v1_1 := v1.c1
    have v1_2 := v1.c2
    go_upto_region 9 with ((go_at_call 24; refine HC.out.mono ?_; rintro e x2 ⟨A2, n2, c2, rfl, ho2, hb2⟩))
    have hs2 := hb2.size
    clear HC
    clear v1_0 v1_1 v1_2
    refine wp_gen (fun W3 hW => ?_)
    have hs : Stp W3.heap.size W3.heap.size W2 W3 := (Stp.bel hb2).trans (by rw [hW]; exact Stp.bel (by (repeat (first | assumption | exact Below.refl _ _ | with_reducible refine past_t _ ?_ | with_reducible refine below_a _ ?_ | with_reducible refine Below.drew ?_ | with_reducible refine below_d _ ?_ | (with_reducible refine Below.setCell ?_ (by (show _ ≤ _; repeat (first | exact Nat.le_refl _ | assumption | (omega; done) | with_reducible exact le_past (Nat.le_refl _) | with_reducible refine le_past ?_ | with_reducible refine le_al ?_ | with_reducible refine le_set ?_ | with_reducible refine le_p1 ?_))) _)))))
    have hzW3 := hs.size
    replace hB := hs.below hB (by omega) (by omega)
    replace hU := hU.stp hs (by omega) (by omega)
    replace hV := hV.stp hs (by omega) (by omega)
    replace va := va.stp hs (by omega) (by omega)
    replace vb := vb.stp hs (by omega) (by omega)
    replace ia := ia.stp hs (by omega) (by omega)
    replace ib := ib.stp hs (by omega) (by omega)
    replace m1 := m1.stp hs (by omega) (by omega)
    replace v1 := v1.stp hs (by omega) (by omega)
    have b3 : Below x2.heap.size x2 W3 := by rw [hW]; (repeat (first | assumption | exact Below.refl _ _ | with_reducible refine past_t _ ?_ | with_reducible refine below_a _ ?_ | with_reducible refine Below.drew ?_ | with_reducible refine below_d _ ?_ | (with_reducible refine Below.setCell ?_ (by (show _ ≤ _; repeat (first | exact Nat.le_refl _ | assumption | (omega; done) | with_reducible exact le_past (Nat.le_refl _) | with_reducible refine le_past ?_ | with_reducible refine le_al ?_ | with_reducible refine le_set ?_ | with_reducible refine le_p1 ?_))) _)))
    have z_x2 : W2.heap.size ≤ x2.heap.size := hs2
    have m2 := (own_ri ho2).keep b3
    have v2 : Bx W3 x2.heap.size a.R a.C (.slice A2 n2 c2) := by rw [hW]; exact ⟨by (first | (simp [go_sem]; done) | (simp [go_sem, ↓IntWalk.iteOmega]; done)), by (first | (simp [go_sem]; done) | (simp [go_sem, ↓IntWalk.iteOmega]; done)), by (first | (simp [go_sem]; done) | (simp [go_sem, ↓IntWalk.iteOmega]; done))⟩
    have y_v2 := World.block_lt_of_cell? _ _ v2.c0
    clear hW b3 hs hs2 ho2 hb2
    generalize x2.heap.size = k2 at *
    simp only at y_v2
    have hc := xEye a.R W3
    rw [t3] at hc
    have HC := Lib.hid hc
    clear hc
    have va_0 := va.c0
    have va_1 := va.c1
    have va_2 := va.c2
    go_upto_region 10 with ((go_at_call 26; refine HC.out.mono ?_; rintro e x3 ⟨A3, n3, c3, rfl, ho3, hb3⟩))
    have hs2 := hb3.size
    clear HC
    clear va_0 va_1 va_2
    refine wp_gen (fun W4 hW => ?_)
    have hs : Stp W4.heap.size W4.heap.size W3 W4 := (Stp.bel hb3).trans (by rw [hW]; exact Stp.bel (by (repeat (first | assumption | exact Below.refl _ _ | with_reducible refine past_t _ ?_ | with_reducible refine below_a _ ?_ | with_reducible refine Below.drew ?_ | with_reducible refine below_d _ ?_ | (with_reducible refine Below.setCell ?_ (by (show _ ≤ _; repeat (first | exact Nat.le_refl _ | assumption | (omega; done) | with_reducible exact le_past (Nat.le_refl _) | with_reducible refine le_past ?_ | with_reducible refine le_al ?_ | with_reducible refine le_set ?_ | with_reducible refine le_p1 ?_))) _)))))
    have hzW4 := hs.size
    replace hB := hs.below hB (by omega) (by omega)
    replace hU := hU.stp hs (by omega) (by omega)
    replace hV := hV.stp hs (by omega) (by omega)
    replace va := va.stp hs (by omega) (by omega)
    replace vb := vb.stp hs (by omega) (by omega)
    replace ia := ia.stp hs (by omega) (by omega)
    replace ib := ib.stp hs (by omega) (by omega)
    replace m1 := m1.stp hs (by omega) (by omega)
    replace v1 := v1.stp hs (by omega) (by omega)
    replace m2 := m2.stp hs (by omega) (by omega)
    replace v2 := v2.stp hs (by omega) (by omega)
    have b3 : Below x3.heap.size x3 W4 := by rw [hW]; (repeat (first | assumption | exact Below.refl _ _ | with_reducible refine past_t _ ?_ | with_reducible refine below_a _ ?_ | with_reducible refine Below.drew ?_ | with_reducible refine below_d _ ?_ | (with_reducible refine Below.setCell ?_ (by (show _ ≤ _; repeat (first | exact Nat.le_refl _ | assumption | (omega; done) | with_reducible exact le_past (Nat.le_refl _) | with_reducible refine le_past ?_ | with_reducible refine le_al ?_ | with_reducible refine le_set ?_ | with_reducible refine le_p1 ?_))) _)))
    have z_x3 : W3.heap.size ≤ x3.heap.size := hs2
    have m3 := (own_ri ho3).keep b3
    have v3 : Bx W4 x3.heap.size a.R a.R (.slice A3 n3 c3) := by rw [hW]; exact ⟨by (first | (simp [go_sem]; done) | (simp [go_sem, ↓IntWalk.iteOmega]; done)), by (first | (simp [go_sem]; done) | (simp [go_sem, ↓IntWalk.iteOmega]; done)), by (first | (simp [go_sem]; done) | (simp [go_sem, ↓IntWalk.iteOmega]; done))⟩
    have y_v3 := World.block_lt_of_cell? _ _ v3.c0
    clear hW b3 hs hs2 ho3 hb3
    generalize x3.heap.size = k3 at *
    simp only at y_v3
    have hc := xEye a.C W4
    rw [t4] at hc
    have HC := Lib.hid hc
    clear hc
    have va_0 := va.c0
    have va_1 := va.c1
    have va_2 := va.c2
    go_upto_region 11 with ((go_at_call 26; refine HC.out.mono ?_; rintro e x4 ⟨A4, n4, c4, rfl, ho4, hb4⟩))
    have hs2 := hb4.size
    clear HC
    clear va_0 va_1 va_2
    refine wp_gen (fun W5 hW => ?_)
    have hs : Stp W5.heap.size W5.heap.size W4 W5 := (Stp.bel hb4).trans (by rw [hW]; exact Stp.bel (by (repeat (first | assumption | exact Below.refl _ _ | with_reducible refine past_t _ ?_ | with_reducible refine below_a _ ?_ | with_reducible refine Below.drew ?_ | with_reducible refine below_d _ ?_ | (with_reducible refine Below.setCell ?_ (by (show _ ≤ _; repeat (first | exact Nat.le_refl _ | assumption | (omega; done) | with_reducible exact le_past (Nat.le_refl _) | with_reducible refine le_past ?_ | with_reducible refine le_al ?_ | with_reducible refine le_set ?_ | with_reducible refine le_p1 ?_))) _)))))
    have hzW5 := hs.size
    replace hB := hs.below hB (by omega) (by omega)
    replace hU := hU.stp hs (by omega) (by omega)
    replace hV := hV.stp hs (by omega) (by omega)
    replace va := va.stp hs (by omega) (by omega)
    replace vb := vb.stp hs (by omega) (by omega)
    replace ia := ia.stp hs (by omega) (by omega)
    replace ib := ib.stp hs (by omega) (by omega)
    replace m1 := m1.stp hs (by omega) (by omega)
    replace v1 := v1.stp hs (by omega) (by omega)
    replace m2 := m2.stp hs (by omega) (by omega)
    replace v2 := v2.stp hs (by omega) (by omega)
    replace m3 := m3.stp hs (by omega) (by omega)
    replace v3 := v3.stp hs (by omega) (by omega)
    have b3 : Below x4.heap.size x4 W5 := by rw [hW]; (repeat (first | assumption | exact Below.refl _ _ | with_reducible refine past_t _ ?_ | with_reducible refine below_a _ ?_ | with_reducible refine Below.drew ?_ | with_reducible refine below_d _ ?_ | (with_reducible refine Below.setCell ?_ (by (show _ ≤ _; repeat (first | exact Nat.le_refl _ | assumption | (omega; done) | with_reducible exact le_past (Nat.le_refl _) | with_reducible refine le_past ?_ | with_reducible refine le_al ?_ | with_reducible refine le_set ?_ | with_reducible refine le_p1 ?_))) _)))
    have z_x4 : W4.heap.size ≤ x4.heap.size := hs2
    have m4 := (own_ri ho4).keep b3
    have v4 : Bx W5 x4.heap.size a.C a.C (.slice A4 n4 c4) := by rw [hW]; exact ⟨by (first | (simp [go_sem]; done) | (simp [go_sem, ↓IntWalk.iteOmega]; done)), by (first | (simp [go_sem]; done) | (simp [go_sem, ↓IntWalk.iteOmega]; done)), by (first | (simp [go_sem]; done) | (simp [go_sem, ↓IntWalk.iteOmega]; done))⟩
    have y_v4 := World.block_lt_of_cell? _ _ v4.c0
    clear hW b3 hs hs2 ho4 hb4
    generalize x4.heap.size = k4 at *
    simp only at y_v4
    have hc := xMul hU (by omega) (R1 := a.R) (C1 := a.R) m3.1 (m3.fr (by omega)) iE (R2 := a.R) (C2 := a.C) ia.1 (ia.fr (by omega)) ja
    rw [e5] at hc
    have HC := Lib.hid hc
    clear hc
    have v3_0 := v3.c0
    have v3_1 := v3.c1
    have v3_2 := v3.c2
    have va_0 := va.c0
    have va_1 := va.c1
    have va_2 := va.c2
    go_upto_region 12 with ((go_at_call 16; refine HC.out.mono ?_; rintro e x5 ⟨A5, n5, c5, rfl, ho5, hb5⟩))
    clear HC
    have hs2 : W5.heap.size ≤ x5.heap.size := by have := hb5.size; rwa [put_size] at this
    have u3 := (hU.put f5 d5).keep (by rw [put_size]; exact hb5)
    clear v3_0 v3_1 v3_2
    clear va_0 va_1 va_2
    refine wp_gen (fun W6 hW => ?_)
    have hs : Stp W0.heap.size W0.heap.size W5 W6 := (Stp.put1 hb5).trans (by rw [hW]; exact Stp.bel (by (repeat (first | assumption | exact Below.refl _ _ | with_reducible refine past_t _ ?_ | with_reducible refine below_a _ ?_ | with_reducible refine Below.drew ?_ | with_reducible refine below_d _ ?_ | (with_reducible refine Below.setCell ?_ (by (show _ ≤ _; repeat (first | exact Nat.le_refl _ | assumption | (omega; done) | with_reducible exact le_past (Nat.le_refl _) | with_reducible refine le_past ?_ | with_reducible refine le_al ?_ | with_reducible refine le_set ?_ | with_reducible refine le_p1 ?_))) _)))))
    have hzW6 := hs.size
    replace hB := hs.below hB (by omega) (by omega)
    replace hV := hV.stp hs (by omega) (by omega)
    replace va := va.stp hs (by omega) (by omega)
    replace vb := vb.stp hs (by omega) (by omega)
    replace ia := ia.stp hs (by omega) (by omega)
    replace ib := ib.stp hs (by omega) (by omega)
    replace m1 := m1.stp hs (by omega) (by omega)
    replace v1 := v1.stp hs (by omega) (by omega)
    replace m2 := m2.stp hs (by omega) (by omega)
    replace v2 := v2.stp hs (by omega) (by omega)
    replace m3 := m3.stp hs (by omega) (by omega)
    replace v3 := v3.stp hs (by omega) (by omega)
    replace m4 := m4.stp hs (by omega) (by omega)
    replace v4 := v4.stp hs (by omega) (by omega)
    replace hU := u3.keep (by rw [hW]; (repeat (first | assumption | exact Below.refl _ _ | with_reducible refine past_t _ ?_ | with_reducible refine below_a _ ?_ | with_reducible refine Below.drew ?_ | with_reducible refine below_d _ ?_ | (with_reducible refine Below.setCell ?_ (by (show _ ≤ _; repeat (first | exact Nat.le_refl _ | assumption | (omega; done) | with_reducible exact le_past (Nat.le_refl _) | with_reducible refine le_past ?_ | with_reducible refine le_al ?_ | with_reducible refine le_set ?_ | with_reducible refine le_p1 ?_))) _))) : Below x5.heap.size x5 W6)
    clear u3
    have b3 : Below x5.heap.size x5 W6 := by rw [hW]; (repeat (first | assumption | exact Below.refl _ _ | with_reducible refine past_t _ ?_ | with_reducible refine below_a _ ?_ | with_reducible refine Below.drew ?_ | with_reducible refine below_d _ ?_ | (with_reducible refine Below.setCell ?_ (by (show _ ≤ _; repeat (first | exact Nat.le_refl _ | assumption | (omega; done) | with_reducible exact le_past (Nat.le_refl _) | with_reducible refine le_past ?_ | with_reducible refine le_al ?_ | with_reducible refine le_set ?_ | with_reducible refine le_p1 ?_))) _)))
    have z_x5 : W5.heap.size ≤ x5.heap.size := hs2
    have m5 := (own_ri ho5).keep b3
    have v5 : Bx W6 x5.heap.size a.R a.C (.slice A5 n5 c5) := by rw [hW]; exact ⟨by (first | (simp [go_sem]; done) | (simp [go_sem, ↓IntWalk.iteOmega]; done)), by (first | (simp [go_sem]; done) | (simp [go_sem, ↓IntWalk.iteOmega]; done)), by (first | (simp [go_sem]; done) | (simp [go_sem, ↓IntWalk.iteOmega]; done))⟩
    have y_v5 := World.block_lt_of_cell? _ _ v5.c0
    clear hW b3 hs hs2 ho5 hb5
    generalize x5.heap.size = k5 at *
    simp only at y_v5
    have hc := xMul hU (by omega) (R1 := a.R) (C1 := a.C) ia.1 (ia.fr (by omega)) ja (R2 := a.C) (C2 := a.C) m4.1 (m4.fr (by omega)) iG
    rw [e6] at hc
    have HC := Lib.hid hc
    clear hc
    have va_0 := va.c0
    have va_1 := va.c1
    have va_2 := va.c2
    have v4_0 := v4.c0
    have v4_1 := v4.c1
    have v4_2 := v4.c2
    go_upto_region 13 with ((go_at_call 16; refine HC.out.mono ?_; rintro e x6 ⟨A6, n6, c6, rfl, ho6, hb6⟩))
    clear HC
    have hs2 : W6.heap.size ≤ x6.heap.size := by have := hb6.size; rwa [put_size] at this
    have u3 := (hU.put f6 d6).keep (by rw [put_size]; exact hb6)
    clear va_0 va_1 va_2
    clear v4_0 v4_1 v4_2
    refine wp_gen (fun W7 hW => ?_)
    have hs : Stp W0.heap.size W0.heap.size W6 W7 := (Stp.put1 hb6).trans (by rw [hW]; exact Stp.bel (by (repeat (first | assumption | exact Below.refl _ _ | with_reducible refine past_t _ ?_ | with_reducible refine below_a _ ?_ | with_reducible refine Below.drew ?_ | with_reducible refine below_d _ ?_ | (with_reducible refine Below.setCell ?_ (by (show _ ≤ _; repeat (first | exact Nat.le_refl _ | assumption | (omega; done) | with_reducible exact le_past (Nat.le_refl _) | with_reducible refine le_past ?_ | with_reducible refine le_al ?_ | with_reducible refine le_set ?_ | with_reducible refine le_p1 ?_))) _)))))
    have hzW7 := hs.size
    replace hB := hs.below hB (by omega) (by omega)
    replace hV := hV.stp hs (by omega) (by omega)
    replace va := va.stp hs (by omega) (by omega)
    replace vb := vb.stp hs (by omega) (by omega)
    replace ia := ia.stp hs (by omega) (by omega)
    replace ib := ib.stp hs (by omega) (by omega)
    replace m1 := m1.stp hs (by omega) (by omega)
    replace v1 := v1.stp hs (by omega) (by omega)
    replace m2 := m2.stp hs (by omega) (by omega)
    replace v2 := v2.stp hs (by omega) (by omega)
    replace m3 := m3.stp hs (by omega) (by omega)
    replace v3 := v3.stp hs (by omega) (by omega)
    replace m4 := m4.stp hs (by omega) (by omega)
    replace v4 := v4.stp hs (by omega) (by omega)
    replace m5 := m5.stp hs (by omega) (by omega)
    replace v5 := v5.stp hs (by omega) (by omega)
    replace hU := u3.keep (by rw [hW]; (repeat (first | assumption | exact Below.refl _ _ | with_reducible refine past_t _ ?_ | with_reducible refine below_a _ ?_ | with_reducible refine Below.drew ?_ | with_reducible refine below_d _ ?_ | (with_reducible refine Below.setCell ?_ (by (show _ ≤ _; repeat (first | exact Nat.le_refl _ | assumption | (omega; done) | with_reducible exact le_past (Nat.le_refl _) | with_reducible refine le_past ?_ | with_reducible refine le_al ?_ | with_reducible refine le_set ?_ | with_reducible refine le_p1 ?_))) _))) : Below x6.heap.size x6 W7)
    clear u3
    have b3 : Below x6.heap.size x6 W7 := by rw [hW]; (repeat (first | assumption | exact Below.refl _ _ | with_reducible refine past_t _ ?_ | with_reducible refine below_a _ ?_ | with_reducible refine Below.drew ?_ | with_reducible refine below_d _ ?_ | (with_reducible refine Below.setCell ?_ (by (show _ ≤ _; repeat (first | exact Nat.le_refl _ | assumption | (omega; done) | with_reducible exact le_past (Nat.le_refl _) | with_reducible refine le_past ?_ | with_reducible refine le_al ?_ | with_reducible refine le_set ?_ | with_reducible refine le_p1 ?_))) _)))
    have z_x6 : W6.heap.size ≤ x6.heap.size := hs2
    have m6 := (own_ri ho6).keep b3
    have v6 : Bx W7 x6.heap.size a.R a.C (.slice A6 n6 c6) := by rw [hW]; exact ⟨by (first | (simp [go_sem]; done) | (simp [go_sem, ↓IntWalk.iteOmega]; done)), by (first | (simp [go_sem]; done) | (simp [go_sem, ↓IntWalk.iteOmega]; done)), by (first | (simp [go_sem]; done) | (simp [go_sem, ↓IntWalk.iteOmega]; done))⟩
    have y_v6 := World.block_lt_of_cell? _ _ v6.c0
    clear hW b3 hs hs2 ho6 hb6
    generalize x6.heap.size = k6 at *
    simp only at y_v6
    clear m3 m4 v3 v4 iE iG t2 t3 t4 e5 e6
    have M2 := Lib.hid m2.1
    have IA := Lib.hid ia.1
    have v2_0 := v2.c0
    have v2_1 := v2.c1
    have v2_2 := v2.c2
    have va_0 := va.c0
    have va_1 := va.c1
    have va_2 := va.c2
    go_upto_region 15 with ((go_at_call 20; with_reducible refine Calls_past (kSameMat (R := a.R) (C := a.C) (M2.out.keep ?_) (IA.out.keep ?_)) (fun z => ?_); (focus ((first | ((repeat (first | assumption | exact Below.refl _ _ | with_reducible refine past_t _ ?_ | with_reducible refine below_a _ ?_ | with_reducible refine Below.drew ?_ | with_reducible refine below_d _ ?_ | (with_reducible refine Below.setCell ?_ (by (show _ ≤ _; repeat (first | exact Nat.le_refl _ | assumption | (omega; done) | with_reducible exact le_past (Nat.le_refl _) | with_reducible refine le_past ?_ | with_reducible refine le_al ?_ | with_reducible refine le_set ?_ | with_reducible refine le_p1 ?_))) _))); done) | (with_reducible rfl; done) | omega | (rfl; done) | (simp; done) | (simp [go_sem]; done) | (simp; omega) | (simp [go_sem]; omega)); done)); (focus ((first | ((repeat (first | assumption | exact Below.refl _ _ | with_reducible refine past_t _ ?_ | with_reducible refine below_a _ ?_ | with_reducible refine Below.drew ?_ | with_reducible refine below_d _ ?_ | (with_reducible refine Below.setCell ?_ (by (show _ ≤ _; repeat (first | exact Nat.le_refl _ | assumption | (omega; done) | with_reducible exact le_past (Nat.le_refl _) | with_reducible refine le_past ?_ | with_reducible refine le_al ?_ | with_reducible refine le_set ?_ | with_reducible refine le_p1 ?_))) _))); done) | (with_reducible rfl; done) | omega | (rfl; done) | (simp; done) | (simp [go_sem]; done) | (simp; omega) | (simp [go_sem]; omega)); done))))
    clear M2 IA m2 v2
    clear v2_0 v2_1 v2_2
    clear va_0 va_1 va_2
    refine wp_gen (fun W8 hW => ?_)
    have hs : Stp W8.heap.size W8.heap.size W7 W8 := by rw [hW]; exact Stp.bel (by (repeat (first | assumption | exact Below.refl _ _ | with_reducible refine past_t _ ?_ | with_reducible refine below_a _ ?_ | with_reducible refine Below.drew ?_ | with_reducible refine below_d _ ?_ | (with_reducible refine Below.setCell ?_ (by (show _ ≤ _; repeat (first | exact Nat.le_refl _ | assumption | (omega; done) | with_reducible exact le_past (Nat.le_refl _) | with_reducible refine le_past ?_ | with_reducible refine le_al ?_ | with_reducible refine le_set ?_ | with_reducible refine le_p1 ?_))) _))))
    have hzW8 := hs.size
    replace hB := hs.below hB (by omega) (by omega)
    replace hU := hU.stp hs (by omega) (by omega)
    replace hV := hV.stp hs (by omega) (by omega)
    replace va := va.stp hs (by omega) (by omega)
    replace vb := vb.stp hs (by omega) (by omega)
    replace ia := ia.stp hs (by omega) (by omega)
    replace ib := ib.stp hs (by omega) (by omega)
    replace m1 := m1.stp hs (by omega) (by omega)
    replace v1 := v1.stp hs (by omega) (by omega)
    replace m5 := m5.stp hs (by omega) (by omega)
    replace v5 := v5.stp hs (by omega) (by omega)
    replace m6 := m6.stp hs (by omega) (by omega)
    replace v6 := v6.stp hs (by omega) (by omega)
    clear hW hs
    obtain ⟨hR1, hC1⟩ : 0 < a.V.length ∧ 0 < a.V.length := by obtain ⟨R, C, -, -, hR, hC, hz⟩ := chk_yes hck; have := Nat.mul_le_mul hR.1 hC.1; exact ⟨by omega, by omega⟩
    obtain ⟨ba, oa, hA, hba, hrow⟩ := ia.1.at_ hR1
    have HR := Lib.hid hrow
    have FS := Lib.hid (And.intro hB (And.intro hU (And.intro hV (And.intro va (And.intro vb (And.intro ia (And.intro ib (And.intro m1 (And.intro v1 (And.intro m5 (And.intro v5 (And.intro m6 v6))))))))))))
    have va_2 := va.c2
    rw [hA] at va_2
    clear hrow hB hU hV va vb ia ib m1 v1 m5 v5 m6 v6
    go_wp2_with fail
    go_loopg [20, 21] a.V.length (fun g s20 s21 wr => ∃ k : Nat, k ≤ a.V.length ∧ a.V.length ≤ g + k ∧ s21 = .int .i64 k ∧ s20 = .bool (fixB a.V k) ∧ ∃ z, wr = past W8 z)
    case atStart => exact ⟨0, by omega, by omega, rfl, by rfl, _, past_of (Below.refl _ _)⟩
    case round =>
      obtain ⟨k, hk, hg, rfl, rfl, z, rfl⟩ := hrel
      by_cases hlt : k < a.V.length
      · have hcell := HR.out k hlt
        have hnx : fixB a.V (k + 1) = (fixB a.V k && decide (-9223372036854775807 ≤ a.V.getD k 0)) := rfl
        obtain ⟨x, hxx⟩ : ∃ x, a.V.getD k 0 = x := ⟨_, rfl⟩
        rw [hxx] at hnx hcell
        obtain ⟨s, hs⟩ : ∃ s, fixB a.V k = s := ⟨_, rfl⟩
        rw [hs] at hnx ⊢
        obtain ⟨p, hp⟩ : ∃ p : Bool, decide (-9223372036854775807 ≤ x) = p := ⟨_, rfl⟩
        rw [hp] at hnx
        have HN := Lib.hid hnx
        clear hnx hs hxx
        cases s <;> cases p
        all_goals
          go_wp2_with fail
          go_roundg (a.V.length - (k + 1))
          case measure => omega
          case rel => exact ⟨k + 1, by omega, by omega, by go_num, by rw [HN.out]; rfl, _, rfl⟩
      · obtain rfl : k = a.V.length := by omega
        clear HR
        go_upto_region 20 with fail
        clear va_2
        obtain ⟨hB, hU, hV, va, vb, ia, ib, m1, v1, m5, v5, m6, v6⟩ := FS.out
        clear FS
        go_cut [20, 158] (fun s20 s158 wc => s158 = .bool false ∧ ∃ z, wc = past W8 z)
        case first =>
          cases hfx : fixB a.V a.V.length
          · clear hB hU hV va vb ia ib m1 v1 m5 v5 m6 v6 p5 p6
            go_wp2_with fail
            go_meet
            exact ⟨rfl, _, rfl⟩
          · obtain ⟨rfl, rfl⟩ := p5 (fixB_all ja hfx)
            obtain ⟨rfl, rfl⟩ := p6 (fixB_all ja hfx)
            have M5 := Lib.hid m5.1
            have M6 := Lib.hid m6.1
            have ia1 := ia.1
            rw [hA] at ia1
            have IA := Lib.hid ia1
            clear ia1
            have HU := Lib.hid hU
            have v5_0 := v5.c0
            have v5_1 := v5.c1
            have v5_2 := v5.c2
            have v6_0 := v6.c0
            have v6_1 := v6.c1
            have v6_2 := v6.c2
            have va_0 := va.c0
            have va_1 := va.c1
            have va_2 := va.c2
            rw [hA] at va_2
            clear hB hU hV va vb ia ib m1 v1 m5 v5 m6 v6
            go_wp2_with (first | (go_at_call 20; with_reducible refine Calls_past (kSameMat (R := a.R) (C := a.C) (M5.out.keep ?_) (IA.out.keep ?_)) (fun z => ?_); (focus ((first | ((repeat (first | assumption | exact Below.refl _ _ | with_reducible refine past_t _ ?_ | with_reducible refine below_a _ ?_ | with_reducible refine Below.drew ?_ | with_reducible refine below_d _ ?_ | (with_reducible refine Below.setCell ?_ (by (show _ ≤ _; repeat (first | exact Nat.le_refl _ | assumption | (omega; done) | with_reducible exact le_past (Nat.le_refl _) | with_reducible refine le_past ?_ | with_reducible refine le_al ?_ | with_reducible refine le_set ?_ | with_reducible refine le_p1 ?_))) _))); done) | (with_reducible rfl; done) | omega | (rfl; done) | (simp; done) | (simp [go_sem]; done) | (simp; omega) | (simp [go_sem]; omega)); done)); (focus ((first | ((repeat (first | assumption | exact Below.refl _ _ | with_reducible refine past_t _ ?_ | with_reducible refine below_a _ ?_ | with_reducible refine Below.drew ?_ | with_reducible refine below_d _ ?_ | (with_reducible refine Below.setCell ?_ (by (show _ ≤ _; repeat (first | exact Nat.le_refl _ | assumption | (omega; done) | with_reducible exact le_past (Nat.le_refl _) | with_reducible refine le_past ?_ | with_reducible refine le_al ?_ | with_reducible refine le_set ?_ | with_reducible refine le_p1 ?_))) _))); done) | (with_reducible rfl; done) | omega | (rfl; done) | (simp; done) | (simp [go_sem]; done) | (simp; omega) | (simp [go_sem]; omega)); done))) | (go_at_call 20; with_reducible refine Calls_past (kSameMat (R := a.R) (C := a.C) (M6.out.keep ?_) (IA.out.keep ?_)) (fun z => ?_); (focus ((first | ((repeat (first | assumption | exact Below.refl _ _ | with_reducible refine past_t _ ?_ | with_reducible refine below_a _ ?_ | with_reducible refine Below.drew ?_ | with_reducible refine below_d _ ?_ | (with_reducible refine Below.setCell ?_ (by (show _ ≤ _; repeat (first | exact Nat.le_refl _ | assumption | (omega; done) | with_reducible exact le_past (Nat.le_refl _) | with_reducible refine le_past ?_ | with_reducible refine le_al ?_ | with_reducible refine le_set ?_ | with_reducible refine le_p1 ?_))) _))); done) | (with_reducible rfl; done) | omega | (rfl; done) | (simp; done) | (simp [go_sem]; done) | (simp; omega) | (simp [go_sem]; omega)); done)); (focus ((first | ((repeat (first | assumption | exact Below.refl _ _ | with_reducible refine past_t _ ?_ | with_reducible refine below_a _ ?_ | with_reducible refine Below.drew ?_ | with_reducible refine below_d _ ?_ | (with_reducible refine Below.setCell ?_ (by (show _ ≤ _; repeat (first | exact Nat.le_refl _ | assumption | (omega; done) | with_reducible exact le_past (Nat.le_refl _) | with_reducible refine le_past ?_ | with_reducible refine le_al ?_ | with_reducible refine le_set ?_ | with_reducible refine le_p1 ?_))) _))); done) | (with_reducible rfl; done) | omega | (rfl; done) | (simp; done) | (simp [go_sem]; done) | (simp; omega) | (simp [go_sem]; omega)); done))) | (go_at_call 22; with_reducible refine Calls_past (uCut (HU.out.keep ?_)) (fun z => ?_); (focus ((first | ((repeat (first | assumption | exact Below.refl _ _ | with_reducible refine past_t _ ?_ | with_reducible refine below_a _ ?_ | with_reducible refine Below.drew ?_ | with_reducible refine below_d _ ?_ | (with_reducible refine Below.setCell ?_ (by (show _ ≤ _; repeat (first | exact Nat.le_refl _ | assumption | (omega; done) | with_reducible exact le_past (Nat.le_refl _) | with_reducible refine le_past ?_ | with_reducible refine le_al ?_ | with_reducible refine le_set ?_ | with_reducible refine le_p1 ?_))) _))); done) | (with_reducible rfl; done) | omega | (rfl; done) | (simp; done) | (simp [go_sem]; done) | (simp; omega) | (simp [go_sem]; omega)); done))))
            go_meet
            exact ⟨rfl, _, past_of (by (repeat (first | assumption | exact Below.refl _ _ | with_reducible refine past_t _ ?_ | with_reducible refine below_a _ ?_ | with_reducible refine Below.drew ?_ | with_reducible refine below_d _ ?_ | (with_reducible refine Below.setCell ?_ (by (show _ ≤ _; repeat (first | exact Nat.le_refl _ | assumption | (omega; done) | with_reducible exact le_past (Nat.le_refl _) | with_reducible refine le_past ?_ | with_reducible refine le_al ?_ | with_reducible refine le_set ?_ | with_reducible refine le_p1 ?_))) _))))⟩
        case rest =>
          obtain ⟨rfl, z9, rfl⟩ := hcut
          clear m5 m6 v5 v6 p5 p6 hA hba
          go_upto_region 22 with (fail)
          refine wp_gen (fun W9 hW => ?_)
          have hs : Stp W9.heap.size W9.heap.size W8 W9 := by rw [hW]; exact Stp.bel (by (repeat (first | assumption | exact Below.refl _ _ | with_reducible refine past_t _ ?_ | with_reducible refine below_a _ ?_ | with_reducible refine Below.drew ?_ | with_reducible refine below_d _ ?_ | (with_reducible refine Below.setCell ?_ (by (show _ ≤ _; repeat (first | exact Nat.le_refl _ | assumption | (omega; done) | with_reducible exact le_past (Nat.le_refl _) | with_reducible refine le_past ?_ | with_reducible refine le_al ?_ | with_reducible refine le_set ?_ | with_reducible refine le_p1 ?_))) _))))
          have hzW9 := hs.size
          replace hB := hs.below hB (by omega) (by omega)
          replace hU := hU.stp hs (by omega) (by omega)
          replace hV := hV.stp hs (by omega) (by omega)
          replace va := va.stp hs (by omega) (by omega)
          replace vb := vb.stp hs (by omega) (by omega)
          replace ia := ia.stp hs (by omega) (by omega)
          replace ib := ib.stp hs (by omega) (by omega)
          replace m1 := m1.stp hs (by omega) (by omega)
          replace v1 := v1.stp hs (by omega) (by omega)
          clear hW hs
          by_cases hcb : ¬ chk b.R b.C b.V.length = 0
          · obtain ⟨r1, r2, r3⟩ := turned_no (aR := a.R) (aC := a.C) (a := a.V) (T := T) hcb f6 false d6 0
            have hc := xTurn (R := b.R) (C := b.C) ib.1
            rw [r1] at hc
            have HC := Lib.hid hc
            clear hc
            have vb_0 := vb.c0
            have vb_1 := vb.c1
            have vb_2 := vb.c2
            go_upto_region 23 with ((go_at_call 24; refine HC.out.mono ?_; rintro e x7 ⟨A7, n7, c7, rfl, ho7, hb7⟩))
            have hs2 := hb7.size
            clear HC
            clear vb_0 vb_1 vb_2
            refine wp_gen (fun W10 hW => ?_)
            have hs : Stp W10.heap.size W10.heap.size W9 W10 := (Stp.bel hb7).trans (by rw [hW]; exact Stp.bel (by (repeat (first | assumption | exact Below.refl _ _ | with_reducible refine past_t _ ?_ | with_reducible refine below_a _ ?_ | with_reducible refine Below.drew ?_ | with_reducible refine below_d _ ?_ | (with_reducible refine Below.setCell ?_ (by (show _ ≤ _; repeat (first | exact Nat.le_refl _ | assumption | (omega; done) | with_reducible exact le_past (Nat.le_refl _) | with_reducible refine le_past ?_ | with_reducible refine le_al ?_ | with_reducible refine le_set ?_ | with_reducible refine le_p1 ?_))) _)))))
            have hzW10 := hs.size
            replace hB := hs.below hB (by omega) (by omega)
            replace hU := hU.stp hs (by omega) (by omega)
            replace hV := hV.stp hs (by omega) (by omega)
            replace va := va.stp hs (by omega) (by omega)
            replace vb := vb.stp hs (by omega) (by omega)
            replace ia := ia.stp hs (by omega) (by omega)
            replace ib := ib.stp hs (by omega) (by omega)
            replace m1 := m1.stp hs (by omega) (by omega)
            replace v1 := v1.stp hs (by omega) (by omega)
            have b3 : Below x7.heap.size x7 W10 := by rw [hW]; (repeat (first | assumption | exact Below.refl _ _ | with_reducible refine past_t _ ?_ | with_reducible refine below_a _ ?_ | with_reducible refine Below.drew ?_ | with_reducible refine below_d _ ?_ | (with_reducible refine Below.setCell ?_ (by (show _ ≤ _; repeat (first | exact Nat.le_refl _ | assumption | (omega; done) | with_reducible exact le_past (Nat.le_refl _) | with_reducible refine le_past ?_ | with_reducible refine le_al ?_ | with_reducible refine le_set ?_ | with_reducible refine le_p1 ?_))) _)))
            have z_x7 : W9.heap.size ≤ x7.heap.size := hs2
            have m7 := (own_ri ho7).keep b3
            have v7 : Bx W10 x7.heap.size 0 0 (.slice A7 n7 c7) := by rw [hW]; exact ⟨by (first | (simp [go_sem]; done) | (simp [go_sem, ↓IntWalk.iteOmega]; done)), by (first | (simp [go_sem]; done) | (simp [go_sem, ↓IntWalk.iteOmega]; done)), by (first | (simp [go_sem]; done) | (simp [go_sem, ↓IntWalk.iteOmega]; done))⟩
            have y_v7 := World.block_lt_of_cell? _ _ v7.c0
            clear hW b3 hs hs2 ho7 hb7
            generalize x7.heap.size = k7 at *
            simp only at y_v7
            have hc := xMul hU (by omega) (R1 := a.R) (C1 := a.C) ia.1 (ia.fr (by omega)) ja (R2 := b.R) (C2 := b.C) ib.1 (ib.fr (by omega)) jb
            rw [r2] at hc
            have HC := Lib.hid hc
            clear hc
            have va_0 := va.c0
            have va_1 := va.c1
            have va_2 := va.c2
            have vb_0 := vb.c0
            have vb_1 := vb.c1
            have vb_2 := vb.c2
            go_upto_region 24 with ((go_at_call 16; refine HC.out.mono ?_; rintro e x8 ⟨A8, n8, c8, rfl, ho8, hb8⟩))
            clear HC
            have hs2 : W10.heap.size ≤ x8.heap.size := by have := hb8.size; rwa [put_size] at this
            have u3 := (hU.put f6 d6).keep (by rw [put_size]; exact hb8)
            clear va_0 va_1 va_2
            clear vb_0 vb_1 vb_2
            refine wp_gen (fun W11 hW => ?_)
            have hs : Stp W0.heap.size W0.heap.size W10 W11 := (Stp.put1 hb8).trans (by rw [hW]; exact Stp.bel (by (repeat (first | assumption | exact Below.refl _ _ | with_reducible refine past_t _ ?_ | with_reducible refine below_a _ ?_ | with_reducible refine Below.drew ?_ | with_reducible refine below_d _ ?_ | (with_reducible refine Below.setCell ?_ (by (show _ ≤ _; repeat (first | exact Nat.le_refl _ | assumption | (omega; done) | with_reducible exact le_past (Nat.le_refl _) | with_reducible refine le_past ?_ | with_reducible refine le_al ?_ | with_reducible refine le_set ?_ | with_reducible refine le_p1 ?_))) _)))))
            have hzW11 := hs.size
            replace hB := hs.below hB (by omega) (by omega)
            replace hV := hV.stp hs (by omega) (by omega)
            replace va := va.stp hs (by omega) (by omega)
            replace vb := vb.stp hs (by omega) (by omega)
            replace ia := ia.stp hs (by omega) (by omega)
            replace ib := ib.stp hs (by omega) (by omega)
            replace m1 := m1.stp hs (by omega) (by omega)
            replace v1 := v1.stp hs (by omega) (by omega)
            replace m7 := m7.stp hs (by omega) (by omega)
            replace v7 := v7.stp hs (by omega) (by omega)
            replace hU := u3.keep (by rw [hW]; (repeat (first | assumption | exact Below.refl _ _ | with_reducible refine past_t _ ?_ | with_reducible refine below_a _ ?_ | with_reducible refine Below.drew ?_ | with_reducible refine below_d _ ?_ | (with_reducible refine Below.setCell ?_ (by (show _ ≤ _; repeat (first | exact Nat.le_refl _ | assumption | (omega; done) | with_reducible exact le_past (Nat.le_refl _) | with_reducible refine le_past ?_ | with_reducible refine le_al ?_ | with_reducible refine le_set ?_ | with_reducible refine le_p1 ?_))) _))) : Below x8.heap.size x8 W11)
            clear u3
            have b3 : Below x8.heap.size x8 W11 := by rw [hW]; (repeat (first | assumption | exact Below.refl _ _ | with_reducible refine past_t _ ?_ | with_reducible refine below_a _ ?_ | with_reducible refine Below.drew ?_ | with_reducible refine below_d _ ?_ | (with_reducible refine Below.setCell ?_ (by (show _ ≤ _; repeat (first | exact Nat.le_refl _ | assumption | (omega; done) | with_reducible exact le_past (Nat.le_refl _) | with_reducible refine le_past ?_ | with_reducible refine le_al ?_ | with_reducible refine le_set ?_ | with_reducible refine le_p1 ?_))) _)))
            have z_x8 : W10.heap.size ≤ x8.heap.size := hs2
            have m8 := (own_ri ho8).keep b3
            have v8 : Bx W11 x8.heap.size 0 0 (.slice A8 n8 c8) := by rw [hW]; exact ⟨by (first | (simp [go_sem]; done) | (simp [go_sem, ↓IntWalk.iteOmega]; done)), by (first | (simp [go_sem]; done) | (simp [go_sem, ↓IntWalk.iteOmega]; done)), by (first | (simp [go_sem]; done) | (simp [go_sem, ↓IntWalk.iteOmega]; done))⟩
            have y_v8 := World.block_lt_of_cell? _ _ v8.c0
            clear hW b3 hs hs2 ho8 hb8
            generalize x8.heap.size = k8 at *
            simp only at y_v8
            have hc := xMul hV (by omega) (R1 := 0) (C1 := 0) m7.1 (m7.fr (by omega)) (allI_of (by decide)) (R2 := a.C) (C2 := a.R) m1.1 (m1.fr (by omega)) iT
            rw [r3] at hc
            have HC := Lib.hid hc
            clear hc
            have v7_0 := v7.c0
            have v7_1 := v7.c1
            have v7_2 := v7.c2
            have v1_0 := v1.c0
            have v1_1 := v1.c1
            have v1_2 := v1.c2
            go_upto_region 25 with ((go_at_call 16; refine HC.out.mono ?_; rintro e x9 ⟨A9, n9, c9, rfl, ho9, hb9⟩))
            clear HC
            have hs2 : W11.heap.size ≤ x9.heap.size := by have := hb9.size; rwa [put_size] at this
            have u3 := (hV.put false 0).keep (by rw [put_size]; exact hb9)
            clear v7_0 v7_1 v7_2
            clear v1_0 v1_1 v1_2
            refine wp_gen (fun W12 hW => ?_)
            have hs : Stp (W0.heap.size + 1) (W0.heap.size + 1) W11 W12 := (Stp.put1 hb9).trans (by rw [hW]; exact Stp.bel (by (repeat (first | assumption | exact Below.refl _ _ | with_reducible refine past_t _ ?_ | with_reducible refine below_a _ ?_ | with_reducible refine Below.drew ?_ | with_reducible refine below_d _ ?_ | (with_reducible refine Below.setCell ?_ (by (show _ ≤ _; repeat (first | exact Nat.le_refl _ | assumption | (omega; done) | with_reducible exact le_past (Nat.le_refl _) | with_reducible refine le_past ?_ | with_reducible refine le_al ?_ | with_reducible refine le_set ?_ | with_reducible refine le_p1 ?_))) _)))))
            have hzW12 := hs.size
            replace hB := hs.below hB (by omega) (by omega)
            replace hU := hU.stp hs (by omega) (by omega)
            replace va := va.stp hs (by omega) (by omega)
            replace vb := vb.stp hs (by omega) (by omega)
            replace ia := ia.stp hs (by omega) (by omega)
            replace ib := ib.stp hs (by omega) (by omega)
            replace m1 := m1.stp hs (by omega) (by omega)
            replace v1 := v1.stp hs (by omega) (by omega)
            replace m7 := m7.stp hs (by omega) (by omega)
            replace v7 := v7.stp hs (by omega) (by omega)
            replace m8 := m8.stp hs (by omega) (by omega)
            replace v8 := v8.stp hs (by omega) (by omega)
            replace hV := u3.keep (by rw [hW]; (repeat (first | assumption | exact Below.refl _ _ | with_reducible refine past_t _ ?_ | with_reducible refine below_a _ ?_ | with_reducible refine Below.drew ?_ | with_reducible refine below_d _ ?_ | (with_reducible refine Below.setCell ?_ (by (show _ ≤ _; repeat (first | exact Nat.le_refl _ | assumption | (omega; done) | with_reducible exact le_past (Nat.le_refl _) | with_reducible refine le_past ?_ | with_reducible refine le_al ?_ | with_reducible refine le_set ?_ | with_reducible refine le_p1 ?_))) _))) : Below x9.heap.size x9 W12)
            clear u3
            have b3 : Below x9.heap.size x9 W12 := by rw [hW]; (repeat (first | assumption | exact Below.refl _ _ | with_reducible refine past_t _ ?_ | with_reducible refine below_a _ ?_ | with_reducible refine Below.drew ?_ | with_reducible refine below_d _ ?_ | (with_reducible refine Below.setCell ?_ (by (show _ ≤ _; repeat (first | exact Nat.le_refl _ | assumption | (omega; done) | with_reducible exact le_past (Nat.le_refl _) | with_reducible refine le_past ?_ | with_reducible refine le_al ?_ | with_reducible refine le_set ?_ | with_reducible refine le_p1 ?_))) _)))
            have z_x9 : W11.heap.size ≤ x9.heap.size := hs2
            have m9 := (own_ri ho9).keep b3
            have v9 : Bx W12 x9.heap.size 0 0 (.slice A9 n9 c9) := by rw [hW]; exact ⟨by (first | (simp [go_sem]; done) | (simp [go_sem, ↓IntWalk.iteOmega]; done)), by (first | (simp [go_sem]; done) | (simp [go_sem, ↓IntWalk.iteOmega]; done)), by (first | (simp [go_sem]; done) | (simp [go_sem, ↓IntWalk.iteOmega]; done))⟩
            have y_v9 := World.block_lt_of_cell? _ _ v9.c0
            clear hW b3 hs hs2 ho9 hb9
            generalize x9.heap.size = k9 at *
            simp only at y_v9
            have HB := Lib.hid hB
            clear hB hU hV va vb ia ib m1 v1 m7 v7 m8 v8 m9 v9
            go_wp2_with fail
            go_ret
            exact ⟨rfl, bel_trans HB.out (by (repeat (first | assumption | exact Below.refl _ _ | with_reducible refine past_t _ ?_ | with_reducible refine below_a _ ?_ | with_reducible refine Below.drew ?_ | with_reducible refine below_d _ ?_ | (with_reducible refine Below.setCell ?_ (by (show _ ≤ _; repeat (first | exact Nat.le_refl _ | assumption | (omega; done) | with_reducible exact le_past (Nat.le_refl _) | with_reducible refine le_past ?_ | with_reducible refine le_al ?_ | with_reducible refine le_set ?_ | with_reducible refine le_p1 ?_))) _))))⟩
          replace hcb : chk b.R b.C b.V.length = 0 := Decidable.not_not.1 hcb
          by_cases hne : ¬ a.C = b.R
          · obtain ⟨U7, i7, r1, r2, r3⟩ := turned_ne (aR := a.R) (a := a.V) (T := T) hcb hne jb f6 false d6 0
            have hc := xTurn (R := b.R) (C := b.C) ib.1
            rw [r1] at hc
            have HC := Lib.hid hc
            clear hc
            have vb_0 := vb.c0
            have vb_1 := vb.c1
            have vb_2 := vb.c2
            go_upto_region 23 with ((go_at_call 24; refine HC.out.mono ?_; rintro e x7 ⟨A7, n7, c7, rfl, ho7, hb7⟩))
            have hs2 := hb7.size
            clear HC
            clear vb_0 vb_1 vb_2
            refine wp_gen (fun W10 hW => ?_)
            have hs : Stp W10.heap.size W10.heap.size W9 W10 := (Stp.bel hb7).trans (by rw [hW]; exact Stp.bel (by (repeat (first | assumption | exact Below.refl _ _ | with_reducible refine past_t _ ?_ | with_reducible refine below_a _ ?_ | with_reducible refine Below.drew ?_ | with_reducible refine below_d _ ?_ | (with_reducible refine Below.setCell ?_ (by (show _ ≤ _; repeat (first | exact Nat.le_refl _ | assumption | (omega; done) | with_reducible exact le_past (Nat.le_refl _) | with_reducible refine le_past ?_ | with_reducible refine le_al ?_ | with_reducible refine le_set ?_ | with_reducible refine le_p1 ?_))) _)))))
            have hzW10 := hs.size
            replace hB := hs.below hB (by omega) (by omega)
            replace hU := hU.stp hs (by omega) (by omega)
            replace hV := hV.stp hs (by omega) (by omega)
            replace va := va.stp hs (by omega) (by omega)
            replace vb := vb.stp hs (by omega) (by omega)
            replace ia := ia.stp hs (by omega) (by omega)
            replace ib := ib.stp hs (by omega) (by omega)
            replace m1 := m1.stp hs (by omega) (by omega)
            replace v1 := v1.stp hs (by omega) (by omega)
            have b3 : Below x7.heap.size x7 W10 := by rw [hW]; (repeat (first | assumption | exact Below.refl _ _ | with_reducible refine past_t _ ?_ | with_reducible refine below_a _ ?_ | with_reducible refine Below.drew ?_ | with_reducible refine below_d _ ?_ | (with_reducible refine Below.setCell ?_ (by (show _ ≤ _; repeat (first | exact Nat.le_refl _ | assumption | (omega; done) | with_reducible exact le_past (Nat.le_refl _) | with_reducible refine le_past ?_ | with_reducible refine le_al ?_ | with_reducible refine le_set ?_ | with_reducible refine le_p1 ?_))) _)))
            have z_x7 : W9.heap.size ≤ x7.heap.size := hs2
            have m7 := (own_ri ho7).keep b3
            have v7 : Bx W10 x7.heap.size b.C b.R (.slice A7 n7 c7) := by rw [hW]; exact ⟨by (first | (simp [go_sem]; done) | (simp [go_sem, ↓IntWalk.iteOmega]; done)), by (first | (simp [go_sem]; done) | (simp [go_sem, ↓IntWalk.iteOmega]; done)), by (first | (simp [go_sem]; done) | (simp [go_sem, ↓IntWalk.iteOmega]; done))⟩
            have y_v7 := World.block_lt_of_cell? _ _ v7.c0
            clear hW b3 hs hs2 ho7 hb7
            generalize x7.heap.size = k7 at *
            simp only at y_v7
            have hc := xMul hU (by omega) (R1 := a.R) (C1 := a.C) ia.1 (ia.fr (by omega)) ja (R2 := b.R) (C2 := b.C) ib.1 (ib.fr (by omega)) jb
            rw [r2] at hc
            have HC := Lib.hid hc
            clear hc
            have va_0 := va.c0
            have va_1 := va.c1
            have va_2 := va.c2
            have vb_0 := vb.c0
            have vb_1 := vb.c1
            have vb_2 := vb.c2
            go_upto_region 24 with ((go_at_call 16; refine HC.out.mono ?_; rintro e x8 ⟨A8, n8, c8, rfl, ho8, hb8⟩))
            clear HC
            have hs2 : W10.heap.size ≤ x8.heap.size := by have := hb8.size; rwa [put_size] at this
            have u3 := (hU.put f6 d6).keep (by rw [put_size]; exact hb8)
            clear va_0 va_1 va_2
            clear vb_0 vb_1 vb_2
            refine wp_gen (fun W11 hW => ?_)
            have hs : Stp W0.heap.size W0.heap.size W10 W11 := (Stp.put1 hb8).trans (by rw [hW]; exact Stp.bel (by (repeat (first | assumption | exact Below.refl _ _ | with_reducible refine past_t _ ?_ | with_reducible refine below_a _ ?_ | with_reducible refine Below.drew ?_ | with_reducible refine below_d _ ?_ | (with_reducible refine Below.setCell ?_ (by (show _ ≤ _; repeat (first | exact Nat.le_refl _ | assumption | (omega; done) | with_reducible exact le_past (Nat.le_refl _) | with_reducible refine le_past ?_ | with_reducible refine le_al ?_ | with_reducible refine le_set ?_ | with_reducible refine le_p1 ?_))) _)))))
            have hzW11 := hs.size
            replace hB := hs.below hB (by omega) (by omega)
            replace hV := hV.stp hs (by omega) (by omega)
            replace va := va.stp hs (by omega) (by omega)
            replace vb := vb.stp hs (by omega) (by omega)
            replace ia := ia.stp hs (by omega) (by omega)
            replace ib := ib.stp hs (by omega) (by omega)
            replace m1 := m1.stp hs (by omega) (by omega)
            replace v1 := v1.stp hs (by omega) (by omega)
            replace m7 := m7.stp hs (by omega) (by omega)
            replace v7 := v7.stp hs (by omega) (by omega)
            replace hU := u3.keep (by rw [hW]; (repeat (first | assumption | exact Below.refl _ _ | with_reducible refine past_t _ ?_ | with_reducible refine below_a _ ?_ | with_reducible refine Below.drew ?_ | with_reducible refine below_d _ ?_ | (with_reducible refine Below.setCell ?_ (by (show _ ≤ _; repeat (first | exact Nat.le_refl _ | assumption | (omega; done) | with_reducible exact le_past (Nat.le_refl _) | with_reducible refine le_past ?_ | with_reducible refine le_al ?_ | with_reducible refine le_set ?_ | with_reducible refine le_p1 ?_))) _))) : Below x8.heap.size x8 W11)
            clear u3
            have b3 : Below x8.heap.size x8 W11 := by rw [hW]; (repeat (first | assumption | exact Below.refl _ _ | with_reducible refine past_t _ ?_ | with_reducible refine below_a _ ?_ | with_reducible refine Below.drew ?_ | with_reducible refine below_d _ ?_ | (with_reducible refine Below.setCell ?_ (by (show _ ≤ _; repeat (first | exact Nat.le_refl _ | assumption | (omega; done) | with_reducible exact le_past (Nat.le_refl _) | with_reducible refine le_past ?_ | with_reducible refine le_al ?_ | with_reducible refine le_set ?_ | with_reducible refine le_p1 ?_))) _)))
            have z_x8 : W10.heap.size ≤ x8.heap.size := hs2
            have m8 := (own_ri ho8).keep b3
            have v8 : Bx W11 x8.heap.size 0 0 (.slice A8 n8 c8) := by rw [hW]; exact ⟨by (first | (simp [go_sem]; done) | (simp [go_sem, ↓IntWalk.iteOmega]; done)), by (first | (simp [go_sem]; done) | (simp [go_sem, ↓IntWalk.iteOmega]; done)), by (first | (simp [go_sem]; done) | (simp [go_sem, ↓IntWalk.iteOmega]; done))⟩
            have y_v8 := World.block_lt_of_cell? _ _ v8.c0
            clear hW b3 hs hs2 ho8 hb8
            generalize x8.heap.size = k8 at *
            simp only at y_v8
            have hc := xMul hV (by omega) (R1 := b.C) (C1 := b.R) m7.1 (m7.fr (by omega)) i7 (R2 := a.C) (C2 := a.R) m1.1 (m1.fr (by omega)) iT
            rw [r3] at hc
            have HC := Lib.hid hc
            clear hc
            have v7_0 := v7.c0
            have v7_1 := v7.c1
            have v7_2 := v7.c2
            have v1_0 := v1.c0
            have v1_1 := v1.c1
            have v1_2 := v1.c2
            go_upto_region 25 with ((go_at_call 16; refine HC.out.mono ?_; rintro e x9 ⟨A9, n9, c9, rfl, ho9, hb9⟩))
            clear HC
            have hs2 : W11.heap.size ≤ x9.heap.size := by have := hb9.size; rwa [put_size] at this
            have u3 := (hV.put false 0).keep (by rw [put_size]; exact hb9)
            clear v7_0 v7_1 v7_2
            clear v1_0 v1_1 v1_2
            refine wp_gen (fun W12 hW => ?_)
            have hs : Stp (W0.heap.size + 1) (W0.heap.size + 1) W11 W12 := (Stp.put1 hb9).trans (by rw [hW]; exact Stp.bel (by (repeat (first | assumption | exact Below.refl _ _ | with_reducible refine past_t _ ?_ | with_reducible refine below_a _ ?_ | with_reducible refine Below.drew ?_ | with_reducible refine below_d _ ?_ | (with_reducible refine Below.setCell ?_ (by (show _ ≤ _; repeat (first | exact Nat.le_refl _ | assumption | (omega; done) | with_reducible exact le_past (Nat.le_refl _) | with_reducible refine le_past ?_ | with_reducible refine le_al ?_ | with_reducible refine le_set ?_ | with_reducible refine le_p1 ?_))) _)))))
            have hzW12 := hs.size
            replace hB := hs.below hB (by omega) (by omega)
            replace hU := hU.stp hs (by omega) (by omega)
            replace va := va.stp hs (by omega) (by omega)
            replace vb := vb.stp hs (by omega) (by omega)
            replace ia := ia.stp hs (by omega) (by omega)
            replace ib := ib.stp hs (by omega) (by omega)
            replace m1 := m1.stp hs (by omega) (by omega)
            replace v1 := v1.stp hs (by omega) (by omega)
            replace m7 := m7.stp hs (by omega) (by omega)
            replace v7 := v7.stp hs (by omega) (by omega)
            replace m8 := m8.stp hs (by omega) (by omega)
            replace v8 := v8.stp hs (by omega) (by omega)
            replace hV := u3.keep (by rw [hW]; (repeat (first | assumption | exact Below.refl _ _ | with_reducible refine past_t _ ?_ | with_reducible refine below_a _ ?_ | with_reducible refine Below.drew ?_ | with_reducible refine below_d _ ?_ | (with_reducible refine Below.setCell ?_ (by (show _ ≤ _; repeat (first | exact Nat.le_refl _ | assumption | (omega; done) | with_reducible exact le_past (Nat.le_refl _) | with_reducible refine le_past ?_ | with_reducible refine le_al ?_ | with_reducible refine le_set ?_ | with_reducible refine le_p1 ?_))) _))) : Below x9.heap.size x9 W12)
            clear u3
            have b3 : Below x9.heap.size x9 W12 := by rw [hW]; (repeat (first | assumption | exact Below.refl _ _ | with_reducible refine past_t _ ?_ | with_reducible refine below_a _ ?_ | with_reducible refine Below.drew ?_ | with_reducible refine below_d _ ?_ | (with_reducible refine Below.setCell ?_ (by (show _ ≤ _; repeat (first | exact Nat.le_refl _ | assumption | (omega; done) | with_reducible exact le_past (Nat.le_refl _) | with_reducible refine le_past ?_ | with_reducible refine le_al ?_ | with_reducible refine le_set ?_ | with_reducible refine le_p1 ?_))) _)))
            have z_x9 : W11.heap.size ≤ x9.heap.size := hs2
            have m9 := (own_ri ho9).keep b3
            have v9 : Bx W12 x9.heap.size 0 0 (.slice A9 n9 c9) := by rw [hW]; exact ⟨by (first | (simp [go_sem]; done) | (simp [go_sem, ↓IntWalk.iteOmega]; done)), by (first | (simp [go_sem]; done) | (simp [go_sem, ↓IntWalk.iteOmega]; done)), by (first | (simp [go_sem]; done) | (simp [go_sem, ↓IntWalk.iteOmega]; done))⟩
            have y_v9 := World.block_lt_of_cell? _ _ v9.c0
            clear hW b3 hs hs2 ho9 hb9
            generalize x9.heap.size = k9 at *
            simp only at y_v9
            have HB := Lib.hid hB
            clear hB hU hV va vb ia ib m1 v1 m7 v7 m8 v8 m9 v9
            go_wp2_with fail
            go_ret
            exact ⟨rfl, bel_trans HB.out (by (repeat (first | assumption | exact Below.refl _ _ | with_reducible refine past_t _ ?_ | with_reducible refine below_a _ ?_ | with_reducible refine Below.drew ?_ | with_reducible refine below_d _ ?_ | (with_reducible refine Below.setCell ?_ (by (show _ ≤ _; repeat (first | exact Nat.le_refl _ | assumption | (omega; done) | with_reducible exact le_past (Nat.le_refl _) | with_reducible refine le_past ?_ | with_reducible refine le_al ?_ | with_reducible refine le_set ?_ | with_reducible refine le_p1 ?_))) _))))⟩
          · obtain ⟨U7, P8, f8, d8, Q9, f9, d9, i7, r1, r2, r3, r4⟩ := turned_ab hck t1 hcb (Decidable.not_not.1 hne) jb f6 false d6 0
            have hc := xTurn (R := b.R) (C := b.C) ib.1
            rw [r1] at hc
            have HC := Lib.hid hc
            clear hc
            have vb_0 := vb.c0
            have vb_1 := vb.c1
            have vb_2 := vb.c2
            go_upto_region 23 with ((go_at_call 24; refine HC.out.mono ?_; rintro e x7 ⟨A7, n7, c7, rfl, ho7, hb7⟩))
            have hs2 := hb7.size
            clear HC
            clear vb_0 vb_1 vb_2
            refine wp_gen (fun W10 hW => ?_)
            have hs : Stp W10.heap.size W10.heap.size W9 W10 := (Stp.bel hb7).trans (by rw [hW]; exact Stp.bel (by (repeat (first | assumption | exact Below.refl _ _ | with_reducible refine past_t _ ?_ | with_reducible refine below_a _ ?_ | with_reducible refine Below.drew ?_ | with_reducible refine below_d _ ?_ | (with_reducible refine Below.setCell ?_ (by (show _ ≤ _; repeat (first | exact Nat.le_refl _ | assumption | (omega; done) | with_reducible exact le_past (Nat.le_refl _) | with_reducible refine le_past ?_ | with_reducible refine le_al ?_ | with_reducible refine le_set ?_ | with_reducible refine le_p1 ?_))) _)))))
            have hzW10 := hs.size
            replace hB := hs.below hB (by omega) (by omega)
            replace hU := hU.stp hs (by omega) (by omega)
            replace hV := hV.stp hs (by omega) (by omega)
            replace va := va.stp hs (by omega) (by omega)
            replace vb := vb.stp hs (by omega) (by omega)
            replace ia := ia.stp hs (by omega) (by omega)
            replace ib := ib.stp hs (by omega) (by omega)
            replace m1 := m1.stp hs (by omega) (by omega)
            replace v1 := v1.stp hs (by omega) (by omega)
            have b3 : Below x7.heap.size x7 W10 := by rw [hW]; (repeat (first | assumption | exact Below.refl _ _ | with_reducible refine past_t _ ?_ | with_reducible refine below_a _ ?_ | with_reducible refine Below.drew ?_ | with_reducible refine below_d _ ?_ | (with_reducible refine Below.setCell ?_ (by (show _ ≤ _; repeat (first | exact Nat.le_refl _ | assumption | (omega; done) | with_reducible exact le_past (Nat.le_refl _) | with_reducible refine le_past ?_ | with_reducible refine le_al ?_ | with_reducible refine le_set ?_ | with_reducible refine le_p1 ?_))) _)))
            have z_x7 : W9.heap.size ≤ x7.heap.size := hs2
            have m7 := (own_ri ho7).keep b3
            have v7 : Bx W10 x7.heap.size b.C b.R (.slice A7 n7 c7) := by rw [hW]; exact ⟨by (first | (simp [go_sem]; done) | (simp [go_sem, ↓IntWalk.iteOmega]; done)), by (first | (simp [go_sem]; done) | (simp [go_sem, ↓IntWalk.iteOmega]; done)), by (first | (simp [go_sem]; done) | (simp [go_sem, ↓IntWalk.iteOmega]; done))⟩
            have y_v7 := World.block_lt_of_cell? _ _ v7.c0
            clear hW b3 hs hs2 ho7 hb7
            generalize x7.heap.size = k7 at *
            simp only at y_v7
            have hc := xMul hU (by omega) (R1 := a.R) (C1 := a.C) ia.1 (ia.fr (by omega)) ja (R2 := b.R) (C2 := b.C) ib.1 (ib.fr (by omega)) jb
            rw [r2] at hc
            have HC := Lib.hid hc
            clear hc
            have va_0 := va.c0
            have va_1 := va.c1
            have va_2 := va.c2
            have vb_0 := vb.c0
            have vb_1 := vb.c1
            have vb_2 := vb.c2
            go_upto_region 24 with ((go_at_call 16; refine HC.out.mono ?_; rintro e x8 ⟨A8, n8, c8, rfl, ho8, hb8⟩))
            clear HC
            have hs2 : W10.heap.size ≤ x8.heap.size := by have := hb8.size; rwa [put_size] at this
            have u3 := (hU.put f8 d8).keep (by rw [put_size]; exact hb8)
            clear va_0 va_1 va_2
            clear vb_0 vb_1 vb_2
            refine wp_gen (fun W11 hW => ?_)
            have hs : Stp W0.heap.size W0.heap.size W10 W11 := (Stp.put1 hb8).trans (by rw [hW]; exact Stp.bel (by (repeat (first | assumption | exact Below.refl _ _ | with_reducible refine past_t _ ?_ | with_reducible refine below_a _ ?_ | with_reducible refine Below.drew ?_ | with_reducible refine below_d _ ?_ | (with_reducible refine Below.setCell ?_ (by (show _ ≤ _; repeat (first | exact Nat.le_refl _ | assumption | (omega; done) | with_reducible exact le_past (Nat.le_refl _) | with_reducible refine le_past ?_ | with_reducible refine le_al ?_ | with_reducible refine le_set ?_ | with_reducible refine le_p1 ?_))) _)))))
            have hzW11 := hs.size
            replace hB := hs.below hB (by omega) (by omega)
            replace hV := hV.stp hs (by omega) (by omega)
            replace va := va.stp hs (by omega) (by omega)
            replace vb := vb.stp hs (by omega) (by omega)
            replace ia := ia.stp hs (by omega) (by omega)
            replace ib := ib.stp hs (by omega) (by omega)
            replace m1 := m1.stp hs (by omega) (by omega)
            replace v1 := v1.stp hs (by omega) (by omega)
            replace m7 := m7.stp hs (by omega) (by omega)
            replace v7 := v7.stp hs (by omega) (by omega)
            replace hU := u3.keep (by rw [hW]; (repeat (first | assumption | exact Below.refl _ _ | with_reducible refine past_t _ ?_ | with_reducible refine below_a _ ?_ | with_reducible refine Below.drew ?_ | with_reducible refine below_d _ ?_ | (with_reducible refine Below.setCell ?_ (by (show _ ≤ _; repeat (first | exact Nat.le_refl _ | assumption | (omega; done) | with_reducible exact le_past (Nat.le_refl _) | with_reducible refine le_past ?_ | with_reducible refine le_al ?_ | with_reducible refine le_set ?_ | with_reducible refine le_p1 ?_))) _))) : Below x8.heap.size x8 W11)
            clear u3
            have b3 : Below x8.heap.size x8 W11 := by rw [hW]; (repeat (first | assumption | exact Below.refl _ _ | with_reducible refine past_t _ ?_ | with_reducible refine below_a _ ?_ | with_reducible refine Below.drew ?_ | with_reducible refine below_d _ ?_ | (with_reducible refine Below.setCell ?_ (by (show _ ≤ _; repeat (first | exact Nat.le_refl _ | assumption | (omega; done) | with_reducible exact le_past (Nat.le_refl _) | with_reducible refine le_past ?_ | with_reducible refine le_al ?_ | with_reducible refine le_set ?_ | with_reducible refine le_p1 ?_))) _)))
            have z_x8 : W10.heap.size ≤ x8.heap.size := hs2
            have m8 := (own_ri ho8).keep b3
            have v8 : Bx W11 x8.heap.size a.R b.C (.slice A8 n8 c8) := by rw [hW]; exact ⟨by (first | (simp [go_sem]; done) | (simp [go_sem, ↓IntWalk.iteOmega]; done)), by (first | (simp [go_sem]; done) | (simp [go_sem, ↓IntWalk.iteOmega]; done)), by (first | (simp [go_sem]; done) | (simp [go_sem, ↓IntWalk.iteOmega]; done))⟩
            have y_v8 := World.block_lt_of_cell? _ _ v8.c0
            clear hW b3 hs hs2 ho8 hb8
            generalize x8.heap.size = k8 at *
            simp only at y_v8
            have hc := xMul hV (by omega) (R1 := b.C) (C1 := b.R) m7.1 (m7.fr (by omega)) i7 (R2 := a.C) (C2 := a.R) m1.1 (m1.fr (by omega)) iT
            rw [r3] at hc
            have HC := Lib.hid hc
            clear hc
            have v7_0 := v7.c0
            have v7_1 := v7.c1
            have v7_2 := v7.c2
            have v1_0 := v1.c0
            have v1_1 := v1.c1
            have v1_2 := v1.c2
            go_upto_region 25 with ((go_at_call 16; refine HC.out.mono ?_; rintro e x9 ⟨A9, n9, c9, rfl, ho9, hb9⟩))
            clear HC
            have hs2 : W11.heap.size ≤ x9.heap.size := by have := hb9.size; rwa [put_size] at this
            have u3 := (hV.put f9 d9).keep (by rw [put_size]; exact hb9)
            clear v7_0 v7_1 v7_2
            clear v1_0 v1_1 v1_2
            refine wp_gen (fun W12 hW => ?_)
            have hs : Stp (W0.heap.size + 1) (W0.heap.size + 1) W11 W12 := (Stp.put1 hb9).trans (by rw [hW]; exact Stp.bel (by (repeat (first | assumption | exact Below.refl _ _ | with_reducible refine past_t _ ?_ | with_reducible refine below_a _ ?_ | with_reducible refine Below.drew ?_ | with_reducible refine below_d _ ?_ | (with_reducible refine Below.setCell ?_ (by (show _ ≤ _; repeat (first | exact Nat.le_refl _ | assumption | (omega; done) | with_reducible exact le_past (Nat.le_refl _) | with_reducible refine le_past ?_ | with_reducible refine le_al ?_ | with_reducible refine le_set ?_ | with_reducible refine le_p1 ?_))) _)))))
            have hzW12 := hs.size
            replace hB := hs.below hB (by omega) (by omega)
            replace hU := hU.stp hs (by omega) (by omega)
            replace va := va.stp hs (by omega) (by omega)
            replace vb := vb.stp hs (by omega) (by omega)
            replace ia := ia.stp hs (by omega) (by omega)
            replace ib := ib.stp hs (by omega) (by omega)
            replace m1 := m1.stp hs (by omega) (by omega)
            replace v1 := v1.stp hs (by omega) (by omega)
            replace m7 := m7.stp hs (by omega) (by omega)
            replace v7 := v7.stp hs (by omega) (by omega)
            replace m8 := m8.stp hs (by omega) (by omega)
            replace v8 := v8.stp hs (by omega) (by omega)
            replace hV := u3.keep (by rw [hW]; (repeat (first | assumption | exact Below.refl _ _ | with_reducible refine past_t _ ?_ | with_reducible refine below_a _ ?_ | with_reducible refine Below.drew ?_ | with_reducible refine below_d _ ?_ | (with_reducible refine Below.setCell ?_ (by (show _ ≤ _; repeat (first | exact Nat.le_refl _ | assumption | (omega; done) | with_reducible exact le_past (Nat.le_refl _) | with_reducible refine le_past ?_ | with_reducible refine le_al ?_ | with_reducible refine le_set ?_ | with_reducible refine le_p1 ?_))) _))) : Below x9.heap.size x9 W12)
            clear u3
            have b3 : Below x9.heap.size x9 W12 := by rw [hW]; (repeat (first | assumption | exact Below.refl _ _ | with_reducible refine past_t _ ?_ | with_reducible refine below_a _ ?_ | with_reducible refine Below.drew ?_ | with_reducible refine below_d _ ?_ | (with_reducible refine Below.setCell ?_ (by (show _ ≤ _; repeat (first | exact Nat.le_refl _ | assumption | (omega; done) | with_reducible exact le_past (Nat.le_refl _) | with_reducible refine le_past ?_ | with_reducible refine le_al ?_ | with_reducible refine le_set ?_ | with_reducible refine le_p1 ?_))) _)))
            have z_x9 : W11.heap.size ≤ x9.heap.size := hs2
            have m9 := (own_ri ho9).keep b3
            have v9 : Bx W12 x9.heap.size b.C a.R (.slice A9 n9 c9) := by rw [hW]; exact ⟨by (first | (simp [go_sem]; done) | (simp [go_sem, ↓IntWalk.iteOmega]; done)), by (first | (simp [go_sem]; done) | (simp [go_sem, ↓IntWalk.iteOmega]; done)), by (first | (simp [go_sem]; done) | (simp [go_sem, ↓IntWalk.iteOmega]; done))⟩
            have y_v9 := World.block_lt_of_cell? _ _ v9.c0
            clear hW b3 hs hs2 ho9 hb9
            generalize x9.heap.size = k9 at *
            simp only at y_v9
            have hc := xTurn (R := a.R) (C := b.C) m8.1
            rw [r4] at hc
            have HC := Lib.hid hc
            clear hc
            have v8_0 := v8.c0
            have v8_1 := v8.c1
            have v8_2 := v8.c2
            go_upto_region 28 with ((go_at_call 24; refine HC.out.mono ?_; rintro e x10 ⟨A10, n10, c10, rfl, ho10, hb10⟩))
            have hs2 := hb10.size
            clear HC
            clear v8_0 v8_1 v8_2
            refine wp_gen (fun W13 hW => ?_)
            have hs : Stp W13.heap.size W13.heap.size W12 W13 := (Stp.bel hb10).trans (by rw [hW]; exact Stp.bel (by (repeat (first | assumption | exact Below.refl _ _ | with_reducible refine past_t _ ?_ | with_reducible refine below_a _ ?_ | with_reducible refine Below.drew ?_ | with_reducible refine below_d _ ?_ | (with_reducible refine Below.setCell ?_ (by (show _ ≤ _; repeat (first | exact Nat.le_refl _ | assumption | (omega; done) | with_reducible exact le_past (Nat.le_refl _) | with_reducible refine le_past ?_ | with_reducible refine le_al ?_ | with_reducible refine le_set ?_ | with_reducible refine le_p1 ?_))) _)))))
            have hzW13 := hs.size
            replace hB := hs.below hB (by omega) (by omega)
            replace hU := hU.stp hs (by omega) (by omega)
            replace hV := hV.stp hs (by omega) (by omega)
            replace va := va.stp hs (by omega) (by omega)
            replace vb := vb.stp hs (by omega) (by omega)
            replace ia := ia.stp hs (by omega) (by omega)
            replace ib := ib.stp hs (by omega) (by omega)
            replace m1 := m1.stp hs (by omega) (by omega)
            replace v1 := v1.stp hs (by omega) (by omega)
            replace m7 := m7.stp hs (by omega) (by omega)
            replace v7 := v7.stp hs (by omega) (by omega)
            replace m8 := m8.stp hs (by omega) (by omega)
            replace v8 := v8.stp hs (by omega) (by omega)
            replace m9 := m9.stp hs (by omega) (by omega)
            replace v9 := v9.stp hs (by omega) (by omega)
            have b3 : Below x10.heap.size x10 W13 := by rw [hW]; (repeat (first | assumption | exact Below.refl _ _ | with_reducible refine past_t _ ?_ | with_reducible refine below_a _ ?_ | with_reducible refine Below.drew ?_ | with_reducible refine below_d _ ?_ | (with_reducible refine Below.setCell ?_ (by (show _ ≤ _; repeat (first | exact Nat.le_refl _ | assumption | (omega; done) | with_reducible exact le_past (Nat.le_refl _) | with_reducible refine le_past ?_ | with_reducible refine le_al ?_ | with_reducible refine le_set ?_ | with_reducible refine le_p1 ?_))) _)))
            have z_x10 : W12.heap.size ≤ x10.heap.size := hs2
            have m10 := (own_ri ho10).keep b3
            have v10 : Bx W13 x10.heap.size b.C a.R (.slice A10 n10 c10) := by rw [hW]; exact ⟨by (first | (simp [go_sem]; done) | (simp [go_sem, ↓IntWalk.iteOmega]; done)), by (first | (simp [go_sem]; done) | (simp [go_sem, ↓IntWalk.iteOmega]; done)), by (first | (simp [go_sem]; done) | (simp [go_sem, ↓IntWalk.iteOmega]; done))⟩
            have y_v10 := World.block_lt_of_cell? _ _ v10.c0
            clear hW b3 hs hs2 ho10 hb10
            generalize x10.heap.size = k10 at *
            simp only at y_v10
            have HB := Lib.hid hB
            have M9 := Lib.hid m9.1
            have M10 := Lib.hid m10.1
            have v9_0 := v9.c0
            have v9_1 := v9.c1
            have v9_2 := v9.c2
            have v10_0 := v10.c0
            have v10_1 := v10.c1
            have v10_2 := v10.c2
            clear hB hU hV va vb ia ib m1 v1 m7 v7 m8 v8 m9 v9 m10 v10
            go_wp2_with ((go_at_call 20; with_reducible refine Calls_past (kSameMat (R := b.C) (C := a.R) (M10.out.keep ?_) (M9.out.keep ?_)) (fun z => ?_); (focus ((first | ((repeat (first | assumption | exact Below.refl _ _ | with_reducible refine past_t _ ?_ | with_reducible refine below_a _ ?_ | with_reducible refine Below.drew ?_ | with_reducible refine below_d _ ?_ | (with_reducible refine Below.setCell ?_ (by (show _ ≤ _; repeat (first | exact Nat.le_refl _ | assumption | (omega; done) | with_reducible exact le_past (Nat.le_refl _) | with_reducible refine le_past ?_ | with_reducible refine le_al ?_ | with_reducible refine le_set ?_ | with_reducible refine le_p1 ?_))) _))); done) | (with_reducible rfl; done) | omega | (rfl; done) | (simp; done) | (simp [go_sem]; done) | (simp; omega) | (simp [go_sem]; omega)); done)); (focus ((first | ((repeat (first | assumption | exact Below.refl _ _ | with_reducible refine past_t _ ?_ | with_reducible refine below_a _ ?_ | with_reducible refine Below.drew ?_ | with_reducible refine below_d _ ?_ | (with_reducible refine Below.setCell ?_ (by (show _ ≤ _; repeat (first | exact Nat.le_refl _ | assumption | (omega; done) | with_reducible exact le_past (Nat.le_refl _) | with_reducible refine le_past ?_ | with_reducible refine le_al ?_ | with_reducible refine le_set ?_ | with_reducible refine le_p1 ?_))) _))); done) | (with_reducible rfl; done) | omega | (rfl; done) | (simp; done) | (simp [go_sem]; done) | (simp; omega) | (simp [go_sem]; omega)); done))))
            go_ret
            exact ⟨rfl, bel_trans HB.out (by (repeat (first | assumption | exact Below.refl _ _ | with_reducible refine past_t _ ?_ | with_reducible refine below_a _ ?_ | with_reducible refine Below.drew ?_ | with_reducible refine below_d _ ?_ | (with_reducible refine Below.setCell ?_ (by (show _ ≤ _; repeat (first | exact Nat.le_refl _ | assumption | (omega; done) | with_reducible exact le_past (Nat.le_refl _) | with_reducible refine le_past ?_ | with_reducible refine le_al ?_ | with_reducible refine le_set ?_ | with_reducible refine le_p1 ?_))) _))))⟩
set_option maxRecDepth 100000 in
theorem lifted (os : Os) (started : os.Started) (H : Type) (enc : TypeId × Value → H) :
    ReturnsInHanded {} Try.checked os 4 .any (Rows.matTurnedSpec.pre6 enc Try.prog Try.f4 Rows.matTurnedRow.domain false) (Rows.matTurnedSpec.post enc Try.prog Try.f4 false true false false) := by
  refine returnsInHanded_of_change (C := Try.checked) own started (by kernel_rfl) Try.func4
    (ChangeSpec.witness6 (enc := enc) (C := Try.checked) false ⟨#[], #[.agg #[.int .i64 0, .int .i64 0, .slice none 0 0], .agg #[.int .i64 0, .int .i64 0, .slice none 0 0]], []⟩ 8 (by kernel_rfl) (by kernel_rfl) (by kernel_rfl) (by kernel_rfl)) ?_
  intro W base args ds gs before hval0 hW hcnd _
  have hval : ∀ (j : Nat) t v, Try.f4.params[j]? = some t → args[j]? = some v → Value.okWide Try.prog W .any base t v := hval0
  have hW' := hW
  obtain ⟨p, q, hA0, hV, rfl, hfz, hnd⟩ := hW
  have hA : DataW.TrodAll enc Try.prog W 0 (fun _ => true) true Try.f4.params.toList args.toList ds p := hA0
  rw [Try.params4] at hA hval
  obtain ⟨v0, vs0, d0, ds0, p0, q0, hargs, rfl, rfl, h0, r0⟩ := trodAll_cons hA
  obtain ⟨v1, vs1, d1, ds1, p1, q1, rfl, rfl, rfl, h1, r1⟩ := trodAll_cons r0
  obtain ⟨rfl, rfl, rfl⟩ := trodAll_nil r1
  obtain rfl : args = #[v0, v1] := by cases args; simp_all
  obtain ⟨rfl, rfl⟩ := trodVars_none hV
  have k0 := h0
  have lt0 : ∀ x ∈ p0, x.block < W.heap.size := by obtain ⟨m, hm⟩ := k0; exact DataW.trod_lt m _ _ _ hm
  obtain ⟨a, rfl, w0⟩ := open_mat (hval 0 24 v0 rfl rfl) h0
  have k1 := h1
  have lt1 : ∀ x ∈ p1, x.block < W.heap.size := by obtain ⟨m, hm⟩ := k1; exact DataW.trod_lt m _ _ _ hm
  obtain ⟨b, rfl, w1⟩ := open_mat (hval 1 24 v1 rfl rfl) h1
  clear hA0 hval0
  refine (walk W a w0 b w1).mono fun e W' ⟨he, bel⟩ => ?_
  subst he
  exact ⟨_, rfl, _, _, _, [], _, [], hW', trodAll_mk1 (shut_bool Try.underlying4 _), (trodAll_cons_mk (Below.trod laidOut (by kernel_rfl) (of_decide_eq_true (by kernel_rfl)) k0 bel lt0) (trodAll_cons_mk (Below.trod laidOut (by kernel_rfl) (of_decide_eq_true (by kernel_rfl)) k1 bel lt1) trodAll_mk0)), rfl, bel.frame _, fun h => by cases h⟩
theorem over : Rows.matTurnedRow.holds Try.pinned (OpenSpec.ofChange Rows.matTurnedSpec) :=
  OpenClaim.holds_of_wide 4 Try.f4 rfl rfl rfl rfl rfl rfl rfl ⟨rfl, rfl, rfl, rfl, rfl⟩ rfl rfl rfl rfl rfl (by kernel_rfl) Try.func4 (by kernel_rfl)
    (of_decide_eq_true (by kernel_rfl)) (by unfold Func.isWrapper; first | (rw [if_pos (by decide +kernel)]; kernel_rfl) | (rw [if_neg (by decide +kernel)]; exact ⟨rfl, rfl⟩))
    (fun os started H enc _ => lifted os started H enc)
theorem proved : Rows.MatTurnedSaid := over
#print axioms proved
end Go.Proofs.Ytlhadociaekkhaa.matTurned
