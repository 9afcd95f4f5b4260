/- Which sums, differences and multiples matrices have, and whether something was cut, is the document's answer; what is handed in stays. -/
import Derived.Test.YtlhadociaekkhaaQMatL2
import Derived.Test.YtlhadociaekkhaaQF
import Derived.Deep.DeepCutAuto
import Derived.Deep.LoopGhost
import Derived.Deep.RegionWith
import Derived.WalkKit
import Derived.ProofKit
import Derived.OpenShut
import Derived.ShutString
import Derived.ChangeOld
import Derived.Below
import Derived.Lib.SmallJoins
set_option linter.unusedSimpArgs false
set_option linter.unusedVariables false
namespace Go.Proofs.Ytlhadociaekkhaa.matSums
open Go.ChangeShapes Go.WideShapes Go.ChangeAt Go.RowKit
open Go.ChangeMaps (open_string shut_string)
open Go.Joins
set_option linter.unusedVariables false
theorem own : ownKnob Try.prog.godebug = none := by kernel_rfl
theorem laidOut : laidOutB Try.prog = true := by kernel_rfl
set_option maxHeartbeats 8000000 in
set_option maxRecDepth 100000 in
theorem walk (w : World) (a : MatX) (w0 : a.ok w) (b : MatX) (w1 : b.ok w) (s : Int) (w2 : (Lit.int .i64 s).wf = true) : -- the walk
    Calls Try.prog 6 #[a.val, b.val, .int .i64 s] w fun e w' => e = .returned (.bool true) ∧ Below w.heap.size w w' := by
  have haw := lAwake7
  have hsI := bounds_i64 w2
  by_cases hbig1 : 160 < a.V.length
  · have hl1 := fun W => lLong (R := a.R) (C := a.C) (A := a.A) (n := a.V.length) (c := a.c) W
    rw [decide_eq_true (by omega : (160 : Int) < (a.V.length : Int))] at hl1
    go_enter Try.func6, Try.ntmps6
    go_wp2_with (first | (go_at_call 10; refine (uNew _).mono ?_; rintro e w1 ⟨rfl, rfl⟩) | (go_at_call 11; refine (r4New _).mono ?_; rintro e w1 ⟨rfl, rfl⟩) | (go_at_call 12; first | (with_reducible refine Calls_past2 (hl1 _) (fun z => ?_)) | (with_reducible refine Calls_past (hl1 _) (fun z => ?_))) | (go_at_call 13; first | (with_reducible refine Calls_past2 (haw _) (fun z => ?_)) | (with_reducible refine Calls_past (haw _) (fun z => ?_))))
    go_ret
    exact ⟨rfl, by (repeat (first | assumption | exact Below.refl _ _ | with_reducible refine past_t _ ?_ | with_reducible refine below_a _ ?_ | with_reducible refine Below.drew ?_ | with_reducible refine below_d _ ?_ | (with_reducible refine Below.setCell ?_ (by (show _ ≤ _; repeat (first | exact Nat.le_refl _ | assumption | (omega; done) | with_reducible exact le_past (Nat.le_refl _) | with_reducible refine le_past ?_ | with_reducible refine le_al ?_ | with_reducible refine le_set ?_ | with_reducible refine le_p1 ?_))) _)))⟩
  have hl1 := fun W => lLong (R := a.R) (C := a.C) (A := a.A) (n := a.V.length) (c := a.c) W
  rw [decide_eq_false (by omega : ¬(160 : Int) < (a.V.length : Int))] at hl1
  by_cases hbig2 : 160 < b.V.length
  · have hl2 := fun W => lLong (R := b.R) (C := b.C) (A := b.A) (n := b.V.length) (c := b.c) W
    rw [decide_eq_true (by omega : (160 : Int) < (b.V.length : Int))] at hl2
    go_enter Try.func6, Try.ntmps6
    go_wp2_with (first | (go_at_call 10; refine (uNew _).mono ?_; rintro e w1 ⟨rfl, rfl⟩) | (go_at_call 11; refine (r4New _).mono ?_; rintro e w1 ⟨rfl, rfl⟩) | (go_at_call 12; first | (with_reducible refine Calls_past2 (hl1 _) (fun z => ?_)) | (with_reducible refine Calls_past (hl1 _) (fun z => ?_))) | (go_at_call 12; first | (with_reducible refine Calls_past2 (hl2 _) (fun z => ?_)) | (with_reducible refine Calls_past (hl2 _) (fun z => ?_))) | (go_at_call 13; first | (with_reducible refine Calls_past2 (haw _) (fun z => ?_)) | (with_reducible refine Calls_past (haw _) (fun z => ?_))))
    go_ret
    exact ⟨rfl, by (repeat (first | assumption | exact Below.refl _ _ | with_reducible refine past_t _ ?_ | with_reducible refine below_a _ ?_ | with_reducible refine Below.drew ?_ | with_reducible refine below_d _ ?_ | (with_reducible refine Below.setCell ?_ (by (show _ ≤ _; repeat (first | exact Nat.le_refl _ | assumption | (omega; done) | with_reducible exact le_past (Nat.le_refl _) | with_reducible refine le_past ?_ | with_reducible refine le_al ?_ | with_reducible refine le_set ?_ | with_reducible refine le_p1 ?_))) _)))⟩
  have hl2 := fun W => lLong (R := b.R) (C := b.C) (A := b.A) (n := b.V.length) (c := b.c) W
  rw [decide_eq_false (by omega : ¬(160 : Int) < (b.V.length : Int))] at hl2
  go_enter Try.func6, Try.ntmps6
  go_upto_region 4 with (first | (go_at_call 10; refine (uNew _).mono ?_; rintro e w1 ⟨rfl, rfl⟩) | (go_at_call 11; refine (r4New _).mono ?_; rintro e w1 ⟨rfl, rfl⟩) | (go_at_call 12; first | (with_reducible refine Calls_past2 (hl1 _) (fun z => ?_)) | (with_reducible refine Calls_past (hl1 _) (fun z => ?_))) | (go_at_call 12; first | (with_reducible refine Calls_past2 (hl2 _) (fun z => ?_)) | (with_reducible refine Calls_past (hl2 _) (fun z => ?_))))
  refine wp_gen (fun W0 hW => ?_)
  have hB : Below w.heap.size w W0 := by rw [hW]; (repeat (first | assumption | exact Below.refl _ _ | with_reducible refine past_t _ ?_ | with_reducible refine below_a _ ?_ | with_reducible refine Below.drew ?_ | with_reducible refine below_d _ ?_ | (with_reducible refine Below.setCell ?_ (by (show _ ≤ _; repeat (first | exact Nat.le_refl _ | assumption | (omega; done) | with_reducible exact le_past (Nat.le_refl _) | with_reducible refine le_past ?_ | with_reducible refine le_al ?_ | with_reducible refine le_set ?_ | with_reducible refine le_p1 ?_))) _)))
  have va : Bx W0 w.heap.size a.R a.C (.slice a.A a.V.length a.c) := by rw [hW]; exact ⟨by (first | (simp [go_sem]; done) | (simp [go_sem, ↓IntWalk.iteOmega]; done)), by (first | (simp [go_sem]; done) | (simp [go_sem, ↓IntWalk.iteOmega]; done)), by (first | (simp [go_sem]; done) | (simp [go_sem, ↓IntWalk.iteOmega]; done))⟩
  have vb : Bx W0 (w.heap.size + 1) b.R b.C (.slice b.A b.V.length b.c) := by rw [hW]; exact ⟨by (first | (simp [go_sem]; done) | (simp [go_sem, ↓IntWalk.iteOmega]; done)), by (first | (simp [go_sem]; done) | (simp [go_sem, ↓IntWalk.iteOmega]; done)), by (first | (simp [go_sem]; done) | (simp [go_sem, ↓IntWalk.iteOmega]; done))⟩
  have hU : UA ((w.heap.size + 1 + 1)) false 0 W0 := by rw [hW]; exact ⟨by (first | (simp [go_sem]; done) | (simp [go_sem, ↓IntWalk.iteOmega]; done)), by (first | (simp [go_sem]; done) | (simp [go_sem, ↓IntWalk.iteOmega]; done)), by (first | (simp [go_sem]; done) | (simp [go_sem, ↓IntWalk.iteOmega]; done)), by (first | (simp [go_sem]; done) | (simp [go_sem, ↓IntWalk.iteOmega]; done)), by (first | (simp [go_sem]; done) | (simp [go_sem, ↓IntWalk.iteOmega]; done))⟩
  have hV : RA ((w.heap.size + 1 + 1 + 1)) false 0 W0 := by rw [hW]; exact ⟨by (first | (simp [go_sem]; done) | (simp [go_sem, ↓IntWalk.iteOmega]; done)), by (first | (simp [go_sem]; done) | (simp [go_sem, ↓IntWalk.iteOmega]; done)), by (first | (simp [go_sem]; done) | (simp [go_sem, ↓IntWalk.iteOmega]; done)), by (first | (simp [go_sem]; done) | (simp [go_sem, ↓IntWalk.iteOmega]; done))⟩
  have ia := iis_of w0.rs hB
  have ib := iis_of w1.rs hB
  have ja := w0.hV
  have jb := w1.hV
  have hz0 := hV.lt
  clear hW hl1 hl2
  have IA := Lib.hid ia.1
  have IB := Lib.hid ib.1
  have keepS : ∀ w' : World, Below W0.heap.size W0 w' → (Below W0.heap.size W0 w' ∧ w'.cell? ⟨w.heap.size, 0, none⟩ = some (.int .i64 a.R) ∧ w'.cell? ⟨w.heap.size, 1, none⟩ = some (.int .i64 a.C) ∧ w'.cell? ⟨w.heap.size, 2, none⟩ = some (.slice a.A a.V.length a.c) ∧ w'.cell? ⟨w.heap.size + 1, 0, none⟩ = some (.int .i64 b.R) ∧ w'.cell? ⟨w.heap.size + 1, 1, none⟩ = some (.int .i64 b.C) ∧ w'.cell? ⟨w.heap.size + 1, 2, none⟩ = some (.slice b.A b.V.length b.c)) := fun w' h => ⟨h, cell_keep va.c0 h, cell_keep va.c1 h, cell_keep va.c2 h, cell_keep vb.c0 h, cell_keep vb.c1 h, cell_keep vb.c2 h⟩
  have KS := Lib.hid keepS
  have FS := Lib.hid (And.intro hB (And.intro va (And.intro vb (And.intro hU (And.intro hV (And.intro ia ib))))))
  clear keepS hB va vb hU hV ia ib
  go_cut [9, 10] (fun s9 s10 wc => ∃ (k1 k2 : Nat) (A1 : Option Addr) (c1 : Nat) (A2 : Option Addr) (c2 : Nat), s9 = .pointer (some ⟨k1, 0, none⟩) ∧ s10 = .pointer (some ⟨k2, 0, none⟩) ∧ Below W0.heap.size W0 wc ∧ W0.heap.size ≤ k1 ∧ W0.heap.size ≤ k2 ∧ Bx wc k1 a.R a.C (.slice A1 a.V.length c1) ∧ Bx wc k2 b.R b.C (.slice A2 b.V.length c2) ∧ LK k1 k2 wc A1 a.V.length c1 a.V W0.heap.size ∧ LK k1 k2 wc A2 b.V.length c2 b.V W0.heap.size)
  case first =>
    go_wp2_with fail
    go_region_held3 (fun w' => Below W0.heap.size W0 w' ∧ w'.cell? ⟨w.heap.size, 0, none⟩ = some (.int .i64 a.R) ∧ w'.cell? ⟨w.heap.size, 1, none⟩ = some (.int .i64 a.C) ∧ w'.cell? ⟨w.heap.size, 2, none⟩ = some (.slice a.A a.V.length a.c) ∧ w'.cell? ⟨w.heap.size + 1, 0, none⟩ = some (.int .i64 b.R) ∧ w'.cell? ⟨w.heap.size + 1, 1, none⟩ = some (.int .i64 b.C) ∧ w'.cell? ⟨w.heap.size + 1, 2, none⟩ = some (.slice b.A b.V.length b.c)) (((try go_split_ands); refine KS.out _ ?_; (repeat (first | assumption | exact Below.refl _ _ | with_reducible refine past_t _ ?_ | with_reducible refine below_a _ ?_ | with_reducible refine Below.drew ?_ | with_reducible refine below_d _ ?_ | (with_reducible refine Below.setCell ?_ (by (show _ ≤ _; repeat (first | exact Nat.le_refl _ | assumption | (omega; done) | with_reducible exact le_past (Nat.le_refl _) | with_reducible refine le_past ?_ | with_reducible refine le_al ?_ | with_reducible refine le_set ?_ | with_reducible refine le_p1 ?_))) _))))) (((try go_split_ands); first | (go_at_call 14; with_reducible refine Calls.mono (kCopyMat (IA.out.keep ?_) (by omega)) ?_; (focus ((first | ((repeat (first | assumption | exact Below.refl _ _ | with_reducible refine past_t _ ?_ | with_reducible refine below_a _ ?_ | with_reducible refine Below.drew ?_ | with_reducible refine below_d _ ?_ | (with_reducible refine Below.setCell ?_ (by (show _ ≤ _; repeat (first | exact Nat.le_refl _ | assumption | (omega; done) | with_reducible exact le_past (Nat.le_refl _) | with_reducible refine le_past ?_ | with_reducible refine le_al ?_ | with_reducible refine le_set ?_ | with_reducible refine le_p1 ?_))) _))); done) | (with_reducible rfl; done) | omega | (rfl; done) | (simp; done) | (simp [go_sem]; done) | (simp; omega) | (simp [go_sem]; omega)); done)); rintro _ _ ⟨A1, c1, rfl, ho1, hbz⟩; obtain ⟨z, rfl⟩ := ex_past hbz; clear hbz) | (go_at_call 14; with_reducible refine Calls.mono (kCopyMat (IB.out.keep ?_) (by omega)) ?_; (focus ((first | ((repeat (first | assumption | exact Below.refl _ _ | with_reducible refine past_t _ ?_ | with_reducible refine below_a _ ?_ | with_reducible refine Below.drew ?_ | with_reducible refine below_d _ ?_ | (with_reducible refine Below.setCell ?_ (by (show _ ≤ _; repeat (first | exact Nat.le_refl _ | assumption | (omega; done) | with_reducible exact le_past (Nat.le_refl _) | with_reducible refine le_past ?_ | with_reducible refine le_al ?_ | with_reducible refine le_set ?_ | with_reducible refine le_p1 ?_))) _))); done) | (with_reducible rfl; done) | omega | (rfl; done) | (simp; done) | (simp [go_sem]; done) | (simp; omega) | (simp [go_sem]; omega)); done)); rintro _ _ ⟨A2, c2, rfl, ho2, hbz⟩; obtain ⟨z, rfl⟩ := ex_past hbz; clear hbz)))
    all_goals
      go_wp2_with fail
      go_meet
      refine ⟨_, _, A1, c1, A2, c2, rfl, rfl, by (repeat (first | assumption | exact Below.refl _ _ | with_reducible refine past_t _ ?_ | with_reducible refine below_a _ ?_ | with_reducible refine Below.drew ?_ | with_reducible refine below_d _ ?_ | (with_reducible refine Below.setCell ?_ (by (show _ ≤ _; repeat (first | exact Nat.le_refl _ | assumption | (omega; done) | with_reducible exact le_past (Nat.le_refl _) | with_reducible refine le_past ?_ | with_reducible refine le_al ?_ | with_reducible refine le_set ?_ | with_reducible refine le_p1 ?_))) _))), ?_, ?_, ⟨by (first | (simp [go_sem]; done) | (simp [go_sem, ↓IntWalk.iteOmega]; done)), by (first | (simp [go_sem]; done) | (simp [go_sem, ↓IntWalk.iteOmega]; done)), by (first | (simp [go_sem]; done) | (simp [go_sem, ↓IntWalk.iteOmega]; done))⟩, ⟨by (first | (simp [go_sem]; done) | (simp [go_sem, ↓IntWalk.iteOmega]; done)), by (first | (simp [go_sem]; done) | (simp [go_sem, ↓IntWalk.iteOmega]; done)), by (first | (simp [go_sem]; done) | (simp [go_sem, ↓IntWalk.iteOmega]; done))⟩, own_lk ho1 (by (repeat (first | with_reducible exact Stp.refl | with_reducible refine stp_al _ ?_ | with_reducible refine stp_dr ?_ | (with_reducible refine stp_junkU ?_ ?_ ?_; (focus ((first | (simp [go_sem]; done) | (simp [go_sem, ↓IntWalk.iteOmega]; done)); done)); (focus ((first | omega | (simp only [World.size_alloc, size_past, World.drew_heap]; omega) | (simp [go_sem]; done) | (simp [go_sem]; omega)); done))) | (with_reducible refine stp_junkV ?_ ?_ ?_; (focus ((first | (simp [go_sem]; done) | (simp [go_sem, ↓IntWalk.iteOmega]; done)); done)); (focus ((first | omega | (simp only [World.size_alloc, size_past, World.drew_heap]; omega) | (simp [go_sem]; done) | (simp [go_sem]; omega)); done))) | with_reducible refine stp_pa ?_))) (by (first | omega | (simp only [World.size_alloc, size_past, World.drew_heap]; omega) | (simp [go_sem]; done) | (simp [go_sem]; omega))) (by (first | omega | (simp only [World.size_alloc, size_past, World.drew_heap]; omega) | (simp [go_sem]; done) | (simp [go_sem]; omega))) (by (repeat (first | assumption | exact Below.refl _ _ | with_reducible refine past_t _ ?_ | with_reducible refine below_a _ ?_ | with_reducible refine Below.drew ?_ | with_reducible refine below_d _ ?_ | (with_reducible refine Below.setCell ?_ (by (show _ ≤ _; repeat (first | exact Nat.le_refl _ | assumption | (omega; done) | with_reducible exact le_past (Nat.le_refl _) | with_reducible refine le_past ?_ | with_reducible refine le_al ?_ | with_reducible refine le_set ?_ | with_reducible refine le_p1 ?_))) _)))), own_lk ho2 (by (repeat (first | with_reducible exact Stp.refl | with_reducible refine stp_al _ ?_ | with_reducible refine stp_dr ?_ | (with_reducible refine stp_junkU ?_ ?_ ?_; (focus ((first | (simp [go_sem]; done) | (simp [go_sem, ↓IntWalk.iteOmega]; done)); done)); (focus ((first | omega | (simp only [World.size_alloc, size_past, World.drew_heap]; omega) | (simp [go_sem]; done) | (simp [go_sem]; omega)); done))) | (with_reducible refine stp_junkV ?_ ?_ ?_; (focus ((first | (simp [go_sem]; done) | (simp [go_sem, ↓IntWalk.iteOmega]; done)); done)); (focus ((first | omega | (simp only [World.size_alloc, size_past, World.drew_heap]; omega) | (simp [go_sem]; done) | (simp [go_sem]; omega)); done))) | with_reducible refine stp_pa ?_))) (by (first | omega | (simp only [World.size_alloc, size_past, World.drew_heap]; omega) | (simp [go_sem]; done) | (simp [go_sem]; omega))) (by (first | omega | (simp only [World.size_alloc, size_past, World.drew_heap]; omega) | (simp [go_sem]; done) | (simp [go_sem]; omega))) (by (repeat (first | assumption | exact Below.refl _ _ | with_reducible refine past_t _ ?_ | with_reducible refine below_a _ ?_ | with_reducible refine Below.drew ?_ | with_reducible refine below_d _ ?_ | (with_reducible refine Below.setCell ?_ (by (show _ ≤ _; repeat (first | exact Nat.le_refl _ | assumption | (omega; done) | with_reducible exact le_past (Nat.le_refl _) | with_reducible refine le_past ?_ | with_reducible refine le_al ?_ | with_reducible refine le_set ?_ | with_reducible refine le_p1 ?_))) _))))⟩
      all_goals (first | omega | (simp only [World.size_alloc, size_past, World.drew_heap]; omega) | (simp [go_sem]; done) | (simp [go_sem]; omega))
  case rest =>
    obtain ⟨k1, k2, A1, c1, A2, c2, rfl, rfl, hbc, hk1, hk2, v1, v2, m1, m2⟩ := hcut
    have m1 : LIs wc A1 a.V.length c1 a.V W0.heap.size wc.heap.size := m1
    have m2 : LIs wc A2 b.V.length c2 b.V W0.heap.size wc.heap.size := m2
    obtain ⟨hB, va, vb, hU, hV, ia, ib⟩ := FS.out
    clear FS KS IA IB
    go_upto_region 5 with fail
    refine wp_gen (fun W1 hW => ?_)
    have hs : Stp W1.heap.size W1.heap.size W0 W1 := by rw [hW]; exact Stp.bel hbc
    have hzW1 := hs.size
    replace hB := hs.below hB (by omega) (by omega)
    replace va := va.stp hs (by omega) (by omega)
    replace vb := vb.stp hs (by omega) (by omega)
    replace hU := hU.stp hs (by omega) (by omega)
    replace hV := hV.stp hs (by omega) (by omega)
    replace ia := ia.stp hs (by omega) (by omega)
    replace ib := ib.stp hs (by omega) (by omega)
    rw [← hW] at v1 v2 m1 m2
    have y1 := World.block_lt_of_cell? _ _ v1.c0
    have y2 := World.block_lt_of_cell? _ _ v2.c0
    clear hW hs hbc
    simp only at y1 y2
    obtain ⟨⟨⟨R5, C5, L5, e5⟩, i5, d5⟩, hP5⟩ : ∃ P, pairM gSum 2 a.R a.C a.V b.R b.C b.V false 0 = P := ⟨_, rfl⟩
    have q5 := pairM_cnt (by omega) (by omega) (by omega) hP5
    simp only at q5
    have hc := xSum hU (by omega) (R1 := a.R) (C1 := a.C) m1.1 (m1.fr (by omega)) ja (R2 := b.R) (C2 := b.C) m2.1 (m2.fr (by omega)) jb
    rw [hP5] at hc
    have HC := Lib.hid hc
    clear hc
    have v1_0 := v1.c0
    have v1_1 := v1.c1
    have v1_2 := v1.c2
    have v2_0 := v2.c0
    have v2_1 := v2.c1
    have v2_2 := v2.c2
    go_upto_region 6 with ((go_at_call 35; refine HC.out.mono ?_; rintro e x5 ⟨A5, n5, c5, rfl, ho5, hb5⟩))
    clear HC
    have hs2 : W1.heap.size ≤ x5.heap.size := by have := hb5.size; rwa [put_size] at this
    have u3 := (hU.put i5 d5).keep (by rw [put_size]; exact hb5)
    clear v1_0 v1_1 v1_2
    clear v2_0 v2_1 v2_2
    refine wp_gen (fun WX5 hW => ?_)
    have hs : Stp (w.heap.size + 1 + 1) (w.heap.size + 1 + 1) W1 WX5 := (Stp.put1 hb5).trans (by rw [hW]; exact Stp.bel (by (repeat (first | assumption | exact Below.refl _ _ | with_reducible refine past_t _ ?_ | with_reducible refine below_a _ ?_ | with_reducible refine Below.drew ?_ | with_reducible refine below_d _ ?_ | (with_reducible refine Below.setCell ?_ (by (show _ ≤ _; repeat (first | exact Nat.le_refl _ | assumption | (omega; done) | with_reducible exact le_past (Nat.le_refl _) | with_reducible refine le_past ?_ | with_reducible refine le_al ?_ | with_reducible refine le_set ?_ | with_reducible refine le_p1 ?_))) _)))))
    have hzWX5 := hs.size
    replace hB := hs.below hB (by omega) (by omega)
    replace va := va.stp hs (by omega) (by omega)
    replace vb := vb.stp hs (by omega) (by omega)
    replace hV := hV.stp hs (by omega) (by omega)
    replace ia := ia.stp hs (by omega) (by omega)
    replace ib := ib.stp hs (by omega) (by omega)
    replace m1 := m1.stp hs (by omega) (by omega)
    replace m2 := m2.stp hs (by omega) (by omega)
    replace v1 := v1.stp hs (by omega) (by omega)
    replace v2 := v2.stp hs (by omega) (by omega)
    replace hU := u3.keep (by rw [hW]; (repeat (first | assumption | exact Below.refl _ _ | with_reducible refine past_t _ ?_ | with_reducible refine below_a _ ?_ | with_reducible refine Below.drew ?_ | with_reducible refine below_d _ ?_ | (with_reducible refine Below.setCell ?_ (by (show _ ≤ _; repeat (first | exact Nat.le_refl _ | assumption | (omega; done) | with_reducible exact le_past (Nat.le_refl _) | with_reducible refine le_past ?_ | with_reducible refine le_al ?_ | with_reducible refine le_set ?_ | with_reducible refine le_p1 ?_))) _))) : Below x5.heap.size x5 WX5)
    clear u3
    have b3 : Below x5.heap.size x5 WX5 := by rw [hW]; (repeat (first | assumption | exact Below.refl _ _ | with_reducible refine past_t _ ?_ | with_reducible refine below_a _ ?_ | with_reducible refine Below.drew ?_ | with_reducible refine below_d _ ?_ | (with_reducible refine Below.setCell ?_ (by (show _ ≤ _; repeat (first | exact Nat.le_refl _ | assumption | (omega; done) | with_reducible exact le_past (Nat.le_refl _) | with_reducible refine le_past ?_ | with_reducible refine le_al ?_ | with_reducible refine le_set ?_ | with_reducible refine le_p1 ?_))) _)))
    have z_x5 : W1.heap.size ≤ x5.heap.size := hs2
    have mx5 := (own_ri ho5).keep b3
    have ox5 := ho5.keep b3
    have vx5 : Bx WX5 x5.heap.size R5 C5 (.slice A5 n5 c5) := by rw [hW]; exact ⟨by (first | (simp [go_sem]; done) | (simp [go_sem, ↓IntWalk.iteOmega]; done)), by (first | (simp [go_sem]; done) | (simp [go_sem, ↓IntWalk.iteOmega]; done)), by (first | (simp [go_sem]; done) | (simp [go_sem, ↓IntWalk.iteOmega]; done))⟩
    have y_vx5 := World.block_lt_of_cell? _ _ vx5.c0
    clear hW b3 hs hs2 ho5 hb5
    generalize x5.heap.size = k5 at *
    simp only at y_vx5
    have hc := ySum hV (by omega) (R1 := a.R) (C1 := a.C) ia.1 (ia.fr (by omega)) ja (R2 := b.R) (C2 := b.C) ib.1 (ib.fr (by omega)) jb
    rw [hP5] at hc
    have HC := Lib.hid hc
    clear hc
    have va_0 := va.c0
    have va_1 := va.c1
    have va_2 := va.c2
    have vb_0 := vb.c0
    have vb_1 := vb.c1
    have vb_2 := vb.c2
    go_upto_region 7 with ((go_at_call 36; refine HC.out.mono ?_; rintro e x6 ⟨A6, n6, c6, rfl, ho6, hb6⟩))
    clear HC
    have hs2 : WX5.heap.size ≤ x6.heap.size := by have := hb6.size; rwa [put_size] at this
    have u3 := (hV.put i5 d5).keep (by rw [put_size]; exact hb6)
    clear va_0 va_1 va_2
    clear vb_0 vb_1 vb_2
    refine wp_gen (fun WY5 hW => ?_)
    have hs : Stp (w.heap.size + 1 + 1 + 1) (w.heap.size + 1 + 1 + 1) WX5 WY5 := (Stp.put1 hb6).trans (by rw [hW]; exact Stp.bel (by (repeat (first | assumption | exact Below.refl _ _ | with_reducible refine past_t _ ?_ | with_reducible refine below_a _ ?_ | with_reducible refine Below.drew ?_ | with_reducible refine below_d _ ?_ | (with_reducible refine Below.setCell ?_ (by (show _ ≤ _; repeat (first | exact Nat.le_refl _ | assumption | (omega; done) | with_reducible exact le_past (Nat.le_refl _) | with_reducible refine le_past ?_ | with_reducible refine le_al ?_ | with_reducible refine le_set ?_ | with_reducible refine le_p1 ?_))) _)))))
    have hzWY5 := hs.size
    replace ox5 := own_stp ox5 hs mx5 (by omega) (by omega)
    replace hB := hs.below hB (by omega) (by omega)
    replace va := va.stp hs (by omega) (by omega)
    replace vb := vb.stp hs (by omega) (by omega)
    replace hU := hU.stp hs (by omega) (by omega)
    replace ia := ia.stp hs (by omega) (by omega)
    replace ib := ib.stp hs (by omega) (by omega)
    replace m1 := m1.stp hs (by omega) (by omega)
    replace m2 := m2.stp hs (by omega) (by omega)
    replace v1 := v1.stp hs (by omega) (by omega)
    replace v2 := v2.stp hs (by omega) (by omega)
    replace mx5 := mx5.stp hs (by omega) (by omega)
    replace vx5 := vx5.stp hs (by omega) (by omega)
    replace hV := u3.keep (by rw [hW]; (repeat (first | assumption | exact Below.refl _ _ | with_reducible refine past_t _ ?_ | with_reducible refine below_a _ ?_ | with_reducible refine Below.drew ?_ | with_reducible refine below_d _ ?_ | (with_reducible refine Below.setCell ?_ (by (show _ ≤ _; repeat (first | exact Nat.le_refl _ | assumption | (omega; done) | with_reducible exact le_past (Nat.le_refl _) | with_reducible refine le_past ?_ | with_reducible refine le_al ?_ | with_reducible refine le_set ?_ | with_reducible refine le_p1 ?_))) _))) : Below x6.heap.size x6 WY5)
    clear u3
    have b3 : Below x6.heap.size x6 WY5 := by rw [hW]; (repeat (first | assumption | exact Below.refl _ _ | with_reducible refine past_t _ ?_ | with_reducible refine below_a _ ?_ | with_reducible refine Below.drew ?_ | with_reducible refine below_d _ ?_ | (with_reducible refine Below.setCell ?_ (by (show _ ≤ _; repeat (first | exact Nat.le_refl _ | assumption | (omega; done) | with_reducible exact le_past (Nat.le_refl _) | with_reducible refine le_past ?_ | with_reducible refine le_al ?_ | with_reducible refine le_set ?_ | with_reducible refine le_p1 ?_))) _)))
    have z_x6 : WX5.heap.size ≤ x6.heap.size := hs2
    have my5 := (own_ri ho6).keep b3
    have vy5 : Bx WY5 x6.heap.size R5 C5 (.slice A6 n6 c6) := by rw [hW]; exact ⟨by (first | (simp [go_sem]; done) | (simp [go_sem, ↓IntWalk.iteOmega]; done)), by (first | (simp [go_sem]; done) | (simp [go_sem, ↓IntWalk.iteOmega]; done)), by (first | (simp [go_sem]; done) | (simp [go_sem, ↓IntWalk.iteOmega]; done))⟩
    have y_vy5 := World.block_lt_of_cell? _ _ vy5.c0
    clear hW b3 hs hs2 ho6 hb6
    generalize x6.heap.size = k6 at *
    simp only at y_vy5
    obtain ⟨⟨⟨R7, C7, L7, e7⟩, i7, d7⟩, hP7⟩ : ∃ P, pairM gLess 1 a.R a.C a.V b.R b.C b.V i5 d5 = P := ⟨_, rfl⟩
    have q7 := pairM_cnt (by omega) (by omega) (by omega) hP7
    simp only at q7
    have hc := xLess hU (by omega) (R1 := a.R) (C1 := a.C) m1.1 (m1.fr (by omega)) ja (R2 := b.R) (C2 := b.C) m2.1 (m2.fr (by omega)) jb
    rw [hP7] at hc
    have HC := Lib.hid hc
    clear hc
    have v1_0 := v1.c0
    have v1_1 := v1.c1
    have v1_2 := v1.c2
    have v2_0 := v2.c0
    have v2_1 := v2.c1
    have v2_2 := v2.c2
    go_upto_region 8 with ((go_at_call 37; refine HC.out.mono ?_; rintro e x7 ⟨A7, n7, c7, rfl, ho7, hb7⟩))
    clear HC
    have hs2 : WY5.heap.size ≤ x7.heap.size := by have := hb7.size; rwa [put_size] at this
    have u3 := (hU.put i7 d7).keep (by rw [put_size]; exact hb7)
    clear v1_0 v1_1 v1_2
    clear v2_0 v2_1 v2_2
    refine wp_gen (fun WX7 hW => ?_)
    have hs : Stp (w.heap.size + 1 + 1) (w.heap.size + 1 + 1) WY5 WX7 := (Stp.put1 hb7).trans (by rw [hW]; exact Stp.bel (by (repeat (first | assumption | exact Below.refl _ _ | with_reducible refine past_t _ ?_ | with_reducible refine below_a _ ?_ | with_reducible refine Below.drew ?_ | with_reducible refine below_d _ ?_ | (with_reducible refine Below.setCell ?_ (by (show _ ≤ _; repeat (first | exact Nat.le_refl _ | assumption | (omega; done) | with_reducible exact le_past (Nat.le_refl _) | with_reducible refine le_past ?_ | with_reducible refine le_al ?_ | with_reducible refine le_set ?_ | with_reducible refine le_p1 ?_))) _)))))
    have hzWX7 := hs.size
    replace ox5 := own_stp ox5 hs mx5 (by omega) (by omega)
    replace hB := hs.below hB (by omega) (by omega)
    replace va := va.stp hs (by omega) (by omega)
    replace vb := vb.stp hs (by omega) (by omega)
    replace hV := hV.stp hs (by omega) (by omega)
    replace ia := ia.stp hs (by omega) (by omega)
    replace ib := ib.stp hs (by omega) (by omega)
    replace m1 := m1.stp hs (by omega) (by omega)
    replace m2 := m2.stp hs (by omega) (by omega)
    replace v1 := v1.stp hs (by omega) (by omega)
    replace v2 := v2.stp hs (by omega) (by omega)
    replace mx5 := mx5.stp hs (by omega) (by omega)
    replace vx5 := vx5.stp hs (by omega) (by omega)
    replace my5 := my5.stp hs (by omega) (by omega)
    replace vy5 := vy5.stp hs (by omega) (by omega)
    replace hU := u3.keep (by rw [hW]; (repeat (first | assumption | exact Below.refl _ _ | with_reducible refine past_t _ ?_ | with_reducible refine below_a _ ?_ | with_reducible refine Below.drew ?_ | with_reducible refine below_d _ ?_ | (with_reducible refine Below.setCell ?_ (by (show _ ≤ _; repeat (first | exact Nat.le_refl _ | assumption | (omega; done) | with_reducible exact le_past (Nat.le_refl _) | with_reducible refine le_past ?_ | with_reducible refine le_al ?_ | with_reducible refine le_set ?_ | with_reducible refine le_p1 ?_))) _))) : Below x7.heap.size x7 WX7)
    clear u3
    have b3 : Below x7.heap.size x7 WX7 := by rw [hW]; (repeat (first | assumption | exact Below.refl _ _ | with_reducible refine past_t _ ?_ | with_reducible refine below_a _ ?_ | with_reducible refine Below.drew ?_ | with_reducible refine below_d _ ?_ | (with_reducible refine Below.setCell ?_ (by (show _ ≤ _; repeat (first | exact Nat.le_refl _ | assumption | (omega; done) | with_reducible exact le_past (Nat.le_refl _) | with_reducible refine le_past ?_ | with_reducible refine le_al ?_ | with_reducible refine le_set ?_ | with_reducible refine le_p1 ?_))) _)))
    have z_x7 : WY5.heap.size ≤ x7.heap.size := hs2
    have mx7 := (own_ri ho7).keep b3
    have ox7 := ho7.keep b3
    have vx7 : Bx WX7 x7.heap.size R7 C7 (.slice A7 n7 c7) := by rw [hW]; exact ⟨by (first | (simp [go_sem]; done) | (simp [go_sem, ↓IntWalk.iteOmega]; done)), by (first | (simp [go_sem]; done) | (simp [go_sem, ↓IntWalk.iteOmega]; done)), by (first | (simp [go_sem]; done) | (simp [go_sem, ↓IntWalk.iteOmega]; done))⟩
    have y_vx7 := World.block_lt_of_cell? _ _ vx7.c0
    clear hW b3 hs hs2 ho7 hb7
    generalize x7.heap.size = k7 at *
    simp only at y_vx7
    have hc := yLess hV (by omega) (R1 := a.R) (C1 := a.C) ia.1 (ia.fr (by omega)) ja (R2 := b.R) (C2 := b.C) ib.1 (ib.fr (by omega)) jb
    rw [hP7] at hc
    have HC := Lib.hid hc
    clear hc
    have va_0 := va.c0
    have va_1 := va.c1
    have va_2 := va.c2
    have vb_0 := vb.c0
    have vb_1 := vb.c1
    have vb_2 := vb.c2
    go_upto_region 9 with ((go_at_call 38; refine HC.out.mono ?_; rintro e x8 ⟨A8, n8, c8, rfl, ho8, hb8⟩))
    clear HC
    have hs2 : WX7.heap.size ≤ x8.heap.size := by have := hb8.size; rwa [put_size] at this
    have u3 := (hV.put i7 d7).keep (by rw [put_size]; exact hb8)
    clear va_0 va_1 va_2
    clear vb_0 vb_1 vb_2
    refine wp_gen (fun WY7 hW => ?_)
    have hs : Stp (w.heap.size + 1 + 1 + 1) (w.heap.size + 1 + 1 + 1) WX7 WY7 := (Stp.put1 hb8).trans (by rw [hW]; exact Stp.bel (by (repeat (first | assumption | exact Below.refl _ _ | with_reducible refine past_t _ ?_ | with_reducible refine below_a _ ?_ | with_reducible refine Below.drew ?_ | with_reducible refine below_d _ ?_ | (with_reducible refine Below.setCell ?_ (by (show _ ≤ _; repeat (first | exact Nat.le_refl _ | assumption | (omega; done) | with_reducible exact le_past (Nat.le_refl _) | with_reducible refine le_past ?_ | with_reducible refine le_al ?_ | with_reducible refine le_set ?_ | with_reducible refine le_p1 ?_))) _)))))
    have hzWY7 := hs.size
    replace ox5 := own_stp ox5 hs mx5 (by omega) (by omega)
    replace ox7 := own_stp ox7 hs mx7 (by omega) (by omega)
    replace hB := hs.below hB (by omega) (by omega)
    replace va := va.stp hs (by omega) (by omega)
    replace vb := vb.stp hs (by omega) (by omega)
    replace hU := hU.stp hs (by omega) (by omega)
    replace ia := ia.stp hs (by omega) (by omega)
    replace ib := ib.stp hs (by omega) (by omega)
    replace m1 := m1.stp hs (by omega) (by omega)
    replace m2 := m2.stp hs (by omega) (by omega)
    replace v1 := v1.stp hs (by omega) (by omega)
    replace v2 := v2.stp hs (by omega) (by omega)
    replace mx5 := mx5.stp hs (by omega) (by omega)
    replace vx5 := vx5.stp hs (by omega) (by omega)
    replace my5 := my5.stp hs (by omega) (by omega)
    replace vy5 := vy5.stp hs (by omega) (by omega)
    replace mx7 := mx7.stp hs (by omega) (by omega)
    replace vx7 := vx7.stp hs (by omega) (by omega)
    replace hV := u3.keep (by rw [hW]; (repeat (first | assumption | exact Below.refl _ _ | with_reducible refine past_t _ ?_ | with_reducible refine below_a _ ?_ | with_reducible refine Below.drew ?_ | with_reducible refine below_d _ ?_ | (with_reducible refine Below.setCell ?_ (by (show _ ≤ _; repeat (first | exact Nat.le_refl _ | assumption | (omega; done) | with_reducible exact le_past (Nat.le_refl _) | with_reducible refine le_past ?_ | with_reducible refine le_al ?_ | with_reducible refine le_set ?_ | with_reducible refine le_p1 ?_))) _))) : Below x8.heap.size x8 WY7)
    clear u3
    have b3 : Below x8.heap.size x8 WY7 := by rw [hW]; (repeat (first | assumption | exact Below.refl _ _ | with_reducible refine past_t _ ?_ | with_reducible refine below_a _ ?_ | with_reducible refine Below.drew ?_ | with_reducible refine below_d _ ?_ | (with_reducible refine Below.setCell ?_ (by (show _ ≤ _; repeat (first | exact Nat.le_refl _ | assumption | (omega; done) | with_reducible exact le_past (Nat.le_refl _) | with_reducible refine le_past ?_ | with_reducible refine le_al ?_ | with_reducible refine le_set ?_ | with_reducible refine le_p1 ?_))) _)))
    have z_x8 : WX7.heap.size ≤ x8.heap.size := hs2
    have my7 := (own_ri ho8).keep b3
    have vy7 : Bx WY7 x8.heap.size R7 C7 (.slice A8 n8 c8) := by rw [hW]; exact ⟨by (first | (simp [go_sem]; done) | (simp [go_sem, ↓IntWalk.iteOmega]; done)), by (first | (simp [go_sem]; done) | (simp [go_sem, ↓IntWalk.iteOmega]; done)), by (first | (simp [go_sem]; done) | (simp [go_sem, ↓IntWalk.iteOmega]; done))⟩
    have y_vy7 := World.block_lt_of_cell? _ _ vy7.c0
    clear hW b3 hs hs2 ho8 hb8
    generalize x8.heap.size = k8 at *
    simp only at y_vy7
    obtain ⟨⟨⟨R9, C9, L9, e9⟩, i9, d9⟩, hP9⟩ : ∃ P, pairM (gScaleS s) 2 a.R a.C a.V a.R a.C a.V i7 d7 = P := ⟨_, rfl⟩
    have q9 := pairM_cnt (by omega) (by omega) (by omega) hP9
    simp only at q9
    have hc := xScale hU (by omega) (R1 := a.R) (C1 := a.C) m1.1 (m1.fr (by omega)) ja (s := s) hsI
    rw [hP9] at hc
    have HC := Lib.hid hc
    clear hc
    have v1_0 := v1.c0
    have v1_1 := v1.c1
    have v1_2 := v1.c2
    go_upto_region 10 with ((go_at_call 39; refine HC.out.mono ?_; rintro e x9 ⟨A9, n9, c9, rfl, ho9, hb9⟩))
    clear HC
    have hs2 : WY7.heap.size ≤ x9.heap.size := by have := hb9.size; rwa [put_size] at this
    have u3 := (hU.put i9 d9).keep (by rw [put_size]; exact hb9)
    clear v1_0 v1_1 v1_2
    refine wp_gen (fun WX9 hW => ?_)
    have hs : Stp (w.heap.size + 1 + 1) (w.heap.size + 1 + 1) WY7 WX9 := (Stp.put1 hb9).trans (by rw [hW]; exact Stp.bel (by (repeat (first | assumption | exact Below.refl _ _ | with_reducible refine past_t _ ?_ | with_reducible refine below_a _ ?_ | with_reducible refine Below.drew ?_ | with_reducible refine below_d _ ?_ | (with_reducible refine Below.setCell ?_ (by (show _ ≤ _; repeat (first | exact Nat.le_refl _ | assumption | (omega; done) | with_reducible exact le_past (Nat.le_refl _) | with_reducible refine le_past ?_ | with_reducible refine le_al ?_ | with_reducible refine le_set ?_ | with_reducible refine le_p1 ?_))) _)))))
    have hzWX9 := hs.size
    replace ox5 := own_stp ox5 hs mx5 (by omega) (by omega)
    replace ox7 := own_stp ox7 hs mx7 (by omega) (by omega)
    replace hB := hs.below hB (by omega) (by omega)
    replace va := va.stp hs (by omega) (by omega)
    replace vb := vb.stp hs (by omega) (by omega)
    replace hV := hV.stp hs (by omega) (by omega)
    replace ia := ia.stp hs (by omega) (by omega)
    replace ib := ib.stp hs (by omega) (by omega)
    replace m1 := m1.stp hs (by omega) (by omega)
    replace m2 := m2.stp hs (by omega) (by omega)
    replace v1 := v1.stp hs (by omega) (by omega)
    replace v2 := v2.stp hs (by omega) (by omega)
    replace mx5 := mx5.stp hs (by omega) (by omega)
    replace vx5 := vx5.stp hs (by omega) (by omega)
    replace my5 := my5.stp hs (by omega) (by omega)
    replace vy5 := vy5.stp hs (by omega) (by omega)
    replace mx7 := mx7.stp hs (by omega) (by omega)
    replace vx7 := vx7.stp hs (by omega) (by omega)
    replace my7 := my7.stp hs (by omega) (by omega)
    replace vy7 := vy7.stp hs (by omega) (by omega)
    replace hU := u3.keep (by rw [hW]; (repeat (first | assumption | exact Below.refl _ _ | with_reducible refine past_t _ ?_ | with_reducible refine below_a _ ?_ | with_reducible refine Below.drew ?_ | with_reducible refine below_d _ ?_ | (with_reducible refine Below.setCell ?_ (by (show _ ≤ _; repeat (first | exact Nat.le_refl _ | assumption | (omega; done) | with_reducible exact le_past (Nat.le_refl _) | with_reducible refine le_past ?_ | with_reducible refine le_al ?_ | with_reducible refine le_set ?_ | with_reducible refine le_p1 ?_))) _))) : Below x9.heap.size x9 WX9)
    clear u3
    have b3 : Below x9.heap.size x9 WX9 := by rw [hW]; (repeat (first | assumption | exact Below.refl _ _ | with_reducible refine past_t _ ?_ | with_reducible refine below_a _ ?_ | with_reducible refine Below.drew ?_ | with_reducible refine below_d _ ?_ | (with_reducible refine Below.setCell ?_ (by (show _ ≤ _; repeat (first | exact Nat.le_refl _ | assumption | (omega; done) | with_reducible exact le_past (Nat.le_refl _) | with_reducible refine le_past ?_ | with_reducible refine le_al ?_ | with_reducible refine le_set ?_ | with_reducible refine le_p1 ?_))) _)))
    have z_x9 : WY7.heap.size ≤ x9.heap.size := hs2
    have mx9 := (own_ri ho9).keep b3
    have ox9 := ho9.keep b3
    have vx9 : Bx WX9 x9.heap.size R9 C9 (.slice A9 n9 c9) := by rw [hW]; exact ⟨by (first | (simp [go_sem]; done) | (simp [go_sem, ↓IntWalk.iteOmega]; done)), by (first | (simp [go_sem]; done) | (simp [go_sem, ↓IntWalk.iteOmega]; done)), by (first | (simp [go_sem]; done) | (simp [go_sem, ↓IntWalk.iteOmega]; done))⟩
    have y_vx9 := World.block_lt_of_cell? _ _ vx9.c0
    clear hW b3 hs hs2 ho9 hb9
    generalize x9.heap.size = k9 at *
    simp only at y_vx9
    have hc := yScale hV (by omega) (R1 := a.R) (C1 := a.C) ia.1 (ia.fr (by omega)) ja (s := s) hsI
    rw [hP9] at hc
    have HC := Lib.hid hc
    clear hc
    have va_0 := va.c0
    have va_1 := va.c1
    have va_2 := va.c2
    go_upto_region 11 with ((go_at_call 40; refine HC.out.mono ?_; rintro e x10 ⟨A10, n10, c10, rfl, ho10, hb10⟩))
    clear HC
    have hs2 : WX9.heap.size ≤ x10.heap.size := by have := hb10.size; rwa [put_size] at this
    have u3 := (hV.put i9 d9).keep (by rw [put_size]; exact hb10)
    clear va_0 va_1 va_2
    refine wp_gen (fun WY9 hW => ?_)
    have hs : Stp (w.heap.size + 1 + 1 + 1) (w.heap.size + 1 + 1 + 1) WX9 WY9 := (Stp.put1 hb10).trans (by rw [hW]; exact Stp.bel (by (repeat (first | assumption | exact Below.refl _ _ | with_reducible refine past_t _ ?_ | with_reducible refine below_a _ ?_ | with_reducible refine Below.drew ?_ | with_reducible refine below_d _ ?_ | (with_reducible refine Below.setCell ?_ (by (show _ ≤ _; repeat (first | exact Nat.le_refl _ | assumption | (omega; done) | with_reducible exact le_past (Nat.le_refl _) | with_reducible refine le_past ?_ | with_reducible refine le_al ?_ | with_reducible refine le_set ?_ | with_reducible refine le_p1 ?_))) _)))))
    have hzWY9 := hs.size
    replace ox5 := own_stp ox5 hs mx5 (by omega) (by omega)
    replace ox7 := own_stp ox7 hs mx7 (by omega) (by omega)
    replace ox9 := own_stp ox9 hs mx9 (by omega) (by omega)
    replace hB := hs.below hB (by omega) (by omega)
    replace va := va.stp hs (by omega) (by omega)
    replace vb := vb.stp hs (by omega) (by omega)
    replace hU := hU.stp hs (by omega) (by omega)
    replace ia := ia.stp hs (by omega) (by omega)
    replace ib := ib.stp hs (by omega) (by omega)
    replace m1 := m1.stp hs (by omega) (by omega)
    replace m2 := m2.stp hs (by omega) (by omega)
    replace v1 := v1.stp hs (by omega) (by omega)
    replace v2 := v2.stp hs (by omega) (by omega)
    replace mx5 := mx5.stp hs (by omega) (by omega)
    replace vx5 := vx5.stp hs (by omega) (by omega)
    replace my5 := my5.stp hs (by omega) (by omega)
    replace vy5 := vy5.stp hs (by omega) (by omega)
    replace mx7 := mx7.stp hs (by omega) (by omega)
    replace vx7 := vx7.stp hs (by omega) (by omega)
    replace my7 := my7.stp hs (by omega) (by omega)
    replace vy7 := vy7.stp hs (by omega) (by omega)
    replace mx9 := mx9.stp hs (by omega) (by omega)
    replace vx9 := vx9.stp hs (by omega) (by omega)
    replace hV := u3.keep (by rw [hW]; (repeat (first | assumption | exact Below.refl _ _ | with_reducible refine past_t _ ?_ | with_reducible refine below_a _ ?_ | with_reducible refine Below.drew ?_ | with_reducible refine below_d _ ?_ | (with_reducible refine Below.setCell ?_ (by (show _ ≤ _; repeat (first | exact Nat.le_refl _ | assumption | (omega; done) | with_reducible exact le_past (Nat.le_refl _) | with_reducible refine le_past ?_ | with_reducible refine le_al ?_ | with_reducible refine le_set ?_ | with_reducible refine le_p1 ?_))) _))) : Below x10.heap.size x10 WY9)
    clear u3
    have b3 : Below x10.heap.size x10 WY9 := by rw [hW]; (repeat (first | assumption | exact Below.refl _ _ | with_reducible refine past_t _ ?_ | with_reducible refine below_a _ ?_ | with_reducible refine Below.drew ?_ | with_reducible refine below_d _ ?_ | (with_reducible refine Below.setCell ?_ (by (show _ ≤ _; repeat (first | exact Nat.le_refl _ | assumption | (omega; done) | with_reducible exact le_past (Nat.le_refl _) | with_reducible refine le_past ?_ | with_reducible refine le_al ?_ | with_reducible refine le_set ?_ | with_reducible refine le_p1 ?_))) _)))
    have z_x10 : WX9.heap.size ≤ x10.heap.size := hs2
    have my9 := (own_ri ho10).keep b3
    have vy9 : Bx WY9 x10.heap.size R9 C9 (.slice A10 n10 c10) := by rw [hW]; exact ⟨by (first | (simp [go_sem]; done) | (simp [go_sem, ↓IntWalk.iteOmega]; done)), by (first | (simp [go_sem]; done) | (simp [go_sem, ↓IntWalk.iteOmega]; done)), by (first | (simp [go_sem]; done) | (simp [go_sem, ↓IntWalk.iteOmega]; done))⟩
    have y_vy9 := World.block_lt_of_cell? _ _ vy9.c0
    clear hW b3 hs hs2 ho10 hb10
    generalize x10.heap.size = k10 at *
    simp only at y_vy9
    have vx5_0 := vx5.c0
    have vx5_1 := vx5.c1
    have vx5_2 := vx5.c2
    have vy5_0 := vy5.c0
    have vy5_1 := vy5.c1
    have vy5_2 := vy5.c2
    have vx7_0 := vx7.c0
    have vx7_1 := vx7.c1
    have vx7_2 := vx7.c2
    have vy7_0 := vy7.c0
    have vy7_1 := vy7.c1
    have vy7_2 := vy7.c2
    have vx9_0 := vx9.c0
    have vx9_1 := vx9.c1
    have vx9_2 := vx9.c2
    have vy9_0 := vy9.c0
    have vy9_1 := vy9.c1
    have vy9_2 := vy9.c2
    have Hmx5 := Lib.hid mx5.1
    have Hmy5 := Lib.hid my5.1
    have Hmx7 := Lib.hid mx7.1
    have Hmy7 := Lib.hid my7.1
    have Hmx9 := Lib.hid mx9.1
    have Hmy9 := Lib.hid my9.1
    have HU := Lib.hid hU
    have HV := Lib.hid hV
    have S := Lib.hid (And.intro m1 (And.intro m2 (And.intro ia (And.intro ib (And.intro mx5 (And.intro mx7 (And.intro mx9 (And.intro ox5 (And.intro ox7 (And.intro ox9 (And.intro hB (And.intro va (And.intro vb (And.intro v1 (And.intro v2 (And.intro vx5 (And.intro vx7 vx9)))))))))))))))))
    clear my5 my7 my9 m1 m2 ia ib mx5 mx7 mx9 ox5 ox7 ox9 hB va vb v1 v2 vx5 vx7 vx9 vy5 vy7 vy9 hU hV hP5 hP7 hP9
    go_upto_region 12 with (first | (go_at_call 20; with_reducible refine Calls_past (kSameMat (R := R5) (C := C5) (Hmx5.out.keep ?_) (Hmy5.out.keep ?_)) (fun z => ?_); (focus ((first | ((repeat (first | assumption | exact Below.refl _ _ | with_reducible refine past_t _ ?_ | with_reducible refine below_a _ ?_ | with_reducible refine Below.drew ?_ | with_reducible refine below_d _ ?_ | (with_reducible refine Below.setCell ?_ (by (show _ ≤ _; repeat (first | exact Nat.le_refl _ | assumption | (omega; done) | with_reducible exact le_past (Nat.le_refl _) | with_reducible refine le_past ?_ | with_reducible refine le_al ?_ | with_reducible refine le_set ?_ | with_reducible refine le_p1 ?_))) _))); done) | (with_reducible rfl; done) | omega | (rfl; done) | (simp; done) | (simp [go_sem]; done) | (simp; omega) | (simp [go_sem]; omega)); done)); (focus ((first | ((repeat (first | assumption | exact Below.refl _ _ | with_reducible refine past_t _ ?_ | with_reducible refine below_a _ ?_ | with_reducible refine Below.drew ?_ | with_reducible refine below_d _ ?_ | (with_reducible refine Below.setCell ?_ (by (show _ ≤ _; repeat (first | exact Nat.le_refl _ | assumption | (omega; done) | with_reducible exact le_past (Nat.le_refl _) | with_reducible refine le_past ?_ | with_reducible refine le_al ?_ | with_reducible refine le_set ?_ | with_reducible refine le_p1 ?_))) _))); done) | (with_reducible rfl; done) | omega | (rfl; done) | (simp; done) | (simp [go_sem]; done) | (simp; omega) | (simp [go_sem]; omega)); done))) | (go_at_call 20; with_reducible refine Calls_past (kSameMat (R := R7) (C := C7) (Hmx7.out.keep ?_) (Hmy7.out.keep ?_)) (fun z => ?_); (focus ((first | ((repeat (first | assumption | exact Below.refl _ _ | with_reducible refine past_t _ ?_ | with_reducible refine below_a _ ?_ | with_reducible refine Below.drew ?_ | with_reducible refine below_d _ ?_ | (with_reducible refine Below.setCell ?_ (by (show _ ≤ _; repeat (first | exact Nat.le_refl _ | assumption | (omega; done) | with_reducible exact le_past (Nat.le_refl _) | with_reducible refine le_past ?_ | with_reducible refine le_al ?_ | with_reducible refine le_set ?_ | with_reducible refine le_p1 ?_))) _))); done) | (with_reducible rfl; done) | omega | (rfl; done) | (simp; done) | (simp [go_sem]; done) | (simp; omega) | (simp [go_sem]; omega)); done)); (focus ((first | ((repeat (first | assumption | exact Below.refl _ _ | with_reducible refine past_t _ ?_ | with_reducible refine below_a _ ?_ | with_reducible refine Below.drew ?_ | with_reducible refine below_d _ ?_ | (with_reducible refine Below.setCell ?_ (by (show _ ≤ _; repeat (first | exact Nat.le_refl _ | assumption | (omega; done) | with_reducible exact le_past (Nat.le_refl _) | with_reducible refine le_past ?_ | with_reducible refine le_al ?_ | with_reducible refine le_set ?_ | with_reducible refine le_p1 ?_))) _))); done) | (with_reducible rfl; done) | omega | (rfl; done) | (simp; done) | (simp [go_sem]; done) | (simp; omega) | (simp [go_sem]; omega)); done))) | (go_at_call 20; with_reducible refine Calls_past (kSameMat (R := R9) (C := C9) (Hmx9.out.keep ?_) (Hmy9.out.keep ?_)) (fun z => ?_); (focus ((first | ((repeat (first | assumption | exact Below.refl _ _ | with_reducible refine past_t _ ?_ | with_reducible refine below_a _ ?_ | with_reducible refine Below.drew ?_ | with_reducible refine below_d _ ?_ | (with_reducible refine Below.setCell ?_ (by (show _ ≤ _; repeat (first | exact Nat.le_refl _ | assumption | (omega; done) | with_reducible exact le_past (Nat.le_refl _) | with_reducible refine le_past ?_ | with_reducible refine le_al ?_ | with_reducible refine le_set ?_ | with_reducible refine le_p1 ?_))) _))); done) | (with_reducible rfl; done) | omega | (rfl; done) | (simp; done) | (simp [go_sem]; done) | (simp; omega) | (simp [go_sem]; omega)); done)); (focus ((first | ((repeat (first | assumption | exact Below.refl _ _ | with_reducible refine past_t _ ?_ | with_reducible refine below_a _ ?_ | with_reducible refine Below.drew ?_ | with_reducible refine below_d _ ?_ | (with_reducible refine Below.setCell ?_ (by (show _ ≤ _; repeat (first | exact Nat.le_refl _ | assumption | (omega; done) | with_reducible exact le_past (Nat.le_refl _) | with_reducible refine le_past ?_ | with_reducible refine le_al ?_ | with_reducible refine le_set ?_ | with_reducible refine le_p1 ?_))) _))); done) | (with_reducible rfl; done) | omega | (rfl; done) | (simp; done) | (simp [go_sem]; done) | (simp; omega) | (simp [go_sem]; omega)); done))) | (go_at_call 22; with_reducible refine Calls_past (uCut (HU.out.keep ?_)) (fun z => ?_); (focus ((first | ((repeat (first | assumption | exact Below.refl _ _ | with_reducible refine past_t _ ?_ | with_reducible refine below_a _ ?_ | with_reducible refine Below.drew ?_ | with_reducible refine below_d _ ?_ | (with_reducible refine Below.setCell ?_ (by (show _ ≤ _; repeat (first | exact Nat.le_refl _ | assumption | (omega; done) | with_reducible exact le_past (Nat.le_refl _) | with_reducible refine le_past ?_ | with_reducible refine le_al ?_ | with_reducible refine le_set ?_ | with_reducible refine le_p1 ?_))) _))); done) | (with_reducible rfl; done) | omega | (rfl; done) | (simp; done) | (simp [go_sem]; done) | (simp; omega) | (simp [go_sem]; omega)); done))) | (go_at_call 23; with_reducible refine Calls_past (r4Cut (HV.out.keep ?_)) (fun z => ?_); (focus ((first | ((repeat (first | assumption | exact Below.refl _ _ | with_reducible refine past_t _ ?_ | with_reducible refine below_a _ ?_ | with_reducible refine Below.drew ?_ | with_reducible refine below_d _ ?_ | (with_reducible refine Below.setCell ?_ (by (show _ ≤ _; repeat (first | exact Nat.le_refl _ | assumption | (omega; done) | with_reducible exact le_past (Nat.le_refl _) | with_reducible refine le_past ?_ | with_reducible refine le_al ?_ | with_reducible refine le_set ?_ | with_reducible refine le_p1 ?_))) _))); done) | (with_reducible rfl; done) | omega | (rfl; done) | (simp; done) | (simp [go_sem]; done) | (simp; omega) | (simp [go_sem]; omega)); done))))
    obtain ⟨m1, m2, ia, ib, mx5, mx7, mx9, ox5, ox7, ox9, hB, va, vb, v1, v2, vx5, vx7, vx9⟩ := S.out
    clear S
    refine wp_gen (fun WZ hW => ?_)
    have hs : Stp WZ.heap.size WZ.heap.size WY9 WZ := by rw [hW]; exact Stp.bel (by (repeat (first | assumption | exact Below.refl _ _ | with_reducible refine past_t _ ?_ | with_reducible refine below_a _ ?_ | with_reducible refine Below.drew ?_ | with_reducible refine below_d _ ?_ | (with_reducible refine Below.setCell ?_ (by (show _ ≤ _; repeat (first | exact Nat.le_refl _ | assumption | (omega; done) | with_reducible exact le_past (Nat.le_refl _) | with_reducible refine le_past ?_ | with_reducible refine le_al ?_ | with_reducible refine le_set ?_ | with_reducible refine le_p1 ?_))) _))))
    have hzWZ := hs.size
    replace ox5 := own_stp ox5 hs mx5 (by omega) (by omega)
    replace ox7 := own_stp ox7 hs mx7 (by omega) (by omega)
    replace ox9 := own_stp ox9 hs mx9 (by omega) (by omega)
    replace m1 := m1.stp hs (by omega) (by omega)
    replace m2 := m2.stp hs (by omega) (by omega)
    replace mx5 := mx5.stp hs (by omega) (by omega)
    replace mx7 := mx7.stp hs (by omega) (by omega)
    replace mx9 := mx9.stp hs (by omega) (by omega)
    replace ia := ia.stp hs (by omega) (by omega)
    replace ib := ib.stp hs (by omega) (by omega)
    replace hB := hs.below hB (by omega) (by omega)
    replace va := va.stp hs (by omega) (by omega)
    replace vb := vb.stp hs (by omega) (by omega)
    replace v1 := v1.stp hs (by omega) (by omega)
    replace v2 := v2.stp hs (by omega) (by omega)
    replace vx5 := vx5.stp hs (by omega) (by omega)
    replace vx7 := vx7.stp hs (by omega) (by omega)
    replace vx9 := vx9.stp hs (by omega) (by omega)
    clear hW hs
    have HC := Lib.hid (iOver2 ox5)
    obtain ⟨g21, hg21, hl21, hh21⟩ := over_at mx5
    have vx5_0 := vx5.c0
    have vx5_1 := vx5.c1
    have vx5_2 := vx5.c2
    go_upto_region 13 with ((go_at_call 34; refine HC.out.mono ?_; rintro e x21 ⟨rfl, hv⟩))
    clear HC
    clear vx5_0 vx5_1 vx5_2
    refine wp_gen (fun WZ1 hW => ?_)
    have hs : Stp g21 g21 WZ WZ1 := (hv g21 hg21).trans (by rw [hW]; exact Stp.bel (by (repeat (first | assumption | exact Below.refl _ _ | with_reducible refine past_t _ ?_ | with_reducible refine below_a _ ?_ | with_reducible refine Below.drew ?_ | with_reducible refine below_d _ ?_ | (with_reducible refine Below.setCell ?_ (by (show _ ≤ _; repeat (first | exact Nat.le_refl _ | assumption | (omega; done) | with_reducible exact le_past (Nat.le_refl _) | with_reducible refine le_past ?_ | with_reducible refine le_al ?_ | with_reducible refine le_set ?_ | with_reducible refine le_p1 ?_))) _)))))
    have hzWZ1 := hs.size
    replace ox7 := own_stp ox7 hs mx7 (by omega) (by omega)
    replace ox9 := own_stp ox9 hs mx9 (by omega) (by omega)
    replace m1 := m1.stp hs (by omega) (by omega)
    replace m2 := m2.stp hs (by omega) (by omega)
    replace mx7 := mx7.stp hs (by omega) (by omega)
    replace mx9 := mx9.stp hs (by omega) (by omega)
    replace ia := ia.stp hs (by omega) (by omega)
    replace ib := ib.stp hs (by omega) (by omega)
    replace hB := hs.below hB (by omega) (by omega)
    replace va := va.stp hs (by omega) (by omega)
    replace vb := vb.stp hs (by omega) (by omega)
    replace v1 := v1.stp hs (by omega) (by omega)
    replace v2 := v2.stp hs (by omega) (by omega)
    replace vx7 := vx7.stp hs (by omega) (by omega)
    replace vx9 := vx9.stp hs (by omega) (by omega)
    clear hW hs hv mx5 ox5 vx5
    have HC := Lib.hid (iOver2 ox7)
    obtain ⟨g22, hg22, hl22, hh22⟩ := over_at mx7
    have vx7_0 := vx7.c0
    have vx7_1 := vx7.c1
    have vx7_2 := vx7.c2
    go_upto_region 14 with ((go_at_call 34; refine HC.out.mono ?_; rintro e x22 ⟨rfl, hv⟩))
    clear HC
    clear vx7_0 vx7_1 vx7_2
    refine wp_gen (fun WZ2 hW => ?_)
    have hs : Stp g22 g22 WZ1 WZ2 := (hv g22 hg22).trans (by rw [hW]; exact Stp.bel (by (repeat (first | assumption | exact Below.refl _ _ | with_reducible refine past_t _ ?_ | with_reducible refine below_a _ ?_ | with_reducible refine Below.drew ?_ | with_reducible refine below_d _ ?_ | (with_reducible refine Below.setCell ?_ (by (show _ ≤ _; repeat (first | exact Nat.le_refl _ | assumption | (omega; done) | with_reducible exact le_past (Nat.le_refl _) | with_reducible refine le_past ?_ | with_reducible refine le_al ?_ | with_reducible refine le_set ?_ | with_reducible refine le_p1 ?_))) _)))))
    have hzWZ2 := hs.size
    replace ox9 := own_stp ox9 hs mx9 (by omega) (by omega)
    replace m1 := m1.stp hs (by omega) (by omega)
    replace m2 := m2.stp hs (by omega) (by omega)
    replace mx9 := mx9.stp hs (by omega) (by omega)
    replace ia := ia.stp hs (by omega) (by omega)
    replace ib := ib.stp hs (by omega) (by omega)
    replace hB := hs.below hB (by omega) (by omega)
    replace va := va.stp hs (by omega) (by omega)
    replace vb := vb.stp hs (by omega) (by omega)
    replace v1 := v1.stp hs (by omega) (by omega)
    replace v2 := v2.stp hs (by omega) (by omega)
    replace vx9 := vx9.stp hs (by omega) (by omega)
    clear hW hs hv mx7 ox7 vx7
    have HC := Lib.hid (iOver2 ox9)
    obtain ⟨g23, hg23, hl23, hh23⟩ := over_at mx9
    have vx9_0 := vx9.c0
    have vx9_1 := vx9.c1
    have vx9_2 := vx9.c2
    go_upto_region 15 with ((go_at_call 34; refine HC.out.mono ?_; rintro e x23 ⟨rfl, hv⟩))
    clear HC
    clear vx9_0 vx9_1 vx9_2
    refine wp_gen (fun WZ3 hW => ?_)
    have hs : Stp g23 g23 WZ2 WZ3 := (hv g23 hg23).trans (by rw [hW]; exact Stp.bel (by (repeat (first | assumption | exact Below.refl _ _ | with_reducible refine past_t _ ?_ | with_reducible refine below_a _ ?_ | with_reducible refine Below.drew ?_ | with_reducible refine below_d _ ?_ | (with_reducible refine Below.setCell ?_ (by (show _ ≤ _; repeat (first | exact Nat.le_refl _ | assumption | (omega; done) | with_reducible exact le_past (Nat.le_refl _) | with_reducible refine le_past ?_ | with_reducible refine le_al ?_ | with_reducible refine le_set ?_ | with_reducible refine le_p1 ?_))) _)))))
    have hzWZ3 := hs.size
    replace m1 := m1.stp hs (by omega) (by omega)
    replace m2 := m2.stp hs (by omega) (by omega)
    replace ia := ia.stp hs (by omega) (by omega)
    replace ib := ib.stp hs (by omega) (by omega)
    replace hB := hs.below hB (by omega) (by omega)
    replace va := va.stp hs (by omega) (by omega)
    replace vb := vb.stp hs (by omega) (by omega)
    replace v1 := v1.stp hs (by omega) (by omega)
    replace v2 := v2.stp hs (by omega) (by omega)
    clear hW hs hv mx9 ox9 vx9
    have Hm1 := Lib.hid m1.1
    have Hm2 := Lib.hid m2.1
    have Hia := Lib.hid ia.1
    have Hib := Lib.hid ib.1
    have HB := Lib.hid hB
    have v1_0 := v1.c0
    have v1_1 := v1.c1
    have v1_2 := v1.c2
    have va_0 := va.c0
    have va_1 := va.c1
    have va_2 := va.c2
    have v2_0 := v2.c0
    have v2_1 := v2.c1
    have v2_2 := v2.c2
    have vb_0 := vb.c0
    have vb_1 := vb.c1
    have vb_2 := vb.c2
    clear v1 va v2 vb hB m1 m2 ia ib
    go_wp2_with (first | (go_at_call 20; with_reducible refine Calls_past (kSameMat (R := a.R) (C := a.C) (Hm1.out.keep ?_) (Hia.out.keep ?_)) (fun z => ?_); (focus ((first | ((repeat (first | assumption | exact Below.refl _ _ | with_reducible refine past_t _ ?_ | with_reducible refine below_a _ ?_ | with_reducible refine Below.drew ?_ | with_reducible refine below_d _ ?_ | (with_reducible refine Below.setCell ?_ (by (show _ ≤ _; repeat (first | exact Nat.le_refl _ | assumption | (omega; done) | with_reducible exact le_past (Nat.le_refl _) | with_reducible refine le_past ?_ | with_reducible refine le_al ?_ | with_reducible refine le_set ?_ | with_reducible refine le_p1 ?_))) _))); done) | (with_reducible rfl; done) | omega | (rfl; done) | (simp; done) | (simp [go_sem]; done) | (simp; omega) | (simp [go_sem]; omega)); done)); (focus ((first | ((repeat (first | assumption | exact Below.refl _ _ | with_reducible refine past_t _ ?_ | with_reducible refine below_a _ ?_ | with_reducible refine Below.drew ?_ | with_reducible refine below_d _ ?_ | (with_reducible refine Below.setCell ?_ (by (show _ ≤ _; repeat (first | exact Nat.le_refl _ | assumption | (omega; done) | with_reducible exact le_past (Nat.le_refl _) | with_reducible refine le_past ?_ | with_reducible refine le_al ?_ | with_reducible refine le_set ?_ | with_reducible refine le_p1 ?_))) _))); done) | (with_reducible rfl; done) | omega | (rfl; done) | (simp; done) | (simp [go_sem]; done) | (simp; omega) | (simp [go_sem]; omega)); done))) | (go_at_call 20; with_reducible refine Calls_past (kSameMat (R := b.R) (C := b.C) (Hm2.out.keep ?_) (Hib.out.keep ?_)) (fun z => ?_); (focus ((first | ((repeat (first | assumption | exact Below.refl _ _ | with_reducible refine past_t _ ?_ | with_reducible refine below_a _ ?_ | with_reducible refine Below.drew ?_ | with_reducible refine below_d _ ?_ | (with_reducible refine Below.setCell ?_ (by (show _ ≤ _; repeat (first | exact Nat.le_refl _ | assumption | (omega; done) | with_reducible exact le_past (Nat.le_refl _) | with_reducible refine le_past ?_ | with_reducible refine le_al ?_ | with_reducible refine le_set ?_ | with_reducible refine le_p1 ?_))) _))); done) | (with_reducible rfl; done) | omega | (rfl; done) | (simp; done) | (simp [go_sem]; done) | (simp; omega) | (simp [go_sem]; omega)); done)); (focus ((first | ((repeat (first | assumption | exact Below.refl _ _ | with_reducible refine past_t _ ?_ | with_reducible refine below_a _ ?_ | with_reducible refine Below.drew ?_ | with_reducible refine below_d _ ?_ | (with_reducible refine Below.setCell ?_ (by (show _ ≤ _; repeat (first | exact Nat.le_refl _ | assumption | (omega; done) | with_reducible exact le_past (Nat.le_refl _) | with_reducible refine le_past ?_ | with_reducible refine le_al ?_ | with_reducible refine le_set ?_ | with_reducible refine le_p1 ?_))) _))); done) | (with_reducible rfl; done) | omega | (rfl; done) | (simp; done) | (simp [go_sem]; done) | (simp; omega) | (simp [go_sem]; omega)); done))) | (go_at_call 13; first | (with_reducible refine Calls_past2 (haw _) (fun z => ?_)) | (with_reducible refine Calls_past (haw _) (fun z => ?_))))
    go_ret
    exact ⟨rfl, bel_trans HB.out (by (repeat (first | assumption | exact Below.refl _ _ | with_reducible refine past_t _ ?_ | with_reducible refine below_a _ ?_ | with_reducible refine Below.drew ?_ | with_reducible refine below_d _ ?_ | (with_reducible refine Below.setCell ?_ (by (show _ ≤ _; repeat (first | exact Nat.le_refl _ | assumption | (omega; done) | with_reducible exact le_past (Nat.le_refl _) | with_reducible refine le_past ?_ | with_reducible refine le_al ?_ | with_reducible refine le_set ?_ | with_reducible refine le_p1 ?_))) _))))⟩
set_option maxRecDepth 100000 in
theorem lifted (os : Os) (started : os.Started) (H : Type) (enc : TypeId × Value → H) :
    ReturnsInHanded {} Try.checked os 6 .any (Rows.matSumsSpec.pre6 enc Try.prog Try.f6 Rows.matSumsRow.domain false) (Rows.matSumsSpec.post enc Try.prog Try.f6 false true false false) := by
  refine returnsInHanded_of_change (C := Try.checked) own started (by kernel_rfl) Try.func6
    (ChangeSpec.witness6 (enc := enc) (C := Try.checked) false ⟨#[], #[.agg #[.int .i64 0, .int .i64 0, .slice none 0 0], .agg #[.int .i64 0, .int .i64 0, .slice none 0 0], .int .i64 0], []⟩ 8 (by kernel_rfl) (by kernel_rfl) (by kernel_rfl) (by kernel_rfl)) ?_
  intro W base args ds gs before hval0 hW hcnd _
  have hval : ∀ (j : Nat) t v, Try.f6.params[j]? = some t → args[j]? = some v → Value.okWide Try.prog W .any base t v := hval0
  have hW' := hW
  obtain ⟨p, q, hA0, hV, rfl, hfz, hnd⟩ := hW
  have hA : DataW.TrodAll enc Try.prog W 0 (fun _ => true) true Try.f6.params.toList args.toList ds p := hA0
  rw [Try.params6] at hA hval
  obtain ⟨v0, vs0, d0, ds0, p0, q0, hargs, rfl, rfl, h0, r0⟩ := trodAll_cons hA
  obtain ⟨v1, vs1, d1, ds1, p1, q1, rfl, rfl, rfl, h1, r1⟩ := trodAll_cons r0
  obtain ⟨v2, vs2, d2, ds2, p2, q2, rfl, rfl, rfl, h2, r2⟩ := trodAll_cons r1
  obtain ⟨rfl, rfl, rfl⟩ := trodAll_nil r2
  obtain rfl : args = #[v0, v1, v2] := by cases args; simp_all
  obtain ⟨rfl, rfl⟩ := trodVars_none hV
  have k0 := h0
  have lt0 : ∀ x ∈ p0, x.block < W.heap.size := by obtain ⟨m, hm⟩ := k0; exact DataW.trod_lt m _ _ _ hm
  obtain ⟨a, rfl, w0⟩ := open_mat (hval 0 24 v0 rfl rfl) h0
  have k1 := h1
  have lt1 : ∀ x ∈ p1, x.block < W.heap.size := by obtain ⟨m, hm⟩ := k1; exact DataW.trod_lt m _ _ _ hm
  obtain ⟨b, rfl, w1⟩ := open_mat (hval 1 24 v1 rfl rfl) h1
  obtain ⟨s, rfl, rfl, rfl, w2⟩ := open_int Try.underlying3 (hval 2 3 v2 rfl rfl) h2
  clear hA0 hval0
  refine (walk W a w0 b w1 s w2).mono fun e W' ⟨he, bel⟩ => ?_
  subst he
  exact ⟨_, rfl, _, _, _, [], _, [], hW', trodAll_mk1 (shut_bool Try.underlying4 _), (trodAll_cons_mk (Below.trod laidOut (by kernel_rfl) (of_decide_eq_true (by kernel_rfl)) k0 bel lt0) (trodAll_cons_mk (Below.trod laidOut (by kernel_rfl) (of_decide_eq_true (by kernel_rfl)) k1 bel lt1) (trodAll_cons_mk (shut_int Try.underlying3 w2) trodAll_mk0))), rfl, bel.frame _, fun h => by cases h⟩
theorem over : Rows.matSumsRow.holds Try.pinned (OpenSpec.ofChange Rows.matSumsSpec) :=
  OpenClaim.holds_of_wide 6 Try.f6 rfl rfl rfl rfl rfl rfl rfl ⟨rfl, rfl, rfl, rfl, rfl⟩ rfl rfl rfl rfl rfl (by kernel_rfl) Try.func6 (by kernel_rfl)
    (of_decide_eq_true (by kernel_rfl)) (by unfold Func.isWrapper; first | (rw [if_pos (by decide +kernel)]; kernel_rfl) | (rw [if_neg (by decide +kernel)]; exact ⟨rfl, rfl⟩))
    (fun os started H enc _ => lifted os started H enc)
theorem proved : Rows.MatSumsSaid := over
#print axioms proved
end Go.Proofs.Ytlhadociaekkhaa.matSums
