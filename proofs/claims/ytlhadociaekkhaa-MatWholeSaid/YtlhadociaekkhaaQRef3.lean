/- Ref3 -/
import Derived.Test.YtlhadociaekkhaaQRef2
import Derived.Deep.DeepCutAuto
namespace Go.Proofs.Ytlhadociaekkhaa
set_option linter.unusedVariables false
open Go.RowKit
/-- What holds of the variables of 'rounded': a, d, the answer's place, q, r. -/
structure RI (w : World) (P : Nat) (a d q r : Int) (W : World) : Prop where
  cA : WC P a W
  cD : WC (P + 1) d W
  s0 : Slot (P + 1 + 1) 0 W
  s1 : Slot (P + 1 + 1) 1 W
  cQ : WC (P + 1 + 1 + 1) q W
  cR : WC (P + 1 + 1 + 1 + 1) r W
  B : Below w.heap.size w W
  hP : w.heap.size ≤ P
theorem RI.keep {w : World} {P : Nat} {a d q r : Int} {W W' : World} (h : RI w P a d q r W) (hb : Below W.heap.size W W') : RI w P a d q r W' :=
  ⟨h.cA.keep hb, h.cD.keep hb, h.s0.keep hb, h.s1.keep hb, h.cQ.keep hb, h.cR.keep hb, Below.next h.B hb (by have := h.cA.lt; have := h.hP; omega), h.hP⟩
theorem RI.setQ {w : World} {P : Nat} {a d q r : Int} {W : World} (h : RI w P a d q r W) (y : Int) : RI w P a d y r ((W.setCell ⟨P + 1 + 1 + 1, 0, none⟩ (.int .i64 (whi y))).setCell ⟨P + 1 + 1 + 1, 1, none⟩ (.int .u64 (wlo y))) :=
  ⟨h.cA.far2 (by omega) _ _, h.cD.far2 (by omega) _ _, h.s0.set2 _ _, h.s1.set2 _ _, h.cQ.set y, h.cR.far2 (by omega) _ _, Below.set2 h.B (by have := h.hP; omega) _ _, h.hP⟩
theorem RI.setR {w : World} {P : Nat} {a d q r : Int} {W : World} (h : RI w P a d q r W) (y : Int) : RI w P a d q y ((W.setCell ⟨P + 1 + 1 + 1 + 1, 0, none⟩ (.int .i64 (whi y))).setCell ⟨P + 1 + 1 + 1 + 1, 1, none⟩ (.int .u64 (wlo y))) :=
  ⟨h.cA.far2 (by omega) _ _, h.cD.far2 (by omega) _ _, h.s0.set2 _ _, h.s1.set2 _ _, h.cQ.far2 (by omega) _ _, h.cR.set y, Below.set2 h.B (by have := h.hP; omega) _ _, h.hP⟩
theorem RI.drew {w : World} {P : Nat} {a d q r : Int} {W : World} (h : RI w P a d q r W) : RI w P a d q r W.drew := h.keep (Below.draw W)
/-- The quotient's low half alone is counted up. -/
theorem RI.incQ {w : World} {P : Nat} {a d q r : Int} {W : World} (h : RI w P a d (2 * q) r W) : RI w P a d (2 * q + 1) r (W.setCell ⟨P + 1 + 1 + 1, 1, none⟩ (.int .u64 (wlo (2 * q + 1)))) :=
  ⟨h.cA.far (by omega) _, h.cD.far (by omega) _, h.s0.set _ _, h.s1.set _ _,
   ⟨by rw [World.cell?_setCell_other _ _ _ _ (by simp), h.cQ.hi, (tw_2 q).2], World.cell?_setCell_same _ _ _ h.cQ.lo, by rw [World.frozen?_setCell]; exact h.cQ.f0, by rw [World.frozen?_setCell]; exact h.cQ.f1⟩,
   h.cR.far (by omega) _, Below.setCell h.B (p := ⟨P + 1 + 1 + 1, 1, none⟩) (by have := h.hP; show _ ≤ P + 1 + 1 + 1; omega) _, h.hP⟩
theorem RI.setE {w : World} {P : Nat} {a d q r : Int} {W : World} (h : RI w P a d q r W) {E : Nat} (hE : P + 1 + 1 + 1 + 1 < E) (u v : Value) : RI w P a d q r ((W.setCell ⟨E, 0, none⟩ u).setCell ⟨E, 1, none⟩ v) :=
  ⟨h.cA.far2 (by omega) _ _, h.cD.far2 (by omega) _ _, h.s0.set2 _ _, h.s1.set2 _ _, h.cQ.far2 (by omega) _ _, h.cR.far2 (by omega) _ _, Below.set2 h.B (by have := h.hP; omega) _ _, h.hP⟩
theorem WC.new (w : World) (x : Int) : WC w.heap.size x (w.alloc (Obj.cells #[.int .i64 (whi x), .int .u64 (wlo x)] 89)) := ⟨by simp [go_sem], by simp [go_sem], by simp [go_sem], by simp [go_sem]⟩
theorem WC.new0 (w : World) : WC w.heap.size 0 (w.alloc (Obj.cells #[.int .i64 0, .int .u64 0] 89)) := ⟨by simp [go_sem, whi_0], by simp [go_sem, wlo_0], by simp [go_sem], by simp [go_sem]⟩
theorem dv_step (a d n : Int) (h0 : 0 ≤ n) (ha : 0 ≤ a) (hd : 0 < d) :
    a / 2 ^ n.toNat / d = 2 * (a / 2 ^ (n + 1).toNat / d) + (if d ≤ incr (bitB a n) (2 * (a / 2 ^ (n + 1).toNat % d)) then 1 else 0)
    ∧ a / 2 ^ n.toNat % d = incr (bitB a n) (2 * (a / 2 ^ (n + 1).toNat % d)) - (if d ≤ incr (bitB a n) (2 * (a / 2 ^ (n + 1).toNat % d)) then d else 0)
    ∧ 0 ≤ a / 2 ^ (n + 1).toNat % d ∧ a / 2 ^ (n + 1).toNat % d < d := by
  have e := half_step a n h0
  unfold incr bitB
  have hb : (if decide (a / 2 ^ n.toNat % 2 = 1) = true then 2 * (a / 2 ^ (n + 1).toNat % d) + 1 else 2 * (a / 2 ^ (n + 1).toNat % d)) = 2 * (a / 2 ^ (n + 1).toNat % d) + a / 2 ^ n.toNat % 2 := by
    by_cases h : a / 2 ^ n.toNat % 2 = 1
    · rw [if_pos (by simp [h]), h]
    · rw [if_neg (by simp [h])]; generalize a / 2 ^ n.toNat = s at *; omega
  rw [hb]
  obtain ⟨f, r0, r1⟩ := ediv_parts (a / 2 ^ (n + 1).toNat) d hd
  generalize a / 2 ^ (n + 1).toNat = m at *
  generalize a / 2 ^ n.toNat = s at *
  generalize m / d = q at *
  generalize m % d = r at *
  by_cases hx : d ≤ 2 * r + s % 2
  · rw [if_pos hx, if_pos hx]
    have : s = (2 * q + 1) * d + (2 * r + s % 2 - d) := by rw [Int.add_mul, Int.mul_assoc]; omega
    obtain ⟨u, v⟩ := div_of this (by omega) (by omega)
    exact ⟨u, v, r0, r1⟩
  · rw [if_neg hx, if_neg hx]
    have : s = (2 * q) * d + (2 * r + s % 2) := by rw [Int.mul_assoc]; omega
    obtain ⟨u, v⟩ := div_of this (by omega) (by omega)
    refine ⟨by omega, by omega, r0, r1⟩
theorem rr_no {a d n q R1 : Int} (hx : ¬ d ≤ R1) (h1 : a / 2 ^ n.toNat / d = 2 * q + (if d ≤ R1 then 1 else 0)) (h2 : a / 2 ^ n.toNat % d = R1 - (if d ≤ R1 then d else 0)) :
    Hid (2 * q = a / 2 ^ (n - 1 + 1).toNat / d ∧ R1 = a / 2 ^ (n - 1 + 1).toNat % d) := by
  rw [if_neg hx] at h1 h2
  show _ ∧ _
  rw [show n - 1 + 1 = n from by omega, h1, h2]; omega
theorem rr_yes {a d n q R1 : Int} (hx : d ≤ R1) (h1 : a / 2 ^ n.toNat / d = 2 * q + (if d ≤ R1 then 1 else 0)) (h2 : a / 2 ^ n.toNat % d = R1 - (if d ≤ R1 then d else 0)) :
    Hid (2 * q + 1 = a / 2 ^ (n - 1 + 1).toNat / d ∧ R1 - d = a / 2 ^ (n - 1 + 1).toNat % d) := by
  rw [if_pos hx] at h1 h2
  show _ ∧ _
  rw [show n - 1 + 1 = n from by omega, h1, h2]; omega
theorem near_eq2 (r d : Int) (hr0 : 0 ≤ r) (hr : r < d) (hd : d ≤ 170141183460469231731687303715884105728) : d - r = r ↔ (whi (d - r) = whi r ∧ wlo (d - r) = wlo r) := by
  unfold whi wlo; omega
theorem rh_no {a d q r : Int} (h1 : q = a / d) (h2 : r = a % d) (h : near q r d = false) : rh a d = q := by
  unfold rh incr; rw [← h1, ← h2, h]; simp
theorem rh_yes {a d q r : Int} (h1 : q = a / d) (h2 : r = a % d) (h : near q r d = true) : rh a d = q + 1 := by
  unfold rh incr; rw [← h1, ← h2, h]; simp
theorem rr_start (a d : Int) (ha0 : 0 ≤ a) (ha : a < 340282366920938463463374607431768211456) (hd0 : 0 < d) : Hid ((0 : Int) = a / 2 ^ ((127 : Int) + 1).toNat / d ∧ (0 : Int) = a / 2 ^ ((127 : Int) + 1).toNat % d) := by
  have e : (2 : Int) ^ ((127 : Int) + 1).toNat = 340282366920938463463374607431768211456 := by decide
  rw [e, Int.ediv_eq_zero_of_lt ha0 ha]
  exact ⟨by simp, by simp⟩
set_option maxHeartbeats 2000000 in
theorem rRounded (a d : Int) (w : World) (ha0 : 0 ≤ a) (ha : a < 340282366920938463463374607431768211456) (hd0 : 0 < d) (hd : d ≤ 170141183460469231731687303715884105728) :
    Calls Try.prog 112 #[WV a, WV d] w fun e w' => e = .returned (WV (rh a d)) ∧ Below w.heap.size w w' := by
  go_enter Try.func112, Try.ntmps112
  go_wp2_with fail
  obtain ⟨P, hP⟩ : ∃ P, P = w.heap.size := ⟨_, rfl⟩
  obtain ⟨W, hW⟩ : ∃ W, W = (((((w.alloc (Obj.cells #[.int .i64 (whi a), .int .u64 (wlo a)] 89)).alloc (Obj.cells #[.int .i64 (whi d), .int .u64 (wlo d)] 89)).alloc (Obj.cells #[.int .i64 0, .int .u64 0] 89)).alloc (Obj.cells #[.int .i64 0, .int .u64 0] 89)).alloc (Obj.cells #[.int .i64 0, .int .u64 0] 89)) := ⟨_, rfl⟩
  have hI : RI w P a d 0 0 W := by
    rw [hW, hP]
    refine ⟨⟨?_, ?_, ?_, ?_⟩, ⟨?_, ?_, ?_, ?_⟩, ⟨⟨.int .i64 0, ?_⟩, ?_⟩, ⟨⟨.int .u64 0, ?_⟩, ?_⟩, ⟨?_, ?_, ?_, ?_⟩, ⟨?_, ?_, ?_, ?_⟩, ?_, Nat.le_refl _⟩
    all_goals first | exact ((((Below.one _ _).alloc (by simp) _).alloc (by simp; omega) _).alloc (by simp; omega) _).alloc (by simp; omega) _ | (simp [go_sem, whi_0, wlo_0]; done) | (simp [go_sem]; rfl)
  rw [← hW, ← hP]
  clear hW hP
  go_loopg [7] 128 (fun g i wr => ∃ n q r : Int, (g : Int) = n + 1 ∧ -1 ≤ n ∧ n ≤ 127 ∧ i = .int .i64 n ∧ RI w P a d q r wr ∧ Hid (q = a / 2 ^ (n + 1).toNat / d ∧ r = a / 2 ^ (n + 1).toNat % d))
  case atStart => exact ⟨127, 0, 0, by omega, by omega, by omega, rfl, hI, rr_start a d ha0 ha hd0⟩
  case round =>
    clear hI
    obtain ⟨n, q, r, ng, n0, n1, rfl, hI, hq⟩ := hrel
    by_cases hn : 0 ≤ n
    · obtain ⟨st1, st2, st3, st4⟩ := dv_step a d n hn ha0 hd0
      rw [← hq.out.1, ← hq.out.2] at st1
      rw [← hq.out.2] at st2 st3 st4
      have hr0 : 0 ≤ incr (bitB a n) (2 * r) := by unfold incr; split <;> omega
      have hr1 : incr (bitB a n) (2 * r) < 2 * d := by unfold incr; split <;> omega
      obtain ⟨R1, hR1⟩ : ∃ x, x = incr (bitB a n) (2 * r) := ⟨_, rfl⟩
      rw [← hR1] at st1 st2 hr0 hr1
      have ST1 := Lib.hid st1; have ST2 := Lib.hid st2; have HR1 := Lib.hid hR1
      clear st1 st2 hR1
      have fA := hI.cA; have fD := hI.cD; have fQ := hI.cQ; have fR := hI.cR; have a1 := fA.hi; have a2 := fA.lo; have d1 := fD.hi; have d2 := fD.lo; have q1 := fQ.hi; have q2 := fQ.lo; have q3 := fQ.f0; have q4 := fQ.f1; have r1 := fR.hi; have r2 := fR.lo; have r3 := fR.f0; have r4 := fR.f1; have l1 := fR.lt; have l2 := fD.lt; clear fA fD fQ fR
      go_wp2_with fail
      go_cut [] (fun wx => RI w P a d q R1 wx)
      case first =>
        go_region_with (first | (go_at_call 114; refine (rBit a n _ hn (by omega)).mono ?_; rintro e w3 ⟨rfl, hb3⟩; have hI3 := hI.drew.keep hb3; clear a1 a2 d1 d2 q1 q2 q3 q4 r1 r2 r3 r4 l1 l2; have fA := hI3.cA; have fD := hI3.cD; have fQ := hI3.cQ; have fR := hI3.cR; have a1 := fA.hi; have a2 := fA.lo; have d1 := fD.hi; have d2 := fD.lo; have q1 := fQ.hi; have q2 := fQ.lo; have q3 := fQ.f0; have q4 := fQ.f1; have r1 := fR.hi; have r2 := fR.lo; have r3 := fR.f0; have r4 := fR.f1; have l1 := fR.lt; have l2 := fD.lt; clear fA fD fQ fR) | (go_at_call 111; refine (rTwice _ _ _).mono ?_; rintro e w4 ⟨rfl, hb4⟩; rw [← HR1.out]; have hI4 := hI3.keep hb4; clear a1 a2 d1 d2 q1 q2 q3 q4 r1 r2 r3 r4 l1 l2; have fA := hI4.cA; have fD := hI4.cD; have fQ := hI4.cQ; have fR := hI4.cR; have a1 := fA.hi; have a2 := fA.lo; have d1 := fD.hi; have d2 := fD.lo; have q1 := fQ.hi; have q2 := fQ.lo; have q3 := fQ.f0; have q4 := fQ.f1; have r1 := fR.hi; have r2 := fR.lo; have r3 := fR.f0; have r4 := fR.f1; have l1 := fR.lt; have l2 := fD.lt; clear fA fD fQ fR))
        all_goals (go_wp2_with fail; go_meet; exact hI4.setR R1)
      case rest =>
        clear hI
        clear a1 a2 d1 d2 q1 q2 q3 q4 r1 r2 r3 r4 l1 l2
        have hI := hcut; clear hcut
        have fA := hI.cA; have fD := hI.cD; have fQ := hI.cQ; have fR := hI.cR; have a1 := fA.hi; have a2 := fA.lo; have d1 := fD.hi; have d2 := fD.lo; have q1 := fQ.hi; have q2 := fQ.lo; have q3 := fQ.f0; have q4 := fQ.f1; have r1 := fR.hi; have r2 := fR.lo; have r3 := fR.f0; have r4 := fR.f1; have l1 := fR.lt; have l2 := fD.lt; clear fA fD fQ fR
        go_wp2_with fail
        refine (rTwice _ _ _).mono ?_
        rintro e w5 ⟨rfl, hb5⟩
        have hI5 := hI.keep hb5
        clear a1 a2 d1 d2 q1 q2 q3 q4 r1 r2 r3 r4 l1 l2
        have fA := hI5.cA; have fD := hI5.cD; have fQ := hI5.cQ; have fR := hI5.cR; have a1 := fA.hi; have a2 := fA.lo; have d1 := fD.hi; have d2 := fD.lo; have q1 := fQ.hi; have q2 := fQ.lo; have q3 := fQ.f0; have q4 := fQ.f1; have r1 := fR.hi; have r2 := fR.lo; have r3 := fR.f0; have r4 := fR.f1; have l1 := fR.lt; have l2 := fD.lt; clear fA fD fQ fR
        rw [show incr false (2 * q) = 2 * q from rfl]
        have hI6 := hI5.setQ (2 * q)
        go_wp2_with fail
        refine (rBelow R1 d _ hr0 (by omega) (by omega) (by omega)).mono ?_
        rintro e w7 ⟨rfl, hb7⟩
        have hI7 := hI6.keep hb7
        clear a1 a2 d1 d2 q1 q2 q3 q4 r1 r2 r3 r4 l1 l2
        have fA := hI7.cA; have fD := hI7.cD; have fQ := hI7.cQ; have fR := hI7.cR; have a1 := fA.hi; have a2 := fA.lo; have d1 := fD.hi; have d2 := fD.lo; have q1 := fQ.hi; have q2 := fQ.lo; have q3 := fQ.f0; have q4 := fQ.f1; have r1 := fR.hi; have r2 := fR.lo; have r3 := fR.f0; have r4 := fR.f1; have l1 := fR.lt; have l2 := fD.lt; clear fA fD fQ fR
        by_cases hx : d ≤ R1
        · have hx' : decide (R1 < d) = false := decide_eq_false (by omega)
          go_wp2_with fail
          go_cut [] (fun wx => RI w P a d (2 * q) (R1 - d) wx)
          case first =>
            go_region_with (first | (go_at_call 88; refine (rNeg _ _).mono ?_; rintro e w3 ⟨rfl, hb3⟩; have hI8 := hI7.drew.keep hb3; clear a1 a2 d1 d2 q1 q2 q3 q4 r1 r2 r3 r4 l1 l2; have fA := hI8.cA; have fD := hI8.cD; have fQ := hI8.cQ; have fR := hI8.cR; have a1 := fA.hi; have a2 := fA.lo; have d1 := fD.hi; have d2 := fD.lo; have q1 := fQ.hi; have q2 := fQ.lo; have q3 := fQ.f0; have q4 := fQ.f1; have r1 := fR.hi; have r2 := fR.lo; have r3 := fR.f0; have r4 := fR.f1; have l1 := fR.lt; have l2 := fD.lt; clear fA fD fQ fR) | (go_at_call 86; refine (rAdd _ _ _).mono ?_; rintro e w4 ⟨rfl, hb4⟩; rw [show R1 + -d = R1 - d from by omega]; have hI9 := hI8.keep hb4; clear a1 a2 d1 d2 q1 q2 q3 q4 r1 r2 r3 r4 l1 l2; have fA := hI9.cA; have fD := hI9.cD; have fQ := hI9.cQ; have fR := hI9.cR; have a1 := fA.hi; have a2 := fA.lo; have d1 := fD.hi; have d2 := fD.lo; have q1 := fQ.hi; have q2 := fQ.lo; have q3 := fQ.f0; have q4 := fQ.f1; have r1 := fR.hi; have r2 := fR.lo; have r3 := fR.f0; have r4 := fR.f1; have l1 := fR.lt; have l2 := fD.lt; clear fA fD fQ fR))
            all_goals (go_wp2_with fail; go_meet; exact hI9.setR (R1 - d))
          case rest =>
            clear hI hI5 hI6 hI7
            clear a1 a2 d1 d2 q1 q2 q3 q4 r1 r2 r3 r4 l1 l2
            have hI := hcut; clear hcut
            have fA := hI.cA; have fD := hI.cD; have fQ := hI.cQ; have fR := hI.cR; have a1 := fA.hi; have a2 := fA.lo; have d1 := fD.hi; have d2 := fD.lo; have q1 := fQ.hi; have q2 := fQ.lo; have q3 := fQ.f0; have q4 := fQ.f1; have r1 := fR.hi; have r2 := fR.lo; have r3 := fR.f0; have r4 := fR.f1; have l1 := fR.lt; have l2 := fD.lt; clear fA fD fQ fR
            go_wp2_with fail
            go_roundg n.toNat
            case measure => omega
            case rel => exact ⟨n - 1, 2 * q + 1, R1 - d, by omega, by omega, by omega, rfl, by rw [(tw_2 q).1]; exact hI.incQ, rr_yes hx ST1.out ST2.out⟩
        · have hx' : decide (R1 < d) = true := decide_eq_true (by omega)
          go_wp2_with fail
          go_roundg n.toNat
          case measure => omega
          case rel => exact ⟨n - 1, 2 * q, R1, by omega, by omega, by omega, rfl, hI7, rr_no (by omega) ST1.out ST2.out⟩
    · have hn1 : n = -1 := by omega
      subst hn1
      have hq1 : q = a / d := by rw [hq.out.1]; simp
      have hq2 : r = a % d := by rw [hq.out.2]; simp
      clear hq
      have rr0 : 0 ≤ r := by rw [hq2]; exact Int.emod_nonneg _ (by omega)
      have rr1 : r < d := by rw [hq2]; exact Int.emod_lt_of_pos _ hd0
      have HQ1 := Lib.hid hq1; have HQ2 := Lib.hid hq2; clear hq1 hq2
      have fA := hI.cA; have fD := hI.cD; have fQ := hI.cQ; have fR := hI.cR; have a1 := fA.hi; have a2 := fA.lo; have d1 := fD.hi; have d2 := fD.lo; have q1 := fQ.hi; have q2 := fQ.lo; have q3 := fQ.f0; have q4 := fQ.f1; have r1 := fR.hi; have r2 := fR.lo; have r3 := fR.f0; have r4 := fR.f1; have l1 := fR.lt; have l2 := fD.lt; clear fA fD fQ fR
      go_wp2_with fail
      go_cut [8] (fun s8 wx => ∃ E : Nat, s8 = .pointer (some ⟨E, 0, none⟩) ∧ P + 1 + 1 + 1 + 1 < E ∧ RI w P a d q r wx ∧ WC E (d - r) wx)
      case first =>
        go_region_with (first | (go_at_call 88; refine (rNeg _ _).mono ?_; rintro e w3 ⟨rfl, hb3⟩; (first | (have hI8 := hI.drew.keep hb3; have zE : True := trivial) | (have hI8 := (hI.keep (Below.one _ _)).drew.keep hb3; have zE := ((WC.new0 _).keep (Below.draw _)).keep hb3; have lE := hI.cR.lt)); clear a1 a2 d1 d2 q1 q2 q3 q4 r1 r2 r3 r4 l1 l2; have fA := hI8.cA; have fD := hI8.cD; have fQ := hI8.cQ; have fR := hI8.cR; have a1 := fA.hi; have a2 := fA.lo; have d1 := fD.hi; have d2 := fD.lo; have q1 := fQ.hi; have q2 := fQ.lo; have q3 := fQ.f0; have q4 := fQ.f1; have r1 := fR.hi; have r2 := fR.lo; have r3 := fR.f0; have r4 := fR.f1; have l1 := fR.lt; have l2 := fD.lt; clear fA fD fQ fR) | (go_at_call 86; refine (rAdd _ _ _).mono ?_; rintro e w4 ⟨rfl, hb4⟩; rw [show d + -r = d - r from by omega]; (first | (have hI9 := hI8.keep hb4; (first | (have zF := zE.keep hb4; have z1 := zF.hi; have z2 := zF.lo; have z3 := zF.f0; have z4 := zF.f1) | skip)) | (have hI9 := (hI8.keep (Below.one _ _)).keep hb4; have zF := (WC.new0 _).keep hb4; have z1 := zF.hi; have z2 := zF.lo; have z3 := zF.f0; have z4 := zF.f1; have lE := hI8.cR.lt)); clear a1 a2 d1 d2 q1 q2 q3 q4 r1 r2 r3 r4 l1 l2; have fA := hI9.cA; have fD := hI9.cD; have fQ := hI9.cQ; have fR := hI9.cR; have a1 := fA.hi; have a2 := fA.lo; have d1 := fD.hi; have d2 := fD.lo; have q1 := fQ.hi; have q2 := fQ.lo; have q3 := fQ.f0; have q4 := fQ.f1; have r1 := fR.hi; have r2 := fR.lo; have r3 := fR.f0; have r4 := fR.f1; have l1 := fR.lt; have l2 := fD.lt; clear fA fD fQ fR))
        all_goals (go_wp2_with fail; go_meet; first | exact ⟨_, rfl, lE, hI9.setE lE _ _, zF.set (d - r)⟩ | exact ⟨_, rfl, hI9.cR.lt, hI9.keep (Below.one _ _), WC.new _ _⟩ | (trace_state; sorry))
      case rest =>
        obtain ⟨E, rfl, hE, hI2, cE⟩ := hcut
        clear hI
        clear a1 a2 d1 d2 q1 q2 q3 q4 r1 r2 r3 r4 l1 l2
        have HE : Hid _ := Lib.hid (near_eq2 r d rr0 rr1 hd)
        have fA := hI2.cA; have fD := hI2.cD; have fQ := hI2.cQ; have fR := hI2.cR; have a1 := fA.hi; have a2 := fA.lo; have d1 := fD.hi; have d2 := fD.lo; have q1 := fQ.hi; have q2 := fQ.lo; have q3 := fQ.f0; have q4 := fQ.f1; have r1 := fR.hi; have r2 := fR.lo; have r3 := fR.f0; have r4 := fR.f1; have l1 := fR.lt; have l2 := fD.lt; clear fA fD fQ fR
        have e1 := cE.hi
        have e2 := cE.lo
        go_wp2_with fail
        refine (rBelow (d - r) r _ (by omega) (by omega) (by omega) (by omega)).mono ?_
        rintro e w5 ⟨rfl, hb5⟩
        have hI := hI2.keep hb5
        have cE5 := cE.keep hb5
        clear cE e1 e2 hI2
        clear a1 a2 d1 d2 q1 q2 q3 q4 r1 r2 r3 r4 l1 l2
        have fA := hI.cA; have fD := hI.cD; have fQ := hI.cQ; have fR := hI.cR; have a1 := fA.hi; have a2 := fA.lo; have d1 := fD.hi; have d2 := fD.lo; have q1 := fQ.hi; have q2 := fQ.lo; have q3 := fQ.f0; have q4 := fQ.f1; have r1 := fR.hi; have r2 := fR.lo; have r3 := fR.f0; have r4 := fR.f1; have l1 := fR.lt; have l2 := fD.lt; clear fA fD fQ fR
        have e1 := cE5.hi
        have e2 := cE5.lo
        have g1 := wlo_lo q
        obtain ⟨v0, e3⟩ := hI.s0.val
        obtain ⟨v1, e4⟩ := hI.s1.val
        have e5 := hI.s0.fro
        have e6 := hI.s1.fro
        rcases Int.lt_trichotomy (d - r) r with hc | hc | hc
        · have hc' : decide (d - r < r) = true := decide_eq_true hc
          have Hc := Lib.hid hc; clear hc
          go_wp2_with fail
          refine (rAdd1 q _).mono ?_
          rintro e w6 ⟨rfl, hb6⟩
          have hY : Hid (rh a d = q + 1) := rh_yes HQ1.out HQ2.out (by unfold near; rw [decide_eq_true_iff]; have := Hc.out; omega)
          have hI6 := hI.keep hb6
          clear e1 e2 e3 e4 e5 e6
          clear a1 a2 d1 d2 q1 q2 q3 q4 r1 r2 r3 r4 l1 l2
          have fA := hI6.cA; have fD := hI6.cD; have fQ := hI6.cQ; have fR := hI6.cR; have a1 := fA.hi; have a2 := fA.lo; have d1 := fD.hi; have d2 := fD.lo; have q1 := fQ.hi; have q2 := fQ.lo; have q3 := fQ.f0; have q4 := fQ.f1; have r1 := fR.hi; have r2 := fR.lo; have r3 := fR.f0; have r4 := fR.f1; have l1 := fR.lt; have l2 := fD.lt; clear fA fD fQ fR
          obtain ⟨v0, e3⟩ := hI6.s0.val
          obtain ⟨v1, e4⟩ := hI6.s1.val
          have e5 := hI6.s0.fro
          have e6 := hI6.s1.fro
          go_wp2_with fail
          exact bodyPost_ret (v := WV (q + 1)) (by simp [results, Try.results112, go_sem, e3, e4]) rfl ⟨by rw [hY.out], Below.set2 (Below.set2 hI6.B (by have := hI6.hP; omega) _ _) (by have := hI6.hP; omega) _ _⟩
        · have hw1 : whi (d - r) = whi r := (HE.out.1 hc).1
          have hw2 : wlo (d - r) = wlo r := (HE.out.1 hc).2
          have hc' : decide (d - r < r) = false := decide_eq_false (by omega)
          have Hc := Lib.hid hc; clear hc
          by_cases ho : q % 2 = 1
          · have ho' : (wlo q % 2 == 1) = true := by rw [beq_iff_eq]; unfold wlo; omega
            have Ho := Lib.hid ho; clear ho
            go_wp2_with fail
            refine (rAdd1 q _).mono ?_
            rintro e w6 ⟨rfl, hb6⟩
            have hY : Hid (rh a d = q + 1) := rh_yes HQ1.out HQ2.out (by unfold near; rw [decide_eq_true_iff]; have := Hc.out; have := Ho.out; omega)
            have hI6 := hI.keep hb6
            clear e1 e2 e3 e4 e5 e6
            clear a1 a2 d1 d2 q1 q2 q3 q4 r1 r2 r3 r4 l1 l2
            have fA := hI6.cA; have fD := hI6.cD; have fQ := hI6.cQ; have fR := hI6.cR; have a1 := fA.hi; have a2 := fA.lo; have d1 := fD.hi; have d2 := fD.lo; have q1 := fQ.hi; have q2 := fQ.lo; have q3 := fQ.f0; have q4 := fQ.f1; have r1 := fR.hi; have r2 := fR.lo; have r3 := fR.f0; have r4 := fR.f1; have l1 := fR.lt; have l2 := fD.lt; clear fA fD fQ fR
            obtain ⟨v0, e3⟩ := hI6.s0.val
            obtain ⟨v1, e4⟩ := hI6.s1.val
            have e5 := hI6.s0.fro
            have e6 := hI6.s1.fro
            go_wp2_with fail
            exact bodyPost_ret (v := WV (q + 1)) (by simp [results, Try.results112, go_sem, e3, e4]) rfl ⟨by rw [hY.out], Below.set2 (Below.set2 hI6.B (by have := hI6.hP; omega) _ _) (by have := hI6.hP; omega) _ _⟩
          · have ho' : (wlo q % 2 == 1) = false := by rw [beq_eq_false_iff_ne]; unfold wlo; omega
            have Ho := Lib.hid ho; clear ho
            go_wp2_with fail
            all_goals exact bodyPost_ret (v := WV q) (by simp [results, Try.results112, go_sem, e3, e4]) rfl ⟨by rw [rh_no HQ1.out HQ2.out (by unfold near; rw [decide_eq_false_iff_not]; have := Hc.out; have := Ho.out; omega)], Below.set2 hI.B (by have := hI.hP; omega) _ _⟩
        · have hc' : decide (d - r < r) = false := decide_eq_false (by omega)
          have hw : ¬ (whi (d - r) = whi r ∧ wlo (d - r) = wlo r) := fun h => by have := HE.out.2 h; omega
          have Hc := Lib.hid hc; clear hc
          go_wp2_with fail
          all_goals exact bodyPost_ret (v := WV q) (by simp [results, Try.results112, go_sem, e3, e4]) rfl ⟨by rw [rh_no HQ1.out HQ2.out (by unfold near; rw [decide_eq_false_iff_not]; have := Hc.out; omega)], Below.set2 hI.B (by have := hI.hP; omega) _ _⟩
end Go.Proofs.Ytlhadociaekkhaa
