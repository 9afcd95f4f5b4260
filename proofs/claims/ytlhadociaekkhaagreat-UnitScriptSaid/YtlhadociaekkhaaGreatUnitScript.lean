/- What a unit reckons at any calls, one behind the other, is the document's; so are the flag and the count. -/
import Derived.Test.YtlhadociaekkhaaGreatTold
import Derived.Deep.DeepCutAuto
import Derived.Deep.LoopGhost
import Derived.Deep.RegionHeld3
import Derived.WalkKit
import Derived.ProofKit
import Derived.OpenShut
import Derived.ShutString
import Derived.ChangeOld
import Derived.Below
import Derived.Lib.SmallJoins
namespace Go.Proofs.YtlhadociaekkhaaGreat.unitScript
open Go.ChangeShapes Go.WideShapes Go.ChangeAt Go.RowKit
open Go.ChangeMaps (open_string shut_string)
open Go.Joins
set_option linter.unusedVariables false
theorem own : ownKnob Tryz.prog.godebug = none := by kernel_rfl
theorem laidOut : laidOutB Tryz.prog = true := by kernel_rfl
set_option maxHeartbeats 8000000 in
set_option maxRecDepth 100000 in
theorem walk (w : World) (l : Option Addr) (lenl capl : Nat) (Xl : Nat → ActX) (w0 : ActsOk w l lenl capl Xl) : -- the walk
    Calls Tryz.prog 3 #[.slice l lenl capl] w fun e w' => e = .returned (.bool true) ∧ Below w.heap.size w w' := by
  have haw := lAwake4
  unfold SaysYes at haw
  obtain ⟨hlc, hcm, hok, hat⟩ := w0
  have hlong := fun (W : World) (k : Below w.heap.size w W) => aLong (w := W) (A := l) (n := lenl) (c := capl) (X := Xl) (fun h0 => by
    obtain ⟨b, o, e, hb, hx⟩ := hat h0
    exact ⟨b, o, e, Nat.lt_of_lt_of_le hb k.size, fun i hi => (hx i hi).keep k⟩) (by omega)
  have HOK := Lib.hid hok
  have HAT := Lib.hid hat
  clear hok hat
  go_enter Tryz.func3, Tryz.ntmps3
  go_upto_region 4 with (first | (go_at_call 4; refine (uNew _).mono ?_; rintro e w1 ⟨rfl, rfl⟩) | (go_at_call 5; refine (r4New _).mono ?_; rintro e w1 ⟨rfl, rfl⟩))
  refine wp_gen (fun W0 hW0 => ?_)
  have hU0 : UA w.heap.size false 0 W0 := by rw [hW0]; exact ⟨by (first | (simp [go_sem]; done) | (simp [go_sem, ↓IntWalk.iteOmega]; done)), by (first | (simp [go_sem]; done) | (simp [go_sem, ↓IntWalk.iteOmega]; done)), by (first | (simp [go_sem]; done) | (simp [go_sem, ↓IntWalk.iteOmega]; done)), by (first | (simp [go_sem]; done) | (simp [go_sem, ↓IntWalk.iteOmega]; done)), by (first | (simp [go_sem]; done) | (simp [go_sem, ↓IntWalk.iteOmega]; done))⟩
  have hV0 : RA (w.heap.size + 1) false 0 W0 := by rw [hW0]; exact ⟨by (first | (simp [go_sem]; done) | (simp [go_sem, ↓IntWalk.iteOmega]; done)), by (first | (simp [go_sem]; done) | (simp [go_sem, ↓IntWalk.iteOmega]; done)), by (first | (simp [go_sem]; done) | (simp [go_sem, ↓IntWalk.iteOmega]; done)), by (first | (simp [go_sem]; done) | (simp [go_sem, ↓IntWalk.iteOmega]; done))⟩
  have hB0 : Below w.heap.size w W0 := by rw [hW0]; (repeat (first | assumption | exact Below.refl _ _ | with_reducible refine past_t _ ?_ | with_reducible refine below_a _ ?_ | with_reducible refine Below.drew ?_ | with_reducible refine below_d _ ?_ | (with_reducible refine Below.setCell ?_ (by (show _ ≤ _; repeat (first | exact Nat.le_refl _ | assumption | (omega; done) | with_reducible exact le_past (Nat.le_refl _) | with_reducible refine le_past ?_ | with_reducible refine le_al ?_ | with_reducible refine le_set ?_ | with_reducible refine le_p1 ?_))) _)))
  obtain ⟨V, hV⟩ : ∃ V, w.heap.size + 1 = V := ⟨_, rfl⟩
  obtain ⟨U, hU⟩ : ∃ U, w.heap.size = U := ⟨_, rfl⟩
  have hUw : w.heap.size ≤ U := by omega
  have hVw : w.heap.size ≤ V := by omega
  have hUV : U ≠ V := by omega
  simp only [hV] at hV0 ⊢
  simp only [hU] at hU0 ⊢
  clear hW0 hU hV
  have hlong := hlong W0 hB0
  go_upto_if 16 with (go_at_call 6; with_reducible refine Calls.mono hlong ?_; rintro _ w2 ⟨r, rfl, hr, hb2⟩)
  have hB2 := hB0.trans (hb2.mono hB0.size)
  cases r
  case true =>
    go_wp2_with ((go_at_call 7; first | (with_reducible refine Calls_past2 (haw _) (fun z => ?_)) | (with_reducible refine Calls_past (haw _) (fun z => ?_))))
    go_ret
    exact ⟨rfl, by (repeat (first | assumption | exact Below.refl _ _ | with_reducible refine past_t _ ?_ | with_reducible refine below_a _ ?_ | with_reducible refine Below.drew ?_ | with_reducible refine below_d _ ?_ | (with_reducible refine Below.setCell ?_ (by (show _ ≤ _; repeat (first | exact Nat.le_refl _ | assumption | (omega; done) | with_reducible exact le_past (Nat.le_refl _) | with_reducible refine le_past ?_ | with_reducible refine le_al ?_ | with_reducible refine le_set ?_ | with_reducible refine le_p1 ?_))) _)))⟩
  have hr := hr rfl
  have hU1 := hU0.keep hb2
  have hV1 := hV0.keep hb2
  have HS := Lib.hid hr
  have hn60 := hr.1
  clear hU0 hV0 hB0 hb2 hlong hr
  go_wp2_with fail
  go_loopg [5, 6, 7, 8, 9, 10] lenl (fun g s5 s6 s7 s8 s9 s10 wr => ∃ (k : Nat) (i : Bool) (c : Int), k ≤ lenl ∧ lenl ≤ g + k ∧ s5 = .int .i64 k ∧ 0 ≤ c ∧ c ≤ 41 * k ∧ UA U i c wr ∧ RA V i c wr ∧ Below w.heap.size w wr)
  case atStart => exact ⟨0, false, 0, by omega, by omega, rfl, by omega, by omega, hU1, hV1, hB2⟩
  case round =>
    obtain ⟨k, i, c, hk, hg, rfl, hc0, hc1, hu, hv, hb⟩ := hrel
    clear hU1 hV1 hB2
    by_cases hlt : k < lenl
    · have d1 : decide ((k : Int) < (lenl : Int)) = true := by simp; omega
      obtain ⟨b, o, rfl, hbw, hx⟩ := HAT.out (by omega)
      obtain ⟨x, hX⟩ : ∃ x, Xl k = x := ⟨_, rfl⟩
      have hxk := (hx k hlt).keep hb
      have okx := HOK.out k hlt
      have hsx := HS.out.2 k hlt
      rw [hX] at hxk okx hsx
      obtain ⟨kd, xa, xb, xl, xcl, xL, xk, xck, xK, is⟩ := x
      have q0 := hxk.c0
      have q1 := hxk.c1
      have q2 := hxk.c2
      have q3 := hxk.c3
      have q4 := hxk.c4
      have q5 := hxk.c5
      simp only at q0 q1 q2 q3 q4 q5
      obtain ⟨hkd, ha, hb', hL, hK, rL, rK, cL, cK, tL, tK⟩ := okx
      obtain ⟨lL, lK⟩ := hsx
      simp only at hkd ha hb' hL hK rL rK cL cK tL tK lL lK
      have HRL := Lib.hid (rL.rs cL tL)
      have HRK := Lib.hid (rK.rs cK tK)
      have HL0 := Lib.hid rL
      have HK0 := Lib.hid rK
      have HAX := Lib.hid (show ActAt wr b (o + k * 6) ⟨kd, xa, xb, xl, xcl, xL, xk, xck, xK, is⟩ from hxk)
      have hbs : b < wr.heap.size := World.block_lt_of_cell? wr _ q0
      have hUl := hu.lt
      have hVl := hv.lt
      clear hx hxk hX rL rK cL cK tL tK
      go_upto_region 10 with fail
      refine wp_gen (fun W1 hW1 => ?_)
      have hk1 : Below wr.heap.size wr W1 := by rw [hW1]; (repeat (first | assumption | exact Below.refl _ _ | with_reducible refine past_t _ ?_ | with_reducible refine below_a _ ?_ | with_reducible refine Below.drew ?_ | with_reducible refine below_d _ ?_ | (with_reducible refine Below.setCell ?_ (by (show _ ≤ _; repeat (first | exact Nat.le_refl _ | assumption | (omega; done) | with_reducible exact le_past (Nat.le_refl _) | with_reducible refine le_past ?_ | with_reducible refine le_al ?_ | with_reducible refine le_set ?_ | with_reducible refine le_p1 ?_))) _)))
      have p0 : W1.cell? ⟨wr.heap.size, 0, none⟩ = some (.int .i64 kd) := by rw [hW1]; (first | (simp [go_sem]; done) | (simp [go_sem, ↓IntWalk.iteOmega]; done))
      have p1 : W1.cell? ⟨wr.heap.size, 1, none⟩ = some (.int .i64 xa) := by rw [hW1]; (first | (simp [go_sem]; done) | (simp [go_sem, ↓IntWalk.iteOmega]; done))
      have p2 : W1.cell? ⟨wr.heap.size, 2, none⟩ = some (.int .i64 xb) := by rw [hW1]; (first | (simp [go_sem]; done) | (simp [go_sem, ↓IntWalk.iteOmega]; done))
      have p5 : W1.cell? ⟨wr.heap.size, 5, none⟩ = some (.bool is) := by rw [hW1]; (first | (simp [go_sem]; done) | (simp [go_sem, ↓IntWalk.iteOmega]; done))
      have p3 : W1.cell? ⟨wr.heap.size, 3, none⟩ = some (.slice xl xL.length xcl) := by rw [hW1]; (first | (simp [go_sem]; done) | (simp [go_sem, ↓IntWalk.iteOmega]; done))
      have f3 : W1.frozen? ⟨wr.heap.size, 3, none⟩ = false := by rw [hW1]; (first | (simp [go_sem]; done) | (simp [go_sem, ↓IntWalk.iteOmega]; done))
      have p4 : W1.cell? ⟨wr.heap.size, 4, none⟩ = some (.slice xk xK.length xck) := by rw [hW1]; (first | (simp [go_sem]; done) | (simp [go_sem, ↓IntWalk.iteOmega]; done))
      have f4 : W1.frozen? ⟨wr.heap.size, 4, none⟩ = false := by rw [hW1]; (first | (simp [go_sem]; done) | (simp [go_sem, ↓IntWalk.iteOmega]; done))
      have c3 := cell_keep q3 hk1
      have c4 := cell_keep q4 hk1
      obtain ⟨X, hXX⟩ : ∃ X, wr.heap.size = X := ⟨_, rfl⟩
      have hXU : X ≠ U := by omega
      have hXV : X ≠ V := by omega
      have hXb : X ≠ b := by omega
      have hXw : w.heap.size ≤ X := by have := hb.size; omega
      have hB1 := hb.trans (hk1.mono hb.size)
      have hu1 := hu.keep hk1
      have hv1 := hv.keep hk1
      have hx1 := HAX.out.keep hk1
      simp only [hXX] at p0 p1 p2 p3 p4 p5 f3 f4 ⊢
      have hXl : X < W1.heap.size := World.block_lt_of_cell? W1 _ p0
      have hfacts : ∀ w', Below W1.heap.size W1 w' → Below W1.heap.size W1 w' ∧ w'.cell? ⟨b, o + k * 6 + 3, none⟩ = some (Value.slice xl xL.length xcl) ∧ w'.cell? ⟨b, o + k * 6 + 4, none⟩ = some (Value.slice xk xK.length xck) ∧ w'.cell? ⟨X, 3, none⟩ = some (Value.slice xl xL.length xcl) ∧ w'.cell? ⟨X, 4, none⟩ = some (Value.slice xk xK.length xck) ∧ w'.frozen? ⟨X, 3, none⟩ = false ∧ w'.frozen? ⟨X, 4, none⟩ = false := fun w' kp => ⟨kp, cell_keep c3 kp, cell_keep c4 kp, cell_keep p3 kp, cell_keep p4 kp, (kp.frozen (p := ⟨X, 3, none⟩) hXl).trans f3, (kp.frozen (p := ⟨X, 4, none⟩) hXl).trans f4⟩
      have hcp1 := fun (W : World) (kp : Below W1.heap.size W1 W) => (iCopy (HRL.out.keep (hB1.trans (kp.mono hB1.size))) (by omega)).mono (fun e w' ⟨A', c', h1, h2, h3⟩ => (⟨A', c', h1, h2, h3, hfacts w' (kp.trans (h3.mono kp.size))⟩ : ∃ A' c', e = Ending.returned (Value.slice A' xL.length c') ∧ OwnI W w' (Value.slice A' xL.length c') xL ∧ Below W.heap.size W w' ∧ Below W1.heap.size W1 w' ∧ w'.cell? ⟨b, o + k * 6 + 3, none⟩ = some (Value.slice xl xL.length xcl) ∧ w'.cell? ⟨b, o + k * 6 + 4, none⟩ = some (Value.slice xk xK.length xck) ∧ w'.cell? ⟨X, 3, none⟩ = some (Value.slice xl xL.length xcl) ∧ w'.cell? ⟨X, 4, none⟩ = some (Value.slice xk xK.length xck) ∧ w'.frozen? ⟨X, 3, none⟩ = false ∧ w'.frozen? ⟨X, 4, none⟩ = false))
      have hcp2 := fun (W : World) (kp : Below W1.heap.size W1 W) => (iCopy (HRK.out.keep (hB1.trans (kp.mono hB1.size))) (by omega)).mono (fun e w' ⟨A', c', h1, h2, h3⟩ => (⟨A', c', h1, h2, h3, hfacts w' (kp.trans (h3.mono kp.size))⟩ : ∃ A' c', e = Ending.returned (Value.slice A' xK.length c') ∧ OwnI W w' (Value.slice A' xK.length c') xK ∧ Below W.heap.size W w' ∧ Below W1.heap.size W1 w' ∧ w'.cell? ⟨b, o + k * 6 + 3, none⟩ = some (Value.slice xl xL.length xcl) ∧ w'.cell? ⟨b, o + k * 6 + 4, none⟩ = some (Value.slice xk xK.length xck) ∧ w'.cell? ⟨X, 3, none⟩ = some (Value.slice xl xL.length xcl) ∧ w'.cell? ⟨X, 4, none⟩ = some (Value.slice xk xK.length xck) ∧ w'.frozen? ⟨X, 3, none⟩ = false ∧ w'.frozen? ⟨X, 4, none⟩ = false))
      clear q0 q1 q2 q3 q4 q5 hW1 hk1 hu hv hXX
      clear hfacts
      go_cut [33, 39] from 28 to 41 (fun s33 s39 wc => ∃ I1 e1 I2 e2 wd, Below W1.heap.size W1 wd ∧ RS .i64 wd I1 xL.length e1 xL ∧ RS .i64 wd I2 xK.length e2 xK ∧ (∀ b o, I1 = some ⟨b, o, none⟩ → W1.heap.size ≤ b) ∧ (∀ b o, I2 = some ⟨b, o, none⟩ → W1.heap.size ≤ b) ∧ wc = (wd.setCell ⟨X, 3, none⟩ (.slice I1 xL.length e1)).setCell ⟨X, 4, none⟩ (.slice I2 xK.length e2))
      case first =>
        go_region_with (first | (go_at_call 8; with_reducible refine Calls.mono (hcp1 _ ?_) ?_; (focus ((repeat (first | assumption | exact Below.refl _ _ | with_reducible refine past_t _ ?_ | with_reducible refine below_a _ ?_ | with_reducible refine Below.drew ?_ | with_reducible refine below_d _ ?_ | (with_reducible refine Below.setCell ?_ (by (show _ ≤ _; repeat (first | exact Nat.le_refl _ | assumption | (omega; done) | with_reducible exact le_past (Nat.le_refl _) | with_reducible refine le_past ?_ | with_reducible refine le_al ?_ | with_reducible refine le_set ?_ | with_reducible refine le_p1 ?_))) _))); done)); clear hcp1; rintro _ w3 ⟨I1, e1, rfl, ho1, hz3, hb3, g3, g4, g5, g6, g7, g8⟩) | (go_at_call 8; with_reducible refine Calls.mono (hcp2 _ ?_) ?_; (focus ((repeat (first | assumption | exact Below.refl _ _ | with_reducible refine past_t _ ?_ | with_reducible refine below_a _ ?_ | with_reducible refine Below.drew ?_ | with_reducible refine below_d _ ?_ | (with_reducible refine Below.setCell ?_ (by (show _ ≤ _; repeat (first | exact Nat.le_refl _ | assumption | (omega; done) | with_reducible exact le_past (Nat.le_refl _) | with_reducible refine le_past ?_ | with_reducible refine le_al ?_ | with_reducible refine le_set ?_ | with_reducible refine le_p1 ?_))) _))); done)); clear hcp2; rintro _ w4 ⟨I2, e2, rfl, ho2, hz4, hb4, j3, j4, j5, j6, j7, j8⟩))
        all_goals go_wp2_with fail
        all_goals go_meet
        all_goals exact ⟨I1, e1, I2, e2, w4, hb4, ho1.rs.keep hz4, ho2.rs, fun b o e => (ho1.far (b := 0) (o := 0) (s := none) b o e).1, fun b o e => Nat.le_trans hb3.size (ho2.far (b := 0) (o := 0) (s := none) b o e).1, rfl⟩
      case rest =>
        obtain ⟨I1, e1, I2, e2, wd, hbd, r1, r2, g1, g2, rfl⟩ := hcut
        clear hcp1 hcp2
        have hXd : X < wd.heap.size := Nat.lt_of_lt_of_le hXl hbd.size
        have ts := two_set (X := X) (v := .slice I1 xL.length e1) (u := .slice I2 xK.length e2) (cell_keep p3 hbd) (cell_keep p4 hbd)
        go_upto_region 11 with fail
        refine wp_gen (fun W2 hW2 => ?_)
        rw [← hW2] at ts
        have hB2 : Below w.heap.size w W2 := by rw [hW2]; exact ((hB1.trans (hbd.mono hB1.size)).setCell (by exact hXw) _).setCell (by exact hXw) _
        have hu2 := ts.ua (hu1.keep hbd) (Ne.symm hXU)
        have hv2 := ts.ra (hv1.keep hbd) (Ne.symm hXV)
        have rs1 := ts.rs r1 (fun b o e => by have := g1 b o e; omega)
        have rs2 := ts.rs r2 (fun b o e => by have := g2 b o e; omega)
        have fu1 : ∀ b o, I1 = some ⟨b, o, none⟩ → b ≠ U ∧ b ≠ V := fun b o e => by have := g1 b o e; have := hu1.lt; have := hv1.lt; omega
        have fu2 : ∀ b o, I2 = some ⟨b, o, none⟩ → b ≠ U ∧ b ≠ V := fun b o e => by have := g2 b o e; have := hu1.lt; have := hv1.lt; omega
        have hx2 := ts.at_ (hx1.keep hbd) (Ne.symm hXb)
        have x0 := (ts.oth 0 (by omega) (by omega)).trans (cell_keep p0 hbd)
        have x1 := (ts.oth 1 (by omega) (by omega)).trans (cell_keep p1 hbd)
        have x2 := (ts.oth 2 (by omega) (by omega)).trans (cell_keep p2 hbd)
        have x3 := ts.c3
        have x4 := ts.c4
        have x5 := (ts.oth 5 (by omega) (by omega)).trans (cell_keep p5 hbd)
        have hX2 : X < W2.heap.size := by rw [ts.size]; exact hXd
        have hUl2 := hu2.lt
        have hVl2 := hv2.lt
        clear ts hW2 r1 r2 g1 g2 hbd hB1 hu1 hv1 hx1 p0 p1 p2 p3 p4 p5 f3 f4 c3 c4
        have hact := aActS hu2 ⟨kd, xa, xb, I1, e1, xL, I2, e2, xK, is⟩ ha hb' hL hK (rs1.sl (fun b o e => (fu1 b o e).1) (by omega)) (rs2.sl (fun b o e => (fu2 b o e).1) (by omega)) lL lK ⟨hc0, by omega⟩
        have htold := fun (W : World) (hr : RA V i c W) (hB : Below w.heap.size w W) => tActS hr ⟨kd, xa, xb, xl, xcl, xL, xk, xck, xK, is⟩ ha hb' hL hK (HL0.out.sl hB hVw (by omega) xcl) (HK0.out.sl hB hVw (by omega) xck) lL lK ⟨hc0, by omega⟩
        have hcn := actR_cnt kd xa xb xL xK is i c
        obtain ⟨R, hR⟩ : ∃ R, actR kd xa xb xL xK is i c = R := ⟨_, rfl⟩
        simp only [hR] at hact htold hcn
        obtain ⟨n, er, i', c'⟩ := R
        simp only at hact htold hcn
        clear hR
        have hcn1 : 0 ≤ c' ∧ c' ≤ 41 * ((k + 1 : Nat) : Int) := ⟨by omega, by omega⟩
        clear hcn
        go_upto_region 12 with (go_at_call 9; with_reducible refine Calls.mono hact ?_; rintro _ w3 ⟨rfl, hb3⟩)
        have hB3 := below_unit hB2 hUw hb3
        have hr3 := (hv2.far hUV.symm i' c').keep hb3
        have hx3 := (hx2.put (by omega) i' c').keep hb3
        have htold := htold w3 hr3 hB3
        have q0 := hx3.c0
        have q1 := hx3.c1
        have q2 := hx3.c2
        have q3 := hx3.c3
        have q4 := hx3.c4
        have q5 := hx3.c5
        simp only at q0 q1 q2 q3 q4 q5
        clear hact hr3 hB3
        go_upto_region 13 with (go_at_call 10; with_reducible refine Calls.mono htold ?_; rintro _ w4 ⟨rfl, hb4⟩)
        have hm := mid hb3 hb4
        have hu4 := ((hu2.put i' c').far hUV i' c').keep hm
        have hv4 := ((hv2.far hUV.symm i' c').put i' c').keep hm
        have hx4 := ((hx2.put (B := U) (by omega) i' c').put (B := V) (by omega) i' c').keep hm
        have z3 : w4.cell? ⟨X, 3, none⟩ = some (.slice I1 xL.length e1) := cell_keep ((put_cell V i' c' _ _ hXV).trans ((put_cell U i' c' W2 _ hXU).trans x3)) hm
        have z4 : w4.cell? ⟨X, 4, none⟩ = some (.slice I2 xK.length e2) := cell_keep ((put_cell V i' c' _ _ hXV).trans ((put_cell U i' c' W2 _ hXU).trans x4)) hm
        have rs3 := ((rs1.putN (fun b o e => (fu1 b o e).1) i' c').putN (fun b o e => (fu1 b o e).2) i' c').keep hm
        have rs4 := ((rs2.putN (fun b o e => (fu2 b o e).1) i' c').putN (fun b o e => (fu2 b o e).2) i' c').keep hm
        have hB4 : Below w.heap.size w w4 := by
          have := below_putn i' c' (below_putn i' c' hB2 hUw) hVw
          exact this.trans (hm.mono this.size)
        have y3 := hx4.c3
        have y4 := hx4.c4
        have v0 := hv4.c0
        have v1 := hv4.c1
        have hcu := fun z => uCut (hu4.keep (past_below w4 z))
        have hco := fun z => uCount (hu4.keep (past_below w4 z))
        have hs1 := fun z => iSameT (rs3.keep (past_below w4 z)) ((HRL.out.keep hB4).keep (past_below w4 z))
        have hs2 := fun z => iSameT (rs4.keep (past_below w4 z)) ((HRK.out.keep hB4).keep (past_below w4 z))
        simp only at y3 y4
        clear hx4 hx3 hx2 hm hb3 hb4 rs1 rs2 rs3 rs4 hu2 hv2 q0 q1 q2 q3 q4 q5 x0 x1 x2 x3 x4 x5 htold fu1 fu2 hB2
        have HU4 := Lib.hid hu4
        have HV4 := Lib.hid hv4
        have HB4 := Lib.hid hB4
        clear hu4 hv4 hB4
        (first | refine region_past2 (by kernel_rfl) (by kernel_rfl) ?_ | refine region_past (by kernel_rfl) (by kernel_rfl) ?_)
        repeat (go_big_quiet_step (first | (go_at_call 11; with_reducible exact Calls_pastq (hcu _)) | (go_at_call 12; with_reducible exact Calls_pastq (hco _)) | (go_at_call 13; with_reducible exact Calls_pastq (hs1 _)) | (go_at_call 13; with_reducible exact Calls_pastq (hs2 _))))
        refine wpQuiet_nil ?_; rintro _ ⟨y, rfl⟩
        go_wp2_with fail
        go_roundg (lenl - (k + 1))
        case measure => omega
        case rel => exact ⟨k + 1, i', c', by omega, by omega, by go_num, hcn1.1, hcn1.2, HU4.out.keep (past_below _ _), HV4.out.keep (past_below _ _), HB4.out.trans ((past_below _ _).mono HB4.out.size)⟩
    · obtain rfl : k = lenl := by omega
      have d1 : decide ((k : Int) < (k : Int)) = false := by simp
      go_wp2_with ((go_at_call 7; first | (with_reducible refine Calls_past2 (haw _) (fun z => ?_)) | (with_reducible refine Calls_past (haw _) (fun z => ?_))))
      go_ret
      exact ⟨rfl, by (repeat (first | assumption | exact Below.refl _ _ | with_reducible refine past_t _ ?_ | with_reducible refine below_a _ ?_ | with_reducible refine Below.drew ?_ | with_reducible refine below_d _ ?_ | (with_reducible refine Below.setCell ?_ (by (show _ ≤ _; repeat (first | exact Nat.le_refl _ | assumption | (omega; done) | with_reducible exact le_past (Nat.le_refl _) | with_reducible refine le_past ?_ | with_reducible refine le_al ?_ | with_reducible refine le_set ?_ | with_reducible refine le_p1 ?_))) _)))⟩
set_option maxRecDepth 100000 in
theorem lifted (os : Os) (started : os.Started) (H : Type) (enc : TypeId × Value → H) :
    ReturnsInHanded {} Tryz.checked os 3 .any (Rows.unitScriptSpec.pre6 enc Tryz.prog Tryz.f3 Rows.unitScriptRow.domain false) (Rows.unitScriptSpec.post enc Tryz.prog Tryz.f3 false true false false) := by
  refine returnsInHanded_of_change (C := Tryz.checked) own started (by kernel_rfl) Tryz.func3
    (ChangeSpec.witness6 (enc := enc) (C := Tryz.checked) false ⟨#[], #[.slice none 0 0], []⟩ 8 (by kernel_rfl) (by kernel_rfl) (by kernel_rfl) (by kernel_rfl)) ?_
  intro W base args ds gs before hval0 hW hcnd _
  have hval : ∀ (j : Nat) t v, Tryz.f3.params[j]? = some t → args[j]? = some v → Value.okWide Tryz.prog W .any base t v := hval0
  have hW' := hW
  obtain ⟨p, q, hA0, hV, rfl, hfz, hnd⟩ := hW
  have hA : DataW.TrodAll enc Tryz.prog W 0 (fun _ => true) true Tryz.f3.params.toList args.toList ds p := hA0
  rw [Tryz.params3] at hA hval
  obtain ⟨v0, vs0, d0, ds0, p0, q0, hargs, rfl, rfl, h0, r0⟩ := trodAll_cons hA
  obtain ⟨rfl, rfl, rfl⟩ := trodAll_nil r0
  obtain rfl : args = #[v0] := by cases args; simp_all
  obtain ⟨rfl, rfl⟩ := trodVars_none hV
  have k0 := h0
  have lt0 : ∀ x ∈ p0, x.block < W.heap.size := by obtain ⟨m, hm⟩ := k0; exact DataW.trod_lt m _ _ _ hm
  obtain ⟨l, lenl, capl, Xl, rfl, w0⟩ := open_acts (hval 0 22 v0 rfl rfl) h0
  clear hA0 hval0
  refine (walk W l lenl capl Xl w0).mono fun e W' ⟨he, bel⟩ => ?_
  subst he
  exact ⟨_, rfl, _, _, _, [], _, [], hW', trodAll_mk1 (shut_bool Tryz.underlying4 _), (trodAll_cons_mk (Below.trod laidOut (by kernel_rfl) (of_decide_eq_true (by kernel_rfl)) k0 bel lt0) trodAll_mk0), rfl, bel.frame _, fun h => by cases h⟩
theorem over : Rows.unitScriptRow.holds Tryz.pinned (OpenSpec.ofChange Rows.unitScriptSpec) :=
  OpenClaim.holds_of_wide 3 Tryz.f3 rfl rfl rfl rfl rfl rfl rfl ⟨rfl, rfl, rfl, rfl, rfl⟩ rfl rfl rfl rfl rfl (by kernel_rfl) Tryz.func3 (by kernel_rfl)
    (of_decide_eq_true (by kernel_rfl)) (by unfold Func.isWrapper; first | (rw [if_pos (by decide +kernel)]; kernel_rfl) | (rw [if_neg (by decide +kernel)]; exact ⟨rfl, rfl⟩))
    (fun os started H enc _ => lifted os started H enc)
theorem proved : Rows.UnitScriptSaid := over
#print axioms proved
end Go.Proofs.YtlhadociaekkhaaGreat.unitScript
