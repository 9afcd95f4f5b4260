/- A flag stays, whatever is reckoned, till it is cleared, and counts only rise. -/
import Derived.Test.YtfhiodclbabdkaaAct3
import Derived.Deep.DeepCutAuto
import Derived.Deep.LoopGhost
import Derived.WalkKit
import Derived.ProofKit
import Derived.OpenShut
import Derived.ShutString
import Derived.ChangeOld
import Derived.Below
import Derived.Lib.SmallJoins
namespace Go.Proofs.Ytfhiodclbabdkaa.unitKeeps
open Go.ChangeShapes Go.WideShapes Go.ChangeAt Go.RowKit
open Go.ChangeMaps (open_string shut_string)
open Go.Joins
set_option linter.unusedVariables false
theorem own : ownKnob Try.prog.godebug = none := by kernel_rfl
theorem laidOut : laidOutB Try.prog = true := by kernel_rfl
set_option maxHeartbeats 8000000 in
set_option maxRecDepth 100000 in
theorem walk (w : World) (l : Option Addr) (lenl capl : Nat) (Xl : Nat → ActX) (w0 : ActsOk w l lenl capl Xl) : -- the walk
    Calls Try.prog 14 #[.slice l lenl capl] w fun e w' => e = .returned (.bool true) ∧ Below w.heap.size w w' := by
  have haw := lAwake4
  unfold SaysYes at haw
  obtain ⟨hlc, hcm, hok, hat⟩ := w0
  have hlong := fun (W : World) (k : Below w.heap.size w W) => aLong (w := W) (A := l) (n := lenl) (c := capl) (X := Xl) (fun h0 => by
    obtain ⟨b, o, e, hb, hx⟩ := hat h0
    exact ⟨b, o, e, Nat.lt_of_lt_of_le hb k.size, fun i hi => (hx i hi).keep k⟩) (by omega)
  have HOK := Lib.hid hok
  have HAT := Lib.hid hat
  clear hok hat
  go_enter Try.func14, Try.ntmps14
  go_upto_region 5 with (first | (go_at_call 58; first | (with_reducible refine Calls_past2 (haw _) (fun z => ?_)) | (with_reducible refine Calls_past (haw _) (fun z => ?_))) | (go_at_call 16; refine (uNew _).mono ?_; rintro e w1 ⟨rfl, rfl⟩))
  refine wp_gen (fun W0 hW0 => ?_)
  have hU0 : UA (w.heap.size + gap w z) false 0 W0 := by rw [hW0]; exact ⟨by (first | (simp [go_sem]; done) | (simp [go_sem, ↓IntWalk.iteOmega]; done)), by (first | (simp [go_sem]; done) | (simp [go_sem, ↓IntWalk.iteOmega]; done)), by (first | (simp [go_sem]; done) | (simp [go_sem, ↓IntWalk.iteOmega]; done)), by (first | (simp [go_sem]; done) | (simp [go_sem, ↓IntWalk.iteOmega]; done)), by (first | (simp [go_sem]; done) | (simp [go_sem, ↓IntWalk.iteOmega]; done))⟩
  have hB0 : Below w.heap.size w W0 := by rw [hW0]; (repeat (first | assumption | exact Below.refl _ _ | with_reducible refine past_t _ ?_ | with_reducible refine below_a _ ?_ | with_reducible refine Below.drew ?_ | with_reducible refine below_d _ ?_ | (with_reducible refine Below.setCell ?_ (by (show _ ≤ _; repeat (first | exact Nat.le_refl _ | assumption | (omega; done) | with_reducible exact le_past (Nat.le_refl _) | with_reducible refine le_past ?_ | with_reducible refine le_al ?_ | with_reducible refine le_set ?_ | with_reducible refine le_p1 ?_))) _)))
  obtain ⟨U, hU⟩ : ∃ U, w.heap.size + gap w z = U := ⟨_, rfl⟩
  rw [hU] at hU0 ⊢
  have hUw : w.heap.size ≤ U := by omega
  clear hW0 hU
  have hlong := hlong W0 hB0
  go_upto_if 13 with (go_at_call 57; with_reducible refine Calls.mono hlong ?_; rintro _ w2 ⟨r, rfl, hr, hb2⟩)
  cases r
  case true =>
    go_wp2_with fail
    go_ret
    exact ⟨rfl, hB0.trans (hb2.mono hB0.size)⟩
  have hr := hr rfl
  have hU1 := hU0.keep hb2
  have hB1 := hB0.trans (hb2.mono hB0.size)
  have hUl := hU1.lt
  have HU := Lib.hid hU1
  have HB := Lib.hid hB1
  have HS := Lib.hid hr
  have hn60 := hr.1
  clear hU0 hB0 hb2 hlong hU1 hB1 hr
  go_wp2_with fail
  go_loopg [5, 6, 7] lenl (fun g s5 s6 s7 wr => ∃ (k : Nat) (i : Bool) (c : Int), k ≤ lenl ∧ lenl ≤ g + k ∧ s5 = .int .i64 k ∧ 0 ≤ c ∧ c ≤ 41 * k ∧ ∃ z, wr = past (put U i c w2) z)
  case atStart => exact ⟨0, false, 0, by omega, by omega, rfl, by omega, by omega, w2, by rw [put_self HU.out]; exact past_of (Below.refl _ _)⟩
  case round =>
    obtain ⟨k, i, c, hk, hg, rfl, hc0, hc1, z, rfl⟩ := hrel
    have hcu := fun (z : World) => uCut (ua_past HU.out i c z)
    have hco := fun (z : World) => uCount (ua_past HU.out i c z)
    by_cases hlt : k < lenl
    · have d1 : decide ((k : Int) < (lenl : Int)) = true := by simp; omega
      obtain ⟨b, o, rfl, hbw, hx⟩ := HAT.out (by omega)
      have hBp := fun z => ((below_putn i c HB.out hUw).trans ((past_below (put U i c w2) z).mono (below_putn i c HB.out hUw).size) : Below w.heap.size w (past (put U i c w2) z))
      obtain ⟨x, hX⟩ : ∃ x, Xl k = x := ⟨_, rfl⟩
      have hxk := (hx k hlt).keep (hBp z)
      have okx := HOK.out k hlt
      have hsx := HS.out.2 k hlt
      rw [hX] at hxk okx hsx
      have ha := fun z => aAct (hBp z) hUw (ua_past HU.out i c z) x okx hsx.1 hsx.2 ⟨hc0, by omega⟩
      have hcn := actR_cnt x.kd x.a x.b x.L x.K x.is i c
      have hst := fun (h : x.kd ≠ 9) => actR_stays x.kd x.a x.b x.L x.K x.is c h
      have h9 := actR_9 x.a x.b x.L x.K x.is i c
      have h8 := actR_8 x.a x.b x.L x.K x.is i c
      have hxs := hsx.1
      have hxw := hx k hlt
      rw [hX] at hxw
      have hkey : (x.kd = 9 ∧ (actR x.kd x.a x.b x.L x.K x.is i c).2.2.1 = false) ∨ (x.kd = 8 ∧ (actR x.kd x.a x.b x.L x.K x.is i c).2.2.1 = (i || x.is)) ∨ (x.kd ≠ 9 ∧ x.kd ≠ 8 ∧ (i = true → (actR x.kd x.a x.b x.L x.K x.is i c).2.2.1 = true)) := by
        by_cases e9 : x.kd = 9
        · exact .inl ⟨e9, by rw [e9]; exact h9⟩
        · by_cases e8 : x.kd = 8
          · exact .inr (.inl ⟨e8, by rw [e8]; exact h8⟩)
          · exact .inr (.inr ⟨e9, e8, fun e => by subst e; exact hst e9⟩)
      clear hst h9 h8 hX okx hsx
      obtain ⟨R, hR⟩ : ∃ R, actR x.kd x.a x.b x.L x.K x.is i c = R := ⟨_, rfl⟩
      rw [hR] at hkey hcn
      simp only [hR] at ha
      obtain ⟨n, e, i', c'⟩ := R
      simp only at ha hkey hcn
      have d2 : decide (c' < c) = false := by simp; omega
      have hcu2 := fun (z : World) => uCut (ua_past HU.out i' c' z)
      have hco2 := fun (z : World) => uCount (ua_past HU.out i' c' z)
      have hbU : b ≠ U := by omega
      have p0 : w2.cell? ⟨b, o + k * 6, none⟩ = some (.int .i64 x.kd) := (hxw.keep HB.out).c0
      have p1 : w2.cell? ⟨b, o + k * 6 + 1, none⟩ = some (.int .i64 x.a) := (hxw.keep HB.out).c1
      have p2 : w2.cell? ⟨b, o + k * 6 + 2, none⟩ = some (.int .i64 x.b) := (hxw.keep HB.out).c2
      have p3 : w2.cell? ⟨b, o + k * 6 + 3, none⟩ = some (.slice x.l x.L.length x.cl) := (hxw.keep HB.out).c3
      have p4 : w2.cell? ⟨b, o + k * 6 + 4, none⟩ = some (.slice x.k x.K.length x.ck) := (hxw.keep HB.out).c4
      have p5 : w2.cell? ⟨b, o + k * 6 + 5, none⟩ = some (.bool x.is) := (hxw.keep HB.out).c5
      have hb2 : b < w2.heap.size := Nat.lt_of_lt_of_le hbw HB.out.size
      obtain ⟨kd, xa, xb, xl, xcl, xL, xk, xck, xK, is⟩ := x
      simp only at p0 p1 p2 p3 p4 p5 hkey ha hxs
      have HXL := Lib.hid hxs
      have HCN := Lib.hid hcn
      clear hR hxk hxw hx hBp hxs hcn
      rcases hkey with ⟨rfl, rfl⟩ | ⟨rfl, hq⟩ | ⟨n9, n8, hst⟩
      · cases i
        all_goals
          go_wp2_with (first | (go_at_call 21; first | (with_reducible refine Calls_past2 (hcu _) (fun z => ?_)) | (with_reducible refine Calls_past (hcu _) (fun z => ?_))) | (go_at_call 60; first | (with_reducible refine Calls_past2 (hco _) (fun z => ?_)) | (with_reducible refine Calls_past (hco _) (fun z => ?_))) | (go_at_call 59; with_reducible refine Calls_put (ha _) (fun z => ?_)) | (go_at_call 21; first | (with_reducible refine Calls_past2 (hcu2 _) (fun z => ?_)) | (with_reducible refine Calls_past (hcu2 _) (fun z => ?_))) | (go_at_call 60; first | (with_reducible refine Calls_past2 (hco2 _) (fun z => ?_)) | (with_reducible refine Calls_past (hco2 _) (fun z => ?_))))
          go_roundg (lenl - (k + 1))
          case measure => omega
          case rel => exact ⟨k + 1, _, _, by omega, by omega, by go_num, by have := HCN.out; omega, by have := HXL.out; have := HCN.out; omega, _, rfl⟩
      · cases i <;> cases is <;> cases i' <;> (first | (exfalso; revert hq; decide) | skip)
        all_goals
          clear hq
          go_wp2_with (first | (go_at_call 21; first | (with_reducible refine Calls_past2 (hcu _) (fun z => ?_)) | (with_reducible refine Calls_past (hcu _) (fun z => ?_))) | (go_at_call 60; first | (with_reducible refine Calls_past2 (hco _) (fun z => ?_)) | (with_reducible refine Calls_past (hco _) (fun z => ?_))) | (go_at_call 59; with_reducible refine Calls_put (ha _) (fun z => ?_)) | (go_at_call 21; first | (with_reducible refine Calls_past2 (hcu2 _) (fun z => ?_)) | (with_reducible refine Calls_past (hcu2 _) (fun z => ?_))) | (go_at_call 60; first | (with_reducible refine Calls_past2 (hco2 _) (fun z => ?_)) | (with_reducible refine Calls_past (hco2 _) (fun z => ?_))))
          go_roundg (lenl - (k + 1))
          case measure => omega
          case rel => exact ⟨k + 1, _, _, by omega, by omega, by go_num, by have := HCN.out; omega, by have := HXL.out; have := HCN.out; omega, _, rfl⟩
      · have e9 : (kd == 9) = false := by simp; omega
        have e9' : (kd != 9) = true := by simp; omega
        have e8 : (kd == 8) = false := by simp; omega
        have hcase : i = false ∨ i = true ∧ i' = true := by
          cases i
          · exact .inl rfl
          · exact .inr ⟨rfl, hst rfl⟩
        clear hst n9 n8
        rcases hcase with rfl | ⟨rfl, rfl⟩
        all_goals
          go_wp2_with (first | (go_at_call 21; first | (with_reducible refine Calls_past2 (hcu _) (fun z => ?_)) | (with_reducible refine Calls_past (hcu _) (fun z => ?_))) | (go_at_call 60; first | (with_reducible refine Calls_past2 (hco _) (fun z => ?_)) | (with_reducible refine Calls_past (hco _) (fun z => ?_))) | (go_at_call 59; with_reducible refine Calls_put (ha _) (fun z => ?_)) | (go_at_call 21; first | (with_reducible refine Calls_past2 (hcu2 _) (fun z => ?_)) | (with_reducible refine Calls_past (hcu2 _) (fun z => ?_))) | (go_at_call 60; first | (with_reducible refine Calls_past2 (hco2 _) (fun z => ?_)) | (with_reducible refine Calls_past (hco2 _) (fun z => ?_))))
          go_roundg (lenl - (k + 1))
          case measure => omega
          case rel => exact ⟨k + 1, _, _, by omega, by omega, by go_num, by have := HCN.out; omega, by have := HXL.out; have := HCN.out; omega, _, rfl⟩
    · obtain rfl : k = lenl := by omega
      have d1 : decide ((k : Int) < (k : Int)) = false := by simp
      have hs1 := fun z => uSet (ua_past HU.out i c z) true
      have hs2 := fun z => uSet (ua_past HU.out (i || true) c z) false
      have e1 : (i || true) = true := by simp
      have e2 : (true || false) = true := rfl
      rw [e1] at hs1 hs2
      rw [e2] at hs2
      have hcu := fun (z : World) => uCut (ua_past HU.out true c z)
      have hadd := fun (W : World) (k : Below (put U true c w2).heap.size (put U true c w2) W) (v : Value) (hv : SL W U v [1]) => uAddV ((HU.out.put true c).keep k) v [1] 1 true (c + 1) hv (by intro n hn; simp at hn; omega) ⟨by omega, by simp; omega⟩ (by decide +kernel) (by simp)
      have hcu2 := fun (W : World) (k : Below (put U true (c + 1) w2).heap.size (put U true (c + 1) w2) W) => uCut ((HU.out.put true (c + 1)).keep k)
      have hP := fun j d => (below_putn j d HB.out hUw : Below w.heap.size w (put U j d w2))
      clear e1 e2
      go_wp2_with (first | (go_at_call 61; with_reducible refine Calls_put (hs1 _) (fun z => ?_)) | (go_at_call 61; with_reducible refine Calls_put (hs2 _) (fun z => ?_)) | (go_at_call 21; first | (with_reducible refine Calls_past2 (hcu _) (fun z => ?_)) | (with_reducible refine Calls_past (hcu _) (fun z => ?_))) | (go_at_call 20; with_reducible refine Calls_to0 (hadd _ ?_ _ (SL1 ?_ ?_)) (fun z => ?_); (focus ((first | ((repeat (first | assumption | exact Below.refl _ _ | with_reducible refine past_t _ ?_ | with_reducible refine below_a _ ?_ | with_reducible refine Below.drew ?_ | with_reducible refine below_d _ ?_ | (with_reducible refine Below.setCell ?_ (by (show _ ≤ _; repeat (first | exact Nat.le_refl _ | assumption | (omega; done) | with_reducible exact le_past (Nat.le_refl _) | with_reducible refine le_past ?_ | with_reducible refine le_al ?_ | with_reducible refine le_set ?_ | with_reducible refine le_p1 ?_))) _))); done) | (with_reducible rfl; done) | omega | (rfl; done) | (simp; done) | (simp [go_sem]; done) | (simp; omega) | (simp [go_sem]; omega)); done)); (focus ((first | ((repeat (first | assumption | exact Below.refl _ _ | with_reducible refine past_t _ ?_ | with_reducible refine below_a _ ?_ | with_reducible refine Below.drew ?_ | with_reducible refine below_d _ ?_ | (with_reducible refine Below.setCell ?_ (by (show _ ≤ _; repeat (first | exact Nat.le_refl _ | assumption | (omega; done) | with_reducible exact le_past (Nat.le_refl _) | with_reducible refine le_past ?_ | with_reducible refine le_al ?_ | with_reducible refine le_set ?_ | with_reducible refine le_p1 ?_))) _))); done) | (with_reducible rfl; done) | omega | (rfl; done) | (simp; done) | (simp [go_sem]; done) | (simp; omega) | (simp [go_sem]; omega)); done)); (focus ((first | ((repeat (first | assumption | exact Below.refl _ _ | with_reducible refine past_t _ ?_ | with_reducible refine below_a _ ?_ | with_reducible refine Below.drew ?_ | with_reducible refine below_d _ ?_ | (with_reducible refine Below.setCell ?_ (by (show _ ≤ _; repeat (first | exact Nat.le_refl _ | assumption | (omega; done) | with_reducible exact le_past (Nat.le_refl _) | with_reducible refine le_past ?_ | with_reducible refine le_al ?_ | with_reducible refine le_set ?_ | with_reducible refine le_p1 ?_))) _))); done) | (with_reducible rfl; done) | omega | (rfl; done) | (simp; done) | (simp [go_sem]; done) | (simp; omega) | (simp [go_sem]; omega)); done))) | (go_at_call 26; with_reducible refine Calls_past (iSameT (RS1 (x := 1) ?_) (RS1 (x := 1) ?_)) (fun z => ?_); (focus ((first | ((repeat (first | assumption | exact Below.refl _ _ | with_reducible refine past_t _ ?_ | with_reducible refine below_a _ ?_ | with_reducible refine Below.drew ?_ | with_reducible refine below_d _ ?_ | (with_reducible refine Below.setCell ?_ (by (show _ ≤ _; repeat (first | exact Nat.le_refl _ | assumption | (omega; done) | with_reducible exact le_past (Nat.le_refl _) | with_reducible refine le_past ?_ | with_reducible refine le_al ?_ | with_reducible refine le_set ?_ | with_reducible refine le_p1 ?_))) _))); done) | (with_reducible rfl; done) | omega | (rfl; done) | (simp; done) | (simp [go_sem]; done) | (simp; omega) | (simp [go_sem]; omega)); done)); (focus ((first | ((repeat (first | assumption | exact Below.refl _ _ | with_reducible refine past_t _ ?_ | with_reducible refine below_a _ ?_ | with_reducible refine Below.drew ?_ | with_reducible refine below_d _ ?_ | (with_reducible refine Below.setCell ?_ (by (show _ ≤ _; repeat (first | exact Nat.le_refl _ | assumption | (omega; done) | with_reducible exact le_past (Nat.le_refl _) | with_reducible refine le_past ?_ | with_reducible refine le_al ?_ | with_reducible refine le_set ?_ | with_reducible refine le_p1 ?_))) _))); done) | (with_reducible rfl; done) | omega | (rfl; done) | (simp; done) | (simp [go_sem]; done) | (simp; omega) | (simp [go_sem]; omega)); done))) | (go_at_call 21; with_reducible refine Calls_past (hcu2 _ ?_) (fun z => ?_); (focus ((first | ((repeat (first | assumption | exact Below.refl _ _ | with_reducible refine past_t _ ?_ | with_reducible refine below_a _ ?_ | with_reducible refine Below.drew ?_ | with_reducible refine below_d _ ?_ | (with_reducible refine Below.setCell ?_ (by (show _ ≤ _; repeat (first | exact Nat.le_refl _ | assumption | (omega; done) | with_reducible exact le_past (Nat.le_refl _) | with_reducible refine le_past ?_ | with_reducible refine le_al ?_ | with_reducible refine le_set ?_ | with_reducible refine le_p1 ?_))) _))); done) | (with_reducible rfl; done) | omega | (rfl; done) | (simp; done) | (simp [go_sem]; done) | (simp; omega) | (simp [go_sem]; omega)); done))))
      go_ret
      exact ⟨rfl, by ((repeat (first | assumption | exact Below.refl _ _ | with_reducible refine past_t _ ?_ | with_reducible refine below_a _ ?_ | with_reducible refine Below.drew ?_ | with_reducible refine below_d _ ?_ | (with_reducible refine Below.setCell ?_ (by (show _ ≤ _; repeat (first | exact Nat.le_refl _ | assumption | (omega; done) | with_reducible exact le_past (Nat.le_refl _) | with_reducible refine le_past ?_ | with_reducible refine le_al ?_ | with_reducible refine le_set ?_ | with_reducible refine le_p1 ?_))) _))); exact hP _ _)⟩
set_option maxRecDepth 100000 in
theorem lifted (os : Os) (started : os.Started) (H : Type) (enc : TypeId × Value → H) :
    ReturnsInHanded {} Try.checked os 14 .any (Rows.unitKeepsSpec.pre6 enc Try.prog Try.f14 Rows.unitKeepsRow.domain false) (Rows.unitKeepsSpec.post enc Try.prog Try.f14 false true false false) := by
  refine returnsInHanded_of_change (C := Try.checked) own started (by kernel_rfl) Try.func14
    (ChangeSpec.witness6 (enc := enc) (C := Try.checked) false ⟨#[], #[.slice none 0 0], []⟩ 8 (by kernel_rfl) (by kernel_rfl) (by kernel_rfl) (by kernel_rfl)) ?_
  intro W base args ds gs before hval0 hW hcnd _
  have hval : ∀ (j : Nat) t v, Try.f14.params[j]? = some t → args[j]? = some v → Value.okWide Try.prog W .any base t v := hval0
  have hW' := hW
  obtain ⟨p, q, hA0, hV, rfl, hfz, hnd⟩ := hW
  have hA : DataW.TrodAll enc Try.prog W 0 (fun _ => true) true Try.f14.params.toList args.toList ds p := hA0
  rw [Try.params14] at hA hval
  obtain ⟨v0, vs0, d0, ds0, p0, q0, hargs, rfl, rfl, h0, r0⟩ := trodAll_cons hA
  obtain ⟨rfl, rfl, rfl⟩ := trodAll_nil r0
  obtain rfl : args = #[v0] := by cases args; simp_all
  obtain ⟨rfl, rfl⟩ := trodVars_none hV
  have k0 := h0
  have lt0 : ∀ x ∈ p0, x.block < W.heap.size := by obtain ⟨m, hm⟩ := k0; exact DataW.trod_lt m _ _ _ hm
  obtain ⟨l, lenl, capl, Xl, rfl, w0⟩ := open_acts (hval 0 65 v0 rfl rfl) h0
  clear hA0 hval0
  refine (walk W l lenl capl Xl w0).mono fun e W' ⟨he, bel⟩ => ?_
  subst he
  exact ⟨_, rfl, _, _, _, [], _, [], hW', trodAll_mk1 (shut_bool Try.underlying4 _), (trodAll_cons_mk (Below.trod laidOut (by kernel_rfl) (of_decide_eq_true (by kernel_rfl)) k0 bel lt0) trodAll_mk0), rfl, bel.frame _, fun h => by cases h⟩
theorem over : Rows.unitKeepsRow.holds Try.pinned (OpenSpec.ofChange Rows.unitKeepsSpec) :=
  OpenClaim.holds_of_wide 14 Try.f14 rfl rfl rfl rfl rfl rfl rfl ⟨rfl, rfl, rfl, rfl, rfl⟩ rfl rfl rfl rfl rfl (by kernel_rfl) Try.func14 (by kernel_rfl)
    (of_decide_eq_true (by kernel_rfl)) (by unfold Func.isWrapper; first | (rw [if_pos (by decide +kernel)]; kernel_rfl) | (rw [if_neg (by decide +kernel)]; exact ⟨rfl, rfl⟩))
    (fun os started H enc _ => lifted os started H enc)
theorem proved : Rows.UnitKeepsSaid := over
#print axioms proved
end Go.Proofs.Ytfhiodclbabdkaa.unitKeeps
