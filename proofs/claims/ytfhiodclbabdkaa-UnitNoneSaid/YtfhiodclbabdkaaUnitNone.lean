/- A unit that is nil, or that nobody made, reckons nothing, and keeps nothing in mind. -/
import Derived.Test.YtfhiodclbabdkaaAct4
import Derived.Deep.DeepCutAuto
import Derived.Deep.LoopGhost
import Derived.WalkKit
import Derived.ProofKit
import Derived.OpenShut
import Derived.ShutString
import Derived.ChangeOld
import Derived.Below
import Derived.Lib.SmallJoins
namespace Go.Proofs.Ytfhiodclbabdkaa.unitNone
open Go.ChangeShapes Go.WideShapes Go.ChangeAt Go.RowKit
open Go.ChangeMaps (open_string shut_string)
open Go.Joins
set_option linter.unusedVariables false
theorem own : ownKnob Try.prog.godebug = none := by kernel_rfl
theorem laidOut : laidOutB Try.prog = true := by kernel_rfl
set_option maxHeartbeats 8000000 in
set_option maxRecDepth 100000 in
theorem walk (w : World) (x : ActX) (w0 : x.ok w) : -- the walk
    Calls Try.prog 13 #[x.val] w fun e w' => e = .returned (.bool true) ∧ Below w.heap.size w w' := by
  have haw := lAwake4
  unfold SaysYes at haw
  have hl := fun (W : World) (B : Nat) (h : ActAt W B 0 x) => aLong (w := W) (A := some ⟨B, 0, none⟩) (n := 1) (c := 1) (X := fun _ => x) (fun _ => ⟨B, 0, rfl, World.block_lt_of_cell? W _ h.c0, fun i hi => by
    have e : i = 0 := (by omega)
    rw [e]; exact h⟩) (by omega)
  go_enter Try.func13, Try.ntmps13
  go_upto_if 10 with (go_at_call 57; with_reducible refine Calls.mono (hl _ _ ?_) ?_; (focus ((refine ⟨?_, ?_, ?_, ?_, ?_, ?_⟩ <;> (first | (simp [go_sem]; done) | (simp [go_sem, ↓IntWalk.iteOmega]; done))); done)); rintro _ w2 ⟨r, rfl, -, hb2⟩)
  have hx2 : ActAt w2 w.heap.size 0 x := ActAt.keep ⟨by (first | (simp [go_sem]; done) | (simp [go_sem, ↓IntWalk.iteOmega]; done)), by (first | (simp [go_sem]; done) | (simp [go_sem, ↓IntWalk.iteOmega]; done)), by (first | (simp [go_sem]; done) | (simp [go_sem, ↓IntWalk.iteOmega]; done)), by (first | (simp [go_sem]; done) | (simp [go_sem, ↓IntWalk.iteOmega]; done)), by (first | (simp [go_sem]; done) | (simp [go_sem, ↓IntWalk.iteOmega]; done)), by (first | (simp [go_sem]; done) | (simp [go_sem, ↓IntWalk.iteOmega]; done))⟩ hb2
  have hB2 : Below w.heap.size w w2 := Below.trans (by (repeat (first | assumption | exact Below.refl _ _ | with_reducible refine past_t _ ?_ | with_reducible refine below_a _ ?_ | with_reducible refine Below.drew ?_ | with_reducible refine below_d _ ?_ | (with_reducible refine Below.setCell ?_ (by (show _ ≤ _; repeat (first | exact Nat.le_refl _ | assumption | (omega; done) | with_reducible exact le_past (Nat.le_refl _) | with_reducible refine le_past ?_ | with_reducible refine le_al ?_ | with_reducible refine le_set ?_ | with_reducible refine le_p1 ?_))) _)))) (hb2.mono (by simp; omega))
  have hs2 : w.heap.size < w2.heap.size := World.block_lt_of_cell? w2 _ hx2.c0
  clear hb2 hl
  cases r
  case true =>
    go_wp2_with ((go_at_call 58; first | (with_reducible refine Calls_past2 (haw _) (fun z => ?_)) | (with_reducible refine Calls_past (haw _) (fun z => ?_))))
    go_ret
    exact ⟨rfl, by (repeat (first | assumption | exact Below.refl _ _ | with_reducible refine past_t _ ?_ | with_reducible refine below_a _ ?_ | with_reducible refine Below.drew ?_ | with_reducible refine below_d _ ?_ | (with_reducible refine Below.setCell ?_ (by (show _ ≤ _; repeat (first | exact Nat.le_refl _ | assumption | (omega; done) | with_reducible exact le_past (Nat.le_refl _) | with_reducible refine le_past ?_ | with_reducible refine le_al ?_ | with_reducible refine le_set ?_ | with_reducible refine le_p1 ?_))) _)))⟩
  go_upto_region 4 with fail
  refine wp_gen (fun W1 hW1 => ?_)
  have c0 : W1.cell? ⟨w2.heap.size, 0, none⟩ = some (.bool false) := by rw [hW1]; (first | (simp [go_sem]; done) | (simp [go_sem, ↓IntWalk.iteOmega]; done))
  have c2 : W1.cell? ⟨w2.heap.size, 2, none⟩ = some (.bool false) := by rw [hW1]; (first | (simp [go_sem]; done) | (simp [go_sem, ↓IntWalk.iteOmega]; done))
  have f0 : W1.frozen? ⟨w2.heap.size, 0, none⟩ = false := by rw [hW1]; (first | (simp [go_sem]; done) | (simp [go_sem, ↓IntWalk.iteOmega]; done))
  have e0 : W1.cell? ⟨w2.heap.size + 1, 0, none⟩ = some (.pointer none) := by rw [hW1]; (first | (simp [go_sem]; done) | (simp [go_sem, ↓IntWalk.iteOmega]; done))
  have e1 : W1.cell? ⟨w2.heap.size + 1, 1, none⟩ = some (.pointer (some ⟨w2.heap.size, 0, none⟩)) := by rw [hW1]; (first | (simp [go_sem]; done) | (simp [go_sem, ↓IntWalk.iteOmega]; done))
  have hk1 : Below w2.heap.size w2 W1 := by rw [hW1]; (repeat (first | assumption | exact Below.refl _ _ | with_reducible refine past_t _ ?_ | with_reducible refine below_a _ ?_ | with_reducible refine Below.drew ?_ | with_reducible refine below_d _ ?_ | (with_reducible refine Below.setCell ?_ (by (show _ ≤ _; repeat (first | exact Nat.le_refl _ | assumption | (omega; done) | with_reducible exact le_past (Nat.le_refl _) | with_reducible refine le_past ?_ | with_reducible refine le_al ?_ | with_reducible refine le_set ?_ | with_reducible refine le_p1 ?_))) _)))
  have hx1 := hx2.keep hk1
  have hB1 := hB2.trans (hk1.mono hB2.size)
  have hsz := hB2.size
  have hl0 : w2.heap.size < W1.heap.size := World.block_lt_of_cell? W1 _ c0
  have hl1 : w2.heap.size + 1 < W1.heap.size := World.block_lt_of_cell? W1 _ e0
  have hp0 := hx1.c0
  have hp1 := hx1.c1
  have hp2 := hx1.c2
  have hp3 := hx1.c3
  have hp4 := hx1.c4
  have hp5 := hx1.c5
  have ha0 := fun (hk : x.kd ≠ 8 ∧ x.kd ≠ 9) z => nAct (.inl rfl : NU none (past W1 z)) x hk
  have ha1 := nActS c0 c2 f0 x
  simp only [SetB] at ha1
  have hBW : w2.heap.size ≠ w.heap.size := by omega
  clear hx2 hx1 hW1 hk1 f0
  obtain ⟨kd, a, b, l, cl, L, k, ck, K, is⟩ := x
  simp only at hp0 hp1 hp2 hp3 hp4 hp5 ha0 ha1
  obtain ⟨U, hU⟩ : ∃ U, w2.heap.size = U := ⟨_, rfl⟩
  rw [hU] at ha1 e0 e1 hl0 hl1 hsz hBW c0 c2 hs2 ⊢
  clear w0 hU
  have HB1 := Lib.hid hB1
  clear hB1
  go_wp2_with fail
  go_loopg [4, 5, 6] 2 (fun g s4 s5 s6 wr => ∃ k : Nat, k ≤ 2 ∧ 2 ≤ g + k ∧ s4 = .int .i64 k ∧ (k ≤ 1 → ∃ z, wr = past W1 z) ∧ Below w.heap.size w wr)
  case atStart => exact ⟨0, by omega, by omega, rfl, fun _ => ⟨_, past_of (Below.refl _ _)⟩, HB1.out⟩
  case round =>
    obtain ⟨j, hj, hg, rfl, hz, hbw⟩ := hrel
    obtain rfl | rfl | rfl : j = 0 ∨ j = 1 ∨ j = 2 := by omega
    · obtain ⟨z, rfl⟩ := hz (by omega)
      clear ha1 hz hbw
      by_cases h8 : kd = 8
      · subst h8
        go_wp2_with fail
        go_roundg 1
        case measure => omega
        case rel => exact ⟨1, by omega, by omega, by go_num, fun _ => ⟨_, rfl⟩, HB1.out.trans ((past_below W1 z).mono HB1.out.size)⟩
      by_cases h9 : kd = 9
      · subst h9
        go_wp2_with fail
        go_roundg 1
        case measure => omega
        case rel => exact ⟨1, by omega, by omega, by go_num, fun _ => ⟨_, rfl⟩, HB1.out.trans ((past_below W1 z).mono HB1.out.size)⟩
      have n8 : (kd == 8) = false := by simpa using h8
      have n9 : (kd == 9) = false := by simpa using h9
      have ha := ha0 ⟨h8, h9⟩
      clear ha0 h8 h9
      go_wp2_with fail
      (first | refine region_past2 (by kernel_rfl) (by kernel_rfl) ?_ | refine region_past (by kernel_rfl) (by kernel_rfl) ?_)
      repeat (go_big_quiet_step (first | (go_at_call 59; with_reducible exact Calls_pastq (ha _))))
      refine wpQuiet_nil ?_; rintro _ ⟨y, rfl⟩
      clear ha c0 c2
      have hco := fun z => nCount (.inl rfl : NU none (past W1 z))
      by_cases h7 : kd = 7
      · subst h7
        have e7 : noErr 7 = 1 := rfl
        rw [e7]
        go_wp2_with ((go_at_call 60; first | (with_reducible refine Calls_past2 (hco _) (fun z => ?_)) | (with_reducible refine Calls_past (hco _) (fun z => ?_))))
        go_roundg 1
        case measure => omega
        case rel => exact ⟨1, by omega, by omega, by go_num, fun _ => ⟨_, rfl⟩, by have := HB1.out; (repeat (first | assumption | exact Below.refl _ _ | with_reducible refine past_t _ ?_ | with_reducible refine below_a _ ?_ | with_reducible refine Below.drew ?_ | with_reducible refine below_d _ ?_ | (with_reducible refine Below.setCell ?_ (by (show _ ≤ _; repeat (first | exact Nat.le_refl _ | assumption | (omega; done) | with_reducible exact le_past (Nat.le_refl _) | with_reducible refine le_past ?_ | with_reducible refine le_al ?_ | with_reducible refine le_set ?_ | with_reducible refine le_p1 ?_))) _)))⟩
      · have e7 : noErr kd = 0 := by unfold noErr; rw [if_neg h7]
        have n7 : (kd == 7) = false := by simpa using h7
        rw [e7]
        clear e7 h7
        go_wp2_with ((go_at_call 60; first | (with_reducible refine Calls_past2 (hco _) (fun z => ?_)) | (with_reducible refine Calls_past (hco _) (fun z => ?_))))
        go_roundg 1
        case measure => omega
        case rel => exact ⟨1, by omega, by omega, by go_num, fun _ => ⟨_, rfl⟩, by have := HB1.out; (repeat (first | assumption | exact Below.refl _ _ | with_reducible refine past_t _ ?_ | with_reducible refine below_a _ ?_ | with_reducible refine Below.drew ?_ | with_reducible refine below_d _ ?_ | (with_reducible refine Below.setCell ?_ (by (show _ ≤ _; repeat (first | exact Nat.le_refl _ | assumption | (omega; done) | with_reducible exact le_past (Nat.le_refl _) | with_reducible refine le_past ?_ | with_reducible refine le_al ?_ | with_reducible refine le_set ?_ | with_reducible refine le_p1 ?_))) _)))⟩
    · obtain ⟨z, rfl⟩ := hz (by omega)
      clear ha0 hz hbw
      rw [show ((1 : Nat) : Int) = 1 from rfl]
      go_wp2_with fail
      refine region_setB c0 (by kernel_rfl) (by kernel_rfl) ?_
      repeat (go_big_quiet_step (first | (go_at_call 59; with_reducible exact ha1 _)))
      refine wpQuiet_nil ?_; rintro _ ⟨⟨y, q⟩, rfl⟩
      have hkB : Below w.heap.size w (past (W1.setCell ⟨U, 0, none⟩ (.bool q)) y) := by have := HB1.out; (repeat (first | assumption | exact Below.refl _ _ | with_reducible refine past_t _ ?_ | with_reducible refine below_a _ ?_ | with_reducible refine Below.drew ?_ | with_reducible refine below_d _ ?_ | (with_reducible refine Below.setCell ?_ (by (show _ ≤ _; repeat (first | exact Nat.le_refl _ | assumption | (omega; done) | with_reducible exact le_past (Nat.le_refl _) | with_reducible refine le_past ?_ | with_reducible refine le_al ?_ | with_reducible refine le_set ?_ | with_reducible refine le_p1 ?_))) _)))
      have q2 : (W1.setCell ⟨U, 0, none⟩ (.bool q)).cell? ⟨U, 2, none⟩ = some (.bool false) := by rw [World.cell?_setCell_other _ _ _ _ (by simp)]; exact c2
      have hco := fun z => nCount (.inr ⟨U, rfl, ((past_below _ z).cell (p := ⟨U, 2, none⟩) (by simp [World.setCell]; exact hl0)).trans q2⟩ : NU (some ⟨U, 0, none⟩) (past (W1.setCell ⟨U, 0, none⟩ (.bool q)) z))
      clear c2 q2 ha1
      by_cases h7 : kd = 7
      · subst h7
        have e7 : noErr 7 = 1 := rfl
        rw [e7]
        go_wp2_with ((go_at_call 60; first | (with_reducible refine Calls_past2 (hco _) (fun z => ?_)) | (with_reducible refine Calls_past (hco _) (fun z => ?_))))
        go_roundg 0
        case measure => omega
        case rel => exact ⟨2, by omega, by omega, by go_num, fun h => absurd h (by omega), by (repeat (first | assumption | exact Below.refl _ _ | with_reducible refine past_t _ ?_ | with_reducible refine below_a _ ?_ | with_reducible refine Below.drew ?_ | with_reducible refine below_d _ ?_ | (with_reducible refine Below.setCell ?_ (by (show _ ≤ _; repeat (first | exact Nat.le_refl _ | assumption | (omega; done) | with_reducible exact le_past (Nat.le_refl _) | with_reducible refine le_past ?_ | with_reducible refine le_al ?_ | with_reducible refine le_set ?_ | with_reducible refine le_p1 ?_))) _)))⟩
      · have e7 : noErr kd = 0 := by unfold noErr; rw [if_neg h7]
        have n7 : (kd == 7) = false := by simpa using h7
        rw [e7]
        clear e7 h7
        go_wp2_with ((go_at_call 60; first | (with_reducible refine Calls_past2 (hco _) (fun z => ?_)) | (with_reducible refine Calls_past (hco _) (fun z => ?_))))
        go_roundg 0
        case measure => omega
        case rel => exact ⟨2, by omega, by omega, by go_num, fun h => absurd h (by omega), by (repeat (first | assumption | exact Below.refl _ _ | with_reducible refine past_t _ ?_ | with_reducible refine below_a _ ?_ | with_reducible refine Below.drew ?_ | with_reducible refine below_d _ ?_ | (with_reducible refine Below.setCell ?_ (by (show _ ≤ _; repeat (first | exact Nat.le_refl _ | assumption | (omega; done) | with_reducible exact le_past (Nat.le_refl _) | with_reducible refine le_past ?_ | with_reducible refine le_al ?_ | with_reducible refine le_set ?_ | with_reducible refine le_p1 ?_))) _)))⟩
    · clear ha0 ha1 hz
      go_wp2_with (first | (go_at_call 61; first | (with_reducible refine Calls_past2 (zSet _ _) (fun z => ?_)) | (with_reducible refine Calls_past (zSet _ _) (fun z => ?_))) | (go_at_call 62; first | (with_reducible refine Calls_past2 (zClear _) (fun z => ?_)) | (with_reducible refine Calls_past (zClear _) (fun z => ?_))) | (go_at_call 21; first | (with_reducible refine Calls_past2 (zCut _) (fun z => ?_)) | (with_reducible refine Calls_past (zCut _) (fun z => ?_))) | (go_at_call 58; first | (with_reducible refine Calls_past2 (haw _) (fun z => ?_)) | (with_reducible refine Calls_past (haw _) (fun z => ?_))))
      go_ret
      exact ⟨rfl, by (repeat (first | assumption | exact Below.refl _ _ | with_reducible refine past_t _ ?_ | with_reducible refine below_a _ ?_ | with_reducible refine Below.drew ?_ | with_reducible refine below_d _ ?_ | (with_reducible refine Below.setCell ?_ (by (show _ ≤ _; repeat (first | exact Nat.le_refl _ | assumption | (omega; done) | with_reducible exact le_past (Nat.le_refl _) | with_reducible refine le_past ?_ | with_reducible refine le_al ?_ | with_reducible refine le_set ?_ | with_reducible refine le_p1 ?_))) _)))⟩
set_option maxRecDepth 100000 in
theorem lifted (os : Os) (started : os.Started) (H : Type) (enc : TypeId × Value → H) :
    ReturnsInHanded {} Try.checked os 13 .any (Rows.unitNoneSpec.pre6 enc Try.prog Try.f13 Rows.unitNoneRow.domain false) (Rows.unitNoneSpec.post enc Try.prog Try.f13 false true false false) := by
  refine returnsInHanded_of_change (C := Try.checked) own started (by kernel_rfl) Try.func13
    (ChangeSpec.witness6 (enc := enc) (C := Try.checked) false ⟨#[], #[.agg #[.int .i64 0, .int .i64 0, .int .i64 0, .slice none 0 0, .slice none 0 0, .bool false]], []⟩ 8 (by kernel_rfl) (by kernel_rfl) (by kernel_rfl) (by kernel_rfl)) ?_
  intro W base args ds gs before hval0 hW hcnd _
  have hval : ∀ (j : Nat) t v, Try.f13.params[j]? = some t → args[j]? = some v → Value.okWide Try.prog W .any base t v := hval0
  have hW' := hW
  obtain ⟨p, q, hA0, hV, rfl, hfz, hnd⟩ := hW
  have hA : DataW.TrodAll enc Try.prog W 0 (fun _ => true) true Try.f13.params.toList args.toList ds p := hA0
  rw [Try.params13] at hA hval
  obtain ⟨v0, vs0, d0, ds0, p0, q0, hargs, rfl, rfl, h0, r0⟩ := trodAll_cons hA
  obtain ⟨rfl, rfl, rfl⟩ := trodAll_nil r0
  obtain rfl : args = #[v0] := by cases args; simp_all
  obtain ⟨rfl, rfl⟩ := trodVars_none hV
  have k0 := h0
  have lt0 : ∀ x ∈ p0, x.block < W.heap.size := by obtain ⟨m, hm⟩ := k0; exact DataW.trod_lt m _ _ _ hm
  obtain ⟨x, rfl, w0⟩ := open_act (hval 0 63 v0 rfl rfl) h0
  clear hA0 hval0
  refine (walk W x w0).mono fun e W' ⟨he, bel⟩ => ?_
  subst he
  exact ⟨_, rfl, _, _, _, [], _, [], hW', trodAll_mk1 (shut_bool Try.underlying4 _), (trodAll_cons_mk (Below.trod laidOut (by kernel_rfl) (of_decide_eq_true (by kernel_rfl)) k0 bel lt0) trodAll_mk0), rfl, bel.frame _, fun h => by cases h⟩
theorem over : Rows.unitNoneRow.holds Try.pinned (OpenSpec.ofChange Rows.unitNoneSpec) :=
  OpenClaim.holds_of_wide 13 Try.f13 rfl rfl rfl rfl rfl rfl rfl ⟨rfl, rfl, rfl, rfl, rfl⟩ rfl rfl rfl rfl rfl (by kernel_rfl) Try.func13 (by kernel_rfl)
    (of_decide_eq_true (by kernel_rfl)) (by unfold Func.isWrapper; first | (rw [if_pos (by decide +kernel)]; kernel_rfl) | (rw [if_neg (by decide +kernel)]; exact ⟨rfl, rfl⟩))
    (fun os started H enc _ => lifted os started H enc)
theorem proved : Rows.UnitNoneSaid := over
#print axioms proved
end Go.Proofs.Ytfhiodclbabdkaa.unitNone
