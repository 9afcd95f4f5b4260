/- A root is the nearest one, roots rise, and nothing from 0 on is cut. -/
import Derived.Test.YtocljkoijhipiaaKnown3
import Derived.Deep.DeepCutAuto
import Derived.WalkKit
import Derived.ProofKit
import Derived.OpenShut
import Derived.ShutString
import Derived.ChangeOld
import Derived.Below
import Derived.Lib.SmallJoins
namespace Go.Proofs.Ytocljkoijhipiaa.rootNear
open Go.ChangeShapes Go.WideShapes Go.ChangeAt Go.RowKit
open Go.ChangeMaps (open_string shut_string)
open Go.Joins
set_option linter.unusedVariables false
theorem own : ownKnob Try.prog.godebug = none := by kernel_rfl
theorem laidOut : laidOutB Try.prog = true := by kernel_rfl
set_option maxHeartbeats 8000000 in
set_option maxRecDepth 100000 in
theorem walk (a : Int) (w0 : (Lit.int .i64 a).wf = true) (b : Int) (w1 : (Lit.int .i64 b).wf = true) (w : World) : -- the walk
    Calls Try.prog 4 #[.int .i64 a, .int .i64 b] w fun e w' => e = .returned (.bool true) ∧ Below w.heap.size w w' := by
  have ha := bounds_i64 w0
  have hb := bounds_i64 w1
  clear w0 w1
  by_cases ga : a < 0
  · have hx := fun w => tSqrt a w ha.1 ha.2
    have e1 : sqtV a = 0 := by unfold sqtV; rw [if_pos ga]
    have e2 : sqtC a = true := by unfold sqtC; simpa using ga
    rw [e1, e2] at hx
    have hy := fun w => tSqrt b w hb.1 hb.2
    obtain ⟨y, hyy⟩ : ∃ y, sqtV b = y := ⟨_, rfl⟩
    obtain ⟨c, hcc⟩ : ∃ c, decide (b < 0) = c := ⟨_, rfl⟩
    have e3 : sqtC b = c := hcc
    rw [hyy, e3] at hy
    clear e1 e2 e3 hyy
    go_enter Try.func4, Try.ntmps4
    go_wp2_with (first | (go_at_call 25; first | (with_reducible refine Calls_past2 (lAwake3 _) (fun z => ?_)) | (with_reducible refine Calls_past (lAwake3 _) (fun z => ?_))) | (go_at_call 26; first | (with_reducible refine Calls_past2 (hx _) (fun z => ?_)) | (with_reducible refine Calls_past (hx _) (fun z => ?_))) | (go_at_call 26; first | (with_reducible refine Calls_past2 (hy _) (fun z => ?_)) | (with_reducible refine Calls_past (hy _) (fun z => ?_))))
    go_ret
    exact ⟨rfl, by (repeat (first | assumption | exact Below.refl _ _ | with_reducible refine past_t _ ?_ | with_reducible refine below_a _ ?_ | with_reducible refine Below.drew ?_ | with_reducible refine below_d _ ?_ | (with_reducible refine Below.setCell ?_ (by (show _ ≤ _; repeat (first | exact Nat.le_refl _ | with_reducible exact le_past (Nat.le_refl _) | with_reducible refine le_past ?_ | with_reducible refine le_al ?_ | with_reducible refine le_set ?_ | with_reducible refine le_p1 ?_))) _)))⟩
  · have hx := fun w => tSqrt a w ha.1 ha.2
    have e1 : sqtV a = nrt (a * 4294967296) := by unfold sqtV; rw [if_neg ga]
    have e2 : sqtC a = false := by unfold sqtC; simpa using ga
    have bx := sqt_bd a (by omega) ha.2
    have hx1 := nrt_hi (a * 4294967296) (by omega)
    have hx2 := nrt_lo (a * 4294967296) (by omega)
    have hmo : a ≤ b → nrt (a * 4294967296) ≤ nrt (b * 4294967296) := fun h => nrt_mono (by omega) (by omega)
    obtain ⟨x, hxx⟩ : ∃ x, nrt (a * 4294967296) = x := ⟨_, rfl⟩
    rw [e1, e2, hxx] at hx
    rw [hxx] at bx hx1 hx2 hmo
    clear e1 e2 hxx
    by_cases gb : b < 0
    · have hy := fun w => tSqrt b w hb.1 hb.2
      have e1 : sqtV b = 0 := by unfold sqtV; rw [if_pos gb]
      have e2 : sqtC b = true := by unfold sqtC; simpa using gb
      rw [e1, e2] at hy
      clear e1 e2 hmo hx1 hx2
      go_enter Try.func4, Try.ntmps4
      go_wp2_with (first | (go_at_call 25; first | (with_reducible refine Calls_past2 (lAwake3 _) (fun z => ?_)) | (with_reducible refine Calls_past (lAwake3 _) (fun z => ?_))) | (go_at_call 26; first | (with_reducible refine Calls_past2 (hx _) (fun z => ?_)) | (with_reducible refine Calls_past (hx _) (fun z => ?_))) | (go_at_call 26; first | (with_reducible refine Calls_past2 (hy _) (fun z => ?_)) | (with_reducible refine Calls_past (hy _) (fun z => ?_))))
      go_ret
      exact ⟨rfl, by (repeat (first | assumption | exact Below.refl _ _ | with_reducible refine past_t _ ?_ | with_reducible refine below_a _ ?_ | with_reducible refine Below.drew ?_ | with_reducible refine below_d _ ?_ | (with_reducible refine Below.setCell ?_ (by (show _ ≤ _; repeat (first | exact Nat.le_refl _ | with_reducible exact le_past (Nat.le_refl _) | with_reducible refine le_past ?_ | with_reducible refine le_al ?_ | with_reducible refine le_set ?_ | with_reducible refine le_p1 ?_))) _)))⟩
    · have hy := fun w => tSqrt b w hb.1 hb.2
      have e1 : sqtV b = nrt (b * 4294967296) := by unfold sqtV; rw [if_neg gb]
      have e2 : sqtC b = false := by unfold sqtC; simpa using gb
      obtain ⟨y, hyy⟩ : ∃ y, nrt (b * 4294967296) = y := ⟨_, rfl⟩
      rw [e1, e2, hyy] at hy
      rw [hyy] at hmo
      clear e1 e2 hyy
      have sx : 0 ≤ x * x ∧ x * x ≤ 199032864766430 * 199032864766430 := ⟨Int.mul_nonneg bx.1 bx.1, Int.mul_le_mul bx.2 bx.2 bx.1 (by omega)⟩
      obtain ⟨q, hq⟩ : ∃ q, x * x = q := ⟨_, rfl⟩
      have hmul : ∀ w, Calls Try.prog 20 #[.int .i64 x, .int .i64 x] w fun e w' => e = .returned (WV q) ∧ Below w.heap.size w w' := by
        intro w; rw [← hq]; exact wMul x x w (by omega) (by omega) (by omega) (by omega)
      rw [hq] at sx hx1 hx2
      clear hq
      obtain ⟨k, hk⟩ : ∃ k, a * 4294967296 = k := ⟨_, rfl⟩
      have bk : 0 ≤ k ∧ k < 39614081257132168796771975168 := by omega
      rw [hk] at hx1 hx2
      have hnum : ∀ w, Calls Try.prog 20 #[.int .i64 a, .int .i64 4294967296] w fun e w' => e = .returned (WV k) ∧ Below w.heap.size w w' := by
        intro w; rw [← hk]; exact wMul a 4294967296 w ha.1 ha.2 (by omega) (by omega)
      have c1 : cmpI k (q + x) ≤ 0 := by unfold cmpI; split <;> (try split) <;> omega
      have c2 : ¬ x = 0 → 0 ≤ cmpI k (q + (1 - x)) := by intro h; have := hx2 h; unfold cmpI; split <;> omega
      have hlo : ∀ w, Calls Try.prog 22 #[WV k, WV (q + x)] w fun e w' => e = .returned (.int .i64 (cmpI k (q + x))) ∧ Below w.heap.size w w' :=
        fun w => wCmp _ _ w (by omega) (by omega) (by omega) (by omega)
      have hhi : ∀ w, Calls Try.prog 22 #[WV k, WV (q + (1 - x))] w fun e w' => e = .returned (.int .i64 (cmpI k (q + (1 - x)))) ∧ Below w.heap.size w w' :=
        fun w => wCmp _ _ w (by omega) (by omega) (by omega) (by omega)
      obtain ⟨C1, hC1⟩ : ∃ c, cmpI k (q + x) = c := ⟨_, rfl⟩
      obtain ⟨C2, hC2⟩ : ∃ c, cmpI k (q + (1 - x)) = c := ⟨_, rfl⟩
      rw [hC1] at c1 hlo
      rw [hC2] at c2 hhi
      clear hC1 hC2 hx1 hx2 hk
      go_enter Try.func4, Try.ntmps4
      go_upto_region 9 with (first | (go_at_call 25; first | (with_reducible refine Calls_past2 (lAwake3 _) (fun z => ?_)) | (with_reducible refine Calls_past (lAwake3 _) (fun z => ?_))) | (go_at_call 26; first | (with_reducible refine Calls_past2 (hx _) (fun z => ?_)) | (with_reducible refine Calls_past (hx _) (fun z => ?_))) | (go_at_call 26; first | (with_reducible refine Calls_past2 (hy _) (fun z => ?_)) | (with_reducible refine Calls_past (hy _) (fun z => ?_))) | (go_at_call 20; first | (with_reducible refine Calls_past2 (hnum _) (fun z => ?_)) | (with_reducible refine Calls_past (hnum _) (fun z => ?_))) | (go_at_call 20; first | (with_reducible refine Calls_past2 (hmul _) (fun z => ?_)) | (with_reducible refine Calls_past (hmul _) (fun z => ?_))))
      go_cut [10, 11, 12] (fun s10 s11 s12 wc => ∃ A B C : Nat, s10 = .pointer (some ⟨A, 0, none⟩) ∧ s11 = .pointer (some ⟨B, 0, none⟩) ∧ s12 = .pointer (some ⟨C, 0, none⟩) ∧ wc.cell? ⟨A, 0, none⟩ = some (.int .i64 (whi k)) ∧ wc.cell? ⟨A, 1, none⟩ = some (.int .u64 (wlo k)) ∧ wc.cell? ⟨B, 0, none⟩ = some (.int .i64 (whi q)) ∧ wc.cell? ⟨B, 1, none⟩ = some (.int .u64 (wlo q)) ∧ wc.cell? ⟨C, 0, none⟩ = some (.int .i64 (whi (q + x))) ∧ wc.cell? ⟨C, 1, none⟩ = some (.int .u64 (wlo (q + x))) ∧ Below w.heap.size w wc)
      case first =>
        go_region_with (first | (go_at_call 14; with_reducible refine Calls_past (wOf x _ (by omega) (by omega)) (fun z => ?_)) | (go_at_call 16; with_reducible refine Calls_past (wAdd q x _) (fun z => ?_)))
        all_goals
          go_wp2_with fail
          go_meet
          refine ⟨_, _, _, rfl, rfl, rfl, ?_, ?_, ?_, ?_, ?_, ?_, ?_⟩
          all_goals (first | (first | (simp [go_sem]; done) | (simp [go_sem, ↓IntWalk.iteOmega]; done)) | ((repeat (first | assumption | exact Below.refl _ _ | with_reducible refine past_t _ ?_ | with_reducible refine below_a _ ?_ | with_reducible refine Below.drew ?_ | with_reducible refine below_d _ ?_ | (with_reducible refine Below.setCell ?_ (by (show _ ≤ _; repeat (first | exact Nat.le_refl _ | with_reducible exact le_past (Nat.le_refl _) | with_reducible refine le_past ?_ | with_reducible refine le_al ?_ | with_reducible refine le_set ?_ | with_reducible refine le_p1 ?_))) _)))))
      case rest =>
        obtain ⟨A, B, C, rfl, rfl, rfl, a1, a2, b1, b2, c3, c4, hB⟩ := hcut
        have la := World.block_lt_of_cell? _ _ a1
        have lb := World.block_lt_of_cell? _ _ b1
        have lc := World.block_lt_of_cell? _ _ c3
        simp only [] at la lb lc
        have hB' := hB.size
        obtain ⟨V, rfl⟩ : ∃ V : World, V = wc := ⟨_, rfl⟩
        have e0 : IntKind.i64.wrap (1 - x) = 1 - x := by rw [IntKind.wrap_i64]; omega
        go_upto_region 10 with (fail)
        go_cut [13] (fun s13 wc => ∃ D : Nat, s13 = .pointer (some ⟨D, 0, none⟩) ∧ wc.cell? ⟨D, 0, none⟩ = some (.int .i64 (whi (q + (1 - x)))) ∧ wc.cell? ⟨D, 1, none⟩ = some (.int .u64 (wlo (q + (1 - x)))) ∧ V.heap.size ≤ D ∧ ∃ z, wc = past V z)
        case first =>
          go_region_with (first | (go_at_call 14; with_reducible refine Calls_past (wOf (1 - x) _ (by omega) (by omega)) (fun z => ?_)) | (go_at_call 16; with_reducible refine Calls_past (wAdd q (1 - x) _) (fun z => ?_)))
          all_goals
            go_wp2_with fail
            go_meet
            refine ⟨_, rfl, ?_, ?_, ?_, _, past_of ?_⟩
            · (first | (simp [go_sem]; done) | (simp [go_sem, ↓IntWalk.iteOmega]; done))
            · (first | (simp [go_sem]; done) | (simp [go_sem, ↓IntWalk.iteOmega]; done))
            · (first | exact Nat.le_refl _ | omega | (simp; done) | (simp; omega))
            · (repeat (first | assumption | exact Below.refl _ _ | with_reducible refine past_t _ ?_ | with_reducible refine below_a _ ?_ | with_reducible refine Below.drew ?_ | with_reducible refine below_d _ ?_ | (with_reducible refine Below.setCell ?_ (by (show _ ≤ _; repeat (first | exact Nat.le_refl _ | with_reducible exact le_past (Nat.le_refl _) | with_reducible refine le_past ?_ | with_reducible refine le_al ?_ | with_reducible refine le_set ?_ | with_reducible refine le_p1 ?_))) _)))
        case rest =>
          obtain ⟨D, rfl, d1, d2, hD, z, rfl⟩ := hcut
          go_wp2_with (first | (go_at_call 22; with_reducible refine Calls_past (hlo _) (fun z => ?_)) | (go_at_call 22; with_reducible refine Calls_past (hhi _) (fun z => ?_)))
          all_goals
            go_ret
            refine ⟨ret_b ?_, by (repeat (first | assumption | exact Below.refl _ _ | with_reducible refine past_t _ ?_ | with_reducible refine below_a _ ?_ | with_reducible refine Below.drew ?_ | with_reducible refine below_d _ ?_ | (with_reducible refine Below.setCell ?_ (by (show _ ≤ _; repeat (first | exact Nat.le_refl _ | with_reducible exact le_past (Nat.le_refl _) | with_reducible refine le_past ?_ | with_reducible refine le_al ?_ | with_reducible refine le_set ?_ | with_reducible refine le_p1 ?_))) _)))⟩
            first | rfl | (simp; omega) | (by_cases hab : a ≤ b <;> (try have := hmo hab) <;> simp <;> omega)
set_option maxRecDepth 100000 in
theorem lifted (os : Os) (started : os.Started) (H : Type) (enc : TypeId × Value → H) :
    ReturnsInHanded {} Try.checked os 4 .any (Rows.rootNearSpec.pre6 enc Try.prog Try.f4 Rows.rootNearRow.domain false) (Rows.rootNearSpec.post enc Try.prog Try.f4 false true false false) := by
  refine returnsInHanded_of_change (C := Try.checked) own started (by kernel_rfl) Try.func4
    (ChangeSpec.witness6 (enc := enc) (C := Try.checked) false ⟨#[], #[.int .i64 0, .int .i64 0], []⟩ 8 (by kernel_rfl) (by kernel_rfl) (by kernel_rfl) (by kernel_rfl)) ?_
  intro W base args ds gs before hval0 hW hcnd _
  have hval : ∀ (j : Nat) t v, Try.f4.params[j]? = some t → args[j]? = some v → Value.okWide Try.prog W .any base t v := hval0
  have hW' := hW
  obtain ⟨p, q, hA0, hV, rfl, hfz, hnd⟩ := hW
  have hA : DataW.TrodAll enc Try.prog W 0 (fun _ => true) true Try.f4.params.toList args.toList ds p := hA0
  rw [Try.params4] at hA hval
  obtain ⟨v0, vs0, d0, ds0, p0, q0, hargs, rfl, rfl, h0, r0⟩ := trodAll_cons hA
  obtain ⟨v1, vs1, d1, ds1, p1, q1, rfl, rfl, rfl, h1, r1⟩ := trodAll_cons r0
  obtain ⟨rfl, rfl, rfl⟩ := trodAll_nil r1
  obtain rfl : args = #[v0, v1] := by cases args; simp_all
  obtain ⟨rfl, rfl⟩ := trodVars_none hV
  obtain ⟨a, rfl, rfl, rfl, w0⟩ := open_int Try.underlying3 (hval 0 3 v0 rfl rfl) h0
  obtain ⟨b, rfl, rfl, rfl, w1⟩ := open_int Try.underlying3 (hval 1 3 v1 rfl rfl) h1
  clear hA0 hval0
  refine (walk a w0 b w1 W).mono fun e W' ⟨he, bel⟩ => ?_
  subst he
  exact ⟨_, rfl, _, _, _, [], _, [], hW', trodAll_mk1 (shut_bool Try.underlying4 _), (trodAll_cons_mk (shut_int Try.underlying3 w0) (trodAll_cons_mk (shut_int Try.underlying3 w1) trodAll_mk0)), rfl, bel.frame _, fun h => by cases h⟩
theorem over : Rows.rootNearRow.holds Try.pinned (OpenSpec.ofChange Rows.rootNearSpec) :=
  OpenClaim.holds_of_wide 4 Try.f4 rfl rfl rfl rfl rfl rfl rfl ⟨rfl, rfl, rfl, rfl, rfl⟩ rfl rfl rfl rfl rfl (by kernel_rfl) Try.func4 (by kernel_rfl)
    (of_decide_eq_true (by kernel_rfl)) (by unfold Func.isWrapper; first | (rw [if_pos (by decide +kernel)]; kernel_rfl) | (rw [if_neg (by decide +kernel)]; exact ⟨rfl, rfl⟩))
    (fun os started H enc _ => lifted os started H enc)
theorem proved : Rows.RootNearSaid := over
#print axioms proved
end Go.Proofs.Ytocljkoijhipiaa.rootNear
