/- A hypotenuse is not less than either side, not more than both together, the same for sides turned and exchanged; that of one side is that. -/
import Derived.Test.YtocljkoijhipiaaKnown3
import Derived.Deep.DeepCutAuto
import Derived.WalkKit
import Derived.ProofKit
import Derived.OpenShut
import Derived.ShutString
import Derived.ChangeOld
import Derived.Below
import Derived.Lib.SmallJoins
namespace Go.Proofs.Ytocljkoijhipiaa.rootHypot
open Go.ChangeShapes Go.WideShapes Go.ChangeAt Go.RowKit
open Go.ChangeMaps (open_string shut_string)
open Go.Joins
set_option linter.unusedVariables false
theorem own : ownKnob Try.prog.godebug = none := by kernel_rfl
theorem laidOut : laidOutB Try.prog = true := by kernel_rfl
set_option maxHeartbeats 4000000 in
theorem walk (a : Int) (w0 : (Lit.int .i64 a).wf = true) (b : Int) (w1 : (Lit.int .i64 b).wf = true) (w : World) : -- the walk
    Calls Try.prog 10 #[.int .i64 a, .int .i64 b] w fun e w' => e = .returned (.bool true) ∧ Below w.heap.size w w' := by
  have ha := bounds_i64 w0
  have hb := bounds_i64 w1
  clear w0 w1
  have hout : a < -9223372036854775807 ∨ b < -9223372036854775807 → hypC a b = true := by
    intro h; unfold hypC; simp; omega
  by_cases h1 : a < -9223372036854775807
  · have hc := hout (.inl h1)
    have hx := fun w => tHypot a b w ha.1 ha.2 hb.1 hb.2
    rw [hc] at hx
    obtain ⟨h, hh⟩ : ∃ h, hypV a b = h := ⟨_, rfl⟩
    rw [hh] at hx
    clear hout hc hh
    go_enter Try.func10, Try.ntmps10
    go_wp2_with (first | (go_at_call 25; first | (with_reducible refine Calls_past2 (lAwake3 _) (fun z => ?_)) | (with_reducible refine Calls_past (lAwake3 _) (fun z => ?_))) | (go_at_call 37; first | (with_reducible refine Calls_past2 (hx _) (fun z => ?_)) | (with_reducible refine Calls_past (hx _) (fun z => ?_))))
    go_ret
    exact ⟨rfl, by (repeat (first | assumption | exact Below.refl _ _ | with_reducible refine past_t _ ?_ | with_reducible refine below_a _ ?_ | with_reducible refine Below.drew ?_ | with_reducible refine below_d _ ?_ | (with_reducible refine Below.setCell ?_ (by (show _ ≤ _; repeat (first | exact Nat.le_refl _ | with_reducible exact le_past (Nat.le_refl _) | with_reducible refine le_past ?_ | with_reducible refine le_al ?_ | with_reducible refine le_set ?_ | with_reducible refine le_p1 ?_))) _)))⟩
  · by_cases h2 : b < -9223372036854775807
    · have hc := hout (.inr h2)
      have hx := fun w => tHypot a b w ha.1 ha.2 hb.1 hb.2
      rw [hc] at hx
      obtain ⟨h, hh⟩ : ∃ h, hypV a b = h := ⟨_, rfl⟩
      rw [hh] at hx
      clear hout hc hh
      go_enter Try.func10, Try.ntmps10
      go_wp2_with (first | (go_at_call 25; first | (with_reducible refine Calls_past2 (lAwake3 _) (fun z => ?_)) | (with_reducible refine Calls_past (lAwake3 _) (fun z => ?_))) | (go_at_call 37; first | (with_reducible refine Calls_past2 (hx _) (fun z => ?_)) | (with_reducible refine Calls_past (hx _) (fun z => ?_))))
      go_ret
      exact ⟨rfl, by (repeat (first | assumption | exact Below.refl _ _ | with_reducible refine past_t _ ?_ | with_reducible refine below_a _ ?_ | with_reducible refine Below.drew ?_ | with_reducible refine below_d _ ?_ | (with_reducible refine Below.setCell ?_ (by (show _ ≤ _; repeat (first | exact Nat.le_refl _ | with_reducible exact le_past (Nat.le_refl _) | with_reducible refine le_past ?_ | with_reducible refine le_al ?_ | with_reducible refine le_set ?_ | with_reducible refine le_p1 ?_))) _)))⟩
    · clear hout
      have hda : hd a = a := by unfold hd; rw [if_neg h1]
      have hdb : hd b = b := by unfold hd; rw [if_neg h2]
      have hdn : hd (-b) = -b := by unfold hd; rw [if_neg (by omega)]
      have hd0 : hd 0 = 0 := by unfold hd; rw [if_neg (by omega)]
      obtain ⟨m, hm⟩ : ∃ m, max a (-a) = m := ⟨_, rfl⟩
      obtain ⟨n, hn⟩ : ∃ n, max b (-b) = n := ⟨_, rfl⟩
      have m0 : 0 ≤ m ∧ m ≤ 9223372036854775807 := by omega
      have n0 : 0 ≤ n ∧ n ≤ 9223372036854775807 := by omega
      have em : a * a = m * m := by
        rcases Int.lt_or_le a 0 with g | g
        · obtain rfl : m = -a := by omega
          rw [Int.neg_mul_neg]
        · obtain rfl : m = a := by omega
          rfl
      have en : b * b = n * n := by
        rcases Int.lt_or_le b 0 with g | g
        · obtain rfl : n = -b := by omega
          rw [Int.neg_mul_neg]
        · obtain rfl : n = b := by omega
          rfl
      have N1 : hyN a b = nrt (m * m + n * n) := by unfold hyN; rw [hda, hdb, em, en]
      have N2 : hyN (-b) a = nrt (m * m + n * n) := by unfold hyN; rw [hda, hdn, Int.neg_mul_neg, em, en, Int.add_comm]
      have N3 : hyN a 0 = m := by
        unfold hyN; rw [hda, hd0, em]
        by_cases z : m = 0
        · rw [z]
          have : isq (0 * 0 + 0 * 0) = 0 := isq_uniq (by omega) (by omega) (by omega)
          unfold nrt; rw [this]; decide
        · exact nrt_uniq (by omega) (by omega) (by omega)
      have sm := sq_bd m (by omega) m0.2
      have sn := sq_bd n (by omega) n0.2
      have ge1 : m ≤ nrt (m * m + n * n) := by
        by_cases z : m = 0
        · rw [z]; exact nrt_nn _ (by omega)
        · have := nrt_mono (a := m * m) (b := m * m + n * n) (by omega) (by omega)
          have : nrt (m * m) = m := nrt_uniq (by omega) (by omega) (by omega)
          omega
      have ge2 : n ≤ nrt (m * m + n * n) := by
        by_cases z : n = 0
        · rw [z]; exact nrt_nn _ (by omega)
        · have := nrt_mono (a := n * n) (b := m * m + n * n) (by omega) (by omega)
          have : nrt (n * n) = n := nrt_uniq (by omega) (by omega) (by omega)
          omega
      have le1 : nrt (m * m + n * n) ≤ m + n := by
        have mn := Int.mul_nonneg m0.1 n0.1
        refine nrt_up _ _ (by omega) (by omega) ?_
        have : (m + n) * (m + n) = m * m + 2 * (m * n) + n * n := by simp only [Int.add_mul, Int.mul_add, Int.mul_comm n m]; omega
        omega
      obtain ⟨N, hN⟩ : ∃ N, nrt (m * m + n * n) = N := ⟨_, rfl⟩
      rw [hN] at N1 N2 ge1 ge2 le1
      have hx := fun w => tHypot a b w ha.1 ha.2 hb.1 hb.2
      have hy := fun w => tHypot (-b) a w (by omega) (by omega) ha.1 ha.2
      have hz := fun w => tHypot a 0 w ha.1 ha.2 (by omega) (by omega)
      have z1 : hypV a 0 = m := by unfold hypV; rw [N3, if_neg (by omega)]
      have z2 : hypC a 0 = false := by unfold hypC; rw [N3]; simp; omega
      rw [z1, z2] at hz
      have hcase : ∃ h c, hypV a b = h ∧ hypC a b = c ∧ hypV (-b) a = h ∧ hypC (-b) a = c ∧ m ≤ h ∧ n ≤ h ∧ h ≤ 9223372036854775807 ∧ (c = true ∧ h = 9223372036854775807 ∨ c = false ∧ h ≤ m + n) := by
        by_cases g : 9223372036854775807 < N
        · exact ⟨9223372036854775807, true, by unfold hypV; rw [N1, if_pos g], by unfold hypC; rw [N1]; simp [g], by unfold hypV; rw [N2, if_pos g], by unfold hypC; rw [N2]; simp [g], by omega, by omega, by omega, .inl ⟨rfl, rfl⟩⟩
        · exact ⟨N, false, by unfold hypV; rw [N1, if_neg g], by unfold hypC; rw [N1]; simp; omega, by unfold hypV; rw [N2, if_neg g], by unfold hypC; rw [N2]; simp; omega, by omega, by omega, by omega, .inr ⟨rfl, by omega⟩⟩
      obtain ⟨h, c, e1, e2, e3, e4, g1, g2, g3, hc⟩ := hcase
      rw [e1, e2] at hx
      rw [e3, e4] at hy
      have d1 : (decide (h < max m n)) = false := by simp; omega
      clear e1 e2 e3 e4 em en N1 N2 N3 sm sn ge1 ge2 le1 hN z1 z2 hda hdb hdn hd0
      rcases hc with ⟨rfl, rfl⟩ | ⟨rfl, g4⟩
      all_goals
        go_enter Try.func10, Try.ntmps10
        go_wp2_with (first | (go_at_call 25; first | (with_reducible refine Calls_past2 (lAwake3 _) (fun z => ?_)) | (with_reducible refine Calls_past (lAwake3 _) (fun z => ?_))) | (go_at_call 37; first | (with_reducible refine Calls_past2 (hx _) (fun z => ?_)) | (with_reducible refine Calls_past (hx _) (fun z => ?_))) | (go_at_call 37; first | (with_reducible refine Calls_past2 (hy _) (fun z => ?_)) | (with_reducible refine Calls_past (hy _) (fun z => ?_))) | (go_at_call 37; first | (with_reducible refine Calls_past2 (hz _) (fun z => ?_)) | (with_reducible refine Calls_past (hz _) (fun z => ?_))))
        all_goals
          go_ret
          exact ⟨rfl, by (repeat (first | assumption | exact Below.refl _ _ | with_reducible refine past_t _ ?_ | with_reducible refine below_a _ ?_ | with_reducible refine Below.drew ?_ | with_reducible refine below_d _ ?_ | (with_reducible refine Below.setCell ?_ (by (show _ ≤ _; repeat (first | exact Nat.le_refl _ | with_reducible exact le_past (Nat.le_refl _) | with_reducible refine le_past ?_ | with_reducible refine le_al ?_ | with_reducible refine le_set ?_ | with_reducible refine le_p1 ?_))) _)))⟩
set_option maxRecDepth 100000 in
theorem lifted (os : Os) (started : os.Started) (H : Type) (enc : TypeId × Value → H) :
    ReturnsInHanded {} Try.checked os 10 .any (Rows.rootHypotSpec.pre6 enc Try.prog Try.f10 Rows.rootHypotRow.domain false) (Rows.rootHypotSpec.post enc Try.prog Try.f10 false true false false) := by
  refine returnsInHanded_of_change (C := Try.checked) own started (by kernel_rfl) Try.func10
    (ChangeSpec.witness6 (enc := enc) (C := Try.checked) false ⟨#[], #[.int .i64 0, .int .i64 0], []⟩ 8 (by kernel_rfl) (by kernel_rfl) (by kernel_rfl) (by kernel_rfl)) ?_
  intro W base args ds gs before hval0 hW hcnd _
  have hval : ∀ (j : Nat) t v, Try.f10.params[j]? = some t → args[j]? = some v → Value.okWide Try.prog W .any base t v := hval0
  have hW' := hW
  obtain ⟨p, q, hA0, hV, rfl, hfz, hnd⟩ := hW
  have hA : DataW.TrodAll enc Try.prog W 0 (fun _ => true) true Try.f10.params.toList args.toList ds p := hA0
  rw [Try.params10] at hA hval
  obtain ⟨v0, vs0, d0, ds0, p0, q0, hargs, rfl, rfl, h0, r0⟩ := trodAll_cons hA
  obtain ⟨v1, vs1, d1, ds1, p1, q1, rfl, rfl, rfl, h1, r1⟩ := trodAll_cons r0
  obtain ⟨rfl, rfl, rfl⟩ := trodAll_nil r1
  obtain rfl : args = #[v0, v1] := by cases args; simp_all
  obtain ⟨rfl, rfl⟩ := trodVars_none hV
  obtain ⟨a, rfl, rfl, rfl, w0⟩ := open_int Try.underlying3 (hval 0 3 v0 rfl rfl) h0
  obtain ⟨b, rfl, rfl, rfl, w1⟩ := open_int Try.underlying3 (hval 1 3 v1 rfl rfl) h1
  clear hA0 hval0
  refine (walk a w0 b w1 W).mono fun e W' ⟨he, bel⟩ => ?_
  subst he
  exact ⟨_, rfl, _, _, _, [], _, [], hW', trodAll_mk1 (shut_bool Try.underlying4 _), (trodAll_cons_mk (shut_int Try.underlying3 w0) (trodAll_cons_mk (shut_int Try.underlying3 w1) trodAll_mk0)), rfl, bel.frame _, fun h => by cases h⟩
theorem over : Rows.rootHypotRow.holds Try.pinned (OpenSpec.ofChange Rows.rootHypotSpec) :=
  OpenClaim.holds_of_wide 10 Try.f10 rfl rfl rfl rfl rfl rfl rfl ⟨rfl, rfl, rfl, rfl, rfl⟩ rfl rfl rfl rfl rfl (by kernel_rfl) Try.func10 (by kernel_rfl)
    (of_decide_eq_true (by kernel_rfl)) (by unfold Func.isWrapper; first | (rw [if_pos (by decide +kernel)]; kernel_rfl) | (rw [if_neg (by decide +kernel)]; exact ⟨rfl, rfl⟩))
    (fun os started H enc _ => lifted os started H enc)
theorem proved : Rows.RootHypotSaid := over
#print axioms proved
end Go.Proofs.Ytocljkoijhipiaa.rootHypot
