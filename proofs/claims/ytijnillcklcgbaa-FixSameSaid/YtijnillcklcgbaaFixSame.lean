/- Sums and products do not hang on the order of two; negatives add up to the negative and multiply to the same; 0 and One are neutral; nothing is below -MaxFix. -/
import Derived.Test.YtijnillcklcgbaaFixP
import Derived.WalkKit
import Derived.ProofKit
import Derived.OpenShut
import Derived.ShutString
import Derived.ChangeOld
import Derived.Below
import Derived.Lib.SmallJoins
namespace Go.Proofs.Ytijnillcklcgbaa.fixSame
open Go.ChangeShapes Go.WideShapes Go.ChangeAt Go.RowKit
open Go.ChangeMaps (open_string shut_string)
open Go.Joins
set_option linter.unusedVariables false
theorem own : ownKnob Try.prog.godebug = none := by kernel_rfl
theorem laidOut : laidOutB Try.prog = true := by kernel_rfl
set_option maxHeartbeats 4000000 in
theorem walk (a : Int) (w0 : (Lit.int .i64 a).wf = true) (b : Int) (w1 : (Lit.int .i64 b).wf = true) (w : World) : -- the walk
    Calls Try.prog 10 #[.int .i64 a, .int .i64 b] w fun e w' => e = .returned (.bool true) ∧ Below w.heap.size w w' := by
  have ha := bounds_i64 w0
  have hb := bounds_i64 w1
  clear w0 w1
  by_cases h1 : a < -9223372036854775807
  · go_enter Try.func10, Try.ntmps10
    go_wp2_with (first | (go_at_call 9; first | (with_reducible refine Calls_past2 (lKnown2 _) (fun z => ?_)) | (with_reducible refine Calls_past (lKnown2 _) (fun z => ?_))))
    go_ret
    exact ⟨rfl, by (repeat (first | assumption | exact Below.refl _ _ | with_reducible refine past_t _ ?_ | with_reducible refine below_a _ ?_ | with_reducible refine Below.drew ?_ | with_reducible refine below_d _ ?_ | (with_reducible refine Below.setCell ?_ (by (show _ ≤ _; repeat (first | exact Nat.le_refl _ | with_reducible exact le_past (Nat.le_refl _) | with_reducible refine le_past ?_ | with_reducible refine le_al ?_ | with_reducible refine le_set ?_ | with_reducible refine le_p1 ?_))) _)))⟩
  by_cases h2 : b < -9223372036854775807
  · go_enter Try.func10, Try.ntmps10
    go_wp2_with (first | (go_at_call 9; first | (with_reducible refine Calls_past2 (lKnown2 _) (fun z => ?_)) | (with_reducible refine Calls_past (lKnown2 _) (fun z => ?_))))
    go_ret
    exact ⟨rfl, by (repeat (first | assumption | exact Below.refl _ _ | with_reducible refine past_t _ ?_ | with_reducible refine below_a _ ?_ | with_reducible refine Below.drew ?_ | with_reducible refine below_d _ ?_ | (with_reducible refine Below.setCell ?_ (by (show _ ≤ _; repeat (first | exact Nat.le_refl _ | with_reducible exact le_past (Nat.le_refl _) | with_reducible refine le_past ?_ | with_reducible refine le_al ?_ | with_reducible refine le_set ?_ | with_reducible refine le_p1 ?_))) _)))⟩
  have fa : InF a := ⟨by omega, by omega⟩
  have fb : InF b := ⟨by omega, by omega⟩
  have na := neg_in fa
  have nb := neg_in fb
  have k1 := fun w => fAdd a b w ha hb
  have k2 := fun w => fAdd b a w hb ha
  have k3 := fun w => fMul a b w ha hb
  have k4 := fun w => fMul b a w hb ha
  have k5 := fun w => fAdd (-a) (-b) w ⟨by omega, by omega⟩ ⟨by omega, by omega⟩
  have k6 := fun w => fMul (-a) (-b) w ⟨by omega, by omega⟩ ⟨by omega, by omega⟩
  have k7 := fun w => fSub a b w ha hb
  have k8 := fun w => fSub b a w hb ha
  rw [cut_in _ fa fb] at k1 k3 k7
  rw [cut_in _ fb fa] at k2 k4 k8
  rw [cut_in _ na nb] at k5 k6
  rw [same_add] at k2
  rw [same_mul] at k4
  rw [neg_add' fa fb, (fit_neg _).1, (fit_neg _).2] at k5
  rw [neg_mul' fa fb] at k6
  rw [neg_sub' fa fb, (fit_neg _).1, (fit_neg _).2] at k8
  have p1 := fitV_bd (addW a b)
  have p2 := fitV_bd (mulW a b)
  have p3 := fitV_bd (subW a b)
  obtain ⟨P, hP⟩ : ∃ P, fitV (addW a b) = P := ⟨_, rfl⟩
  obtain ⟨T, hT⟩ : ∃ T, fitV (mulW a b) = T := ⟨_, rfl⟩
  obtain ⟨I, hI⟩ : ∃ I, fitV (subW a b) = I := ⟨_, rfl⟩
  obtain ⟨c1, hc1⟩ : ∃ c, fitC (addW a b) = c := ⟨_, rfl⟩
  obtain ⟨c2, hc2⟩ : ∃ c, fitC (mulW a b) = c := ⟨_, rfl⟩
  obtain ⟨c3, hc3⟩ : ∃ c, fitC (subW a b) = c := ⟨_, rfl⟩
  rw [hP, hc1] at k1 k2 k5
  rw [hT, hc2] at k3 k4 k6
  rw [hI, hc3] at k7 k8
  rw [hP] at p1
  rw [hT] at p2
  rw [hI] at p3
  have m1 := fun w => lMirror (-P) P c1 w p1 rfl
  have m2 := fun w => lMirror I (-I) c3 w ⟨by omega, by omega⟩ (by omega)
  have s1 := fun w => lSum a 0 a false w ha ⟨by omega, by omega⟩ (add_0 fa).1 (add_0 fa).2
  have s2 := fun w => lTimes a 4294967296 a false w ha ⟨by omega, by omega⟩ (mul_1 fa).1 (mul_1 fa).2
  have s3 := fun w => lOver a 4294967296 a false w ha ⟨by omega, by omega⟩ (div_1 fa).1 (div_1 fa).2
  have s4 := fun w => lTimes a 0 0 false w ha ⟨by omega, by omega⟩ (mul_0 fa).1 (mul_0 fa).2
  have s5 := fun w => lHalf a a a false w ha ha (half_1 fa).1 (half_1 fa).2
  clear hP hT hI hc1 hc2 hc3
  go_enter Try.func10, Try.ntmps10
  go_wp2_with (first | (go_at_call 9; first | (with_reducible refine Calls_past2 (lKnown2 _) (fun z => ?_)) | (with_reducible refine Calls_past (lKnown2 _) (fun z => ?_))) | (go_at_call 21; first | (with_reducible refine Calls_past2 (k1 _) (fun z => ?_)) | (with_reducible refine Calls_past (k1 _) (fun z => ?_))) | (go_at_call 21; first | (with_reducible refine Calls_past2 (k2 _) (fun z => ?_)) | (with_reducible refine Calls_past (k2 _) (fun z => ?_))) | (go_at_call 22; first | (with_reducible refine Calls_past2 (k3 _) (fun z => ?_)) | (with_reducible refine Calls_past (k3 _) (fun z => ?_))) | (go_at_call 22; first | (with_reducible refine Calls_past2 (k4 _) (fun z => ?_)) | (with_reducible refine Calls_past (k4 _) (fun z => ?_))) | (go_at_call 21; first | (with_reducible refine Calls_past2 (k5 _) (fun z => ?_)) | (with_reducible refine Calls_past (k5 _) (fun z => ?_))) | (go_at_call 22; first | (with_reducible refine Calls_past2 (k6 _) (fun z => ?_)) | (with_reducible refine Calls_past (k6 _) (fun z => ?_))) | (go_at_call 32; first | (with_reducible refine Calls_past2 (k7 _) (fun z => ?_)) | (with_reducible refine Calls_past (k7 _) (fun z => ?_))) | (go_at_call 32; first | (with_reducible refine Calls_past2 (k8 _) (fun z => ?_)) | (with_reducible refine Calls_past (k8 _) (fun z => ?_))) | (go_at_call 43; first | (with_reducible refine Calls_past2 (m1 _) (fun z => ?_)) | (with_reducible refine Calls_past (m1 _) (fun z => ?_))) | (go_at_call 43; first | (with_reducible refine Calls_past2 (m2 _) (fun z => ?_)) | (with_reducible refine Calls_past (m2 _) (fun z => ?_))) | (go_at_call 39; first | (with_reducible refine Calls_past2 (lIs2 _ _ _) (fun z => ?_)) | (with_reducible refine Calls_past (lIs2 _ _ _) (fun z => ?_))) | (go_at_call 44; first | (with_reducible refine Calls_past2 (s1 _) (fun z => ?_)) | (with_reducible refine Calls_past (s1 _) (fun z => ?_))) | (go_at_call 41; first | (with_reducible refine Calls_past2 (s2 _) (fun z => ?_)) | (with_reducible refine Calls_past (s2 _) (fun z => ?_))) | (go_at_call 42; first | (with_reducible refine Calls_past2 (s3 _) (fun z => ?_)) | (with_reducible refine Calls_past (s3 _) (fun z => ?_))) | (go_at_call 41; first | (with_reducible refine Calls_past2 (s4 _) (fun z => ?_)) | (with_reducible refine Calls_past (s4 _) (fun z => ?_))) | (go_at_call 40; first | (with_reducible refine Calls_past2 (s5 _) (fun z => ?_)) | (with_reducible refine Calls_past (s5 _) (fun z => ?_))))
  go_ret
  exact ⟨rfl, by (repeat (first | assumption | exact Below.refl _ _ | with_reducible refine past_t _ ?_ | with_reducible refine below_a _ ?_ | with_reducible refine Below.drew ?_ | with_reducible refine below_d _ ?_ | (with_reducible refine Below.setCell ?_ (by (show _ ≤ _; repeat (first | exact Nat.le_refl _ | with_reducible exact le_past (Nat.le_refl _) | with_reducible refine le_past ?_ | with_reducible refine le_al ?_ | with_reducible refine le_set ?_ | with_reducible refine le_p1 ?_))) _)))⟩
set_option maxRecDepth 100000 in
theorem lifted (os : Os) (started : os.Started) (H : Type) (enc : TypeId × Value → H) :
    ReturnsInHanded {} Try.checked os 10 .any (Rows.fixSameSpec.pre6 enc Try.prog Try.f10 Rows.fixSameRow.domain false) (Rows.fixSameSpec.post enc Try.prog Try.f10 false true false false) := by
  refine returnsInHanded_of_change (C := Try.checked) own started (by kernel_rfl) Try.func10
    (ChangeSpec.witness6 (enc := enc) (C := Try.checked) false ⟨#[], #[.int .i64 0, .int .i64 0], []⟩ 8 (by kernel_rfl) (by kernel_rfl) (by kernel_rfl) (by kernel_rfl)) ?_
  intro W base args ds gs before hval0 hW hcnd _
  have hval : ∀ (j : Nat) t v, Try.f10.params[j]? = some t → args[j]? = some v → Value.okWide Try.prog W .any base t v := hval0
  have hW' := hW
  obtain ⟨p, q, hA0, hV, rfl, hfz, hnd⟩ := hW
  have hA : DataW.TrodAll enc Try.prog W 0 (fun _ => true) true Try.f10.params.toList args.toList ds p := hA0
  rw [Try.params10] at hA hval
  obtain ⟨v0, vs0, d0, ds0, p0, q0, hargs, rfl, rfl, h0, r0⟩ := trodAll_cons hA
  obtain ⟨v1, vs1, d1, ds1, p1, q1, rfl, rfl, rfl, h1, r1⟩ := trodAll_cons r0
  obtain ⟨rfl, rfl, rfl⟩ := trodAll_nil r1
  obtain rfl : args = #[v0, v1] := by cases args; simp_all
  obtain ⟨rfl, rfl⟩ := trodVars_none hV
  obtain ⟨a, rfl, rfl, rfl, w0⟩ := open_int Try.underlying3 (hval 0 3 v0 rfl rfl) h0
  obtain ⟨b, rfl, rfl, rfl, w1⟩ := open_int Try.underlying3 (hval 1 3 v1 rfl rfl) h1
  clear hA0 hval0
  refine (walk a w0 b w1 W).mono fun e W' ⟨he, bel⟩ => ?_
  subst he
  exact ⟨_, rfl, _, _, _, [], _, [], hW', trodAll_mk1 (shut_bool Try.underlying4 _), (trodAll_cons_mk (shut_int Try.underlying3 w0) (trodAll_cons_mk (shut_int Try.underlying3 w1) trodAll_mk0)), rfl, bel.frame _, fun h => by cases h⟩
theorem over : Rows.fixSameRow.holds Try.pinned (OpenSpec.ofChange Rows.fixSameSpec) :=
  OpenClaim.holds_of_wide 10 Try.f10 rfl rfl rfl rfl rfl rfl rfl ⟨rfl, rfl, rfl, rfl, rfl⟩ rfl rfl rfl rfl rfl (by kernel_rfl) Try.func10 (by kernel_rfl)
    (of_decide_eq_true (by kernel_rfl)) (by unfold Func.isWrapper; first | (rw [if_pos (by decide +kernel)]; kernel_rfl) | (rw [if_neg (by decide +kernel)]; exact ⟨rfl, rfl⟩))
    (fun os started H enc _ => lifted os started H enc)
theorem proved : Rows.FixSameSaid := over
#print axioms proved
end Go.Proofs.Ytijnillcklcgbaa.fixSame
