/- Nothing that is greater comes to less: by sums, halves, differences, by products with what is not below 0, by quotients by what is not below 0. -/
import Derived.Test.YtijnillcklcgbaaFixP
import Derived.WalkKit
import Derived.ProofKit
import Derived.OpenShut
import Derived.ShutString
import Derived.ChangeOld
import Derived.Below
import Derived.Lib.SmallJoins
namespace Go.Proofs.Ytijnillcklcgbaa.fixOrder
open Go.ChangeShapes Go.WideShapes Go.ChangeAt Go.RowKit
open Go.ChangeMaps (open_string shut_string)
open Go.Joins
set_option linter.unusedVariables false
theorem own : ownKnob Try.prog.godebug = none := by kernel_rfl
theorem laidOut : laidOutB Try.prog = true := by kernel_rfl
set_option maxHeartbeats 4000000 in
theorem walk (a : Int) (w0 : (Lit.int .i64 a).wf = true) (b : Int) (w1 : (Lit.int .i64 b).wf = true) (c : Int) (w2 : (Lit.int .i64 c).wf = true) (w : World) : -- the walk
    Calls Try.prog 6 #[.int .i64 a, .int .i64 b, .int .i64 c] w fun e w' => e = .returned (.bool true) ∧ Below w.heap.size w w' := by
  have ha := bounds_i64 w0
  have hb := bounds_i64 w1
  have hc := bounds_i64 w2
  clear w0 w1 w2
  by_cases hab : b < a
  · have hxy : b ≤ a := by omega
    have F1 : decide (fitV (addW a c) < fitV (addW b c)) = false := by have := add_mono c hxy; simp; omega
    have F2 : decide (fitV (halfW a c) < fitV (halfW b c)) = false := by have := half_mono c hxy; simp; omega
    have F3 : decide (fitV (subW c b) < fitV (subW c a)) = false := by have := sub_mono c hxy; simp; omega
    by_cases hc0 : c < 0
    · go_enter Try.func6, Try.ntmps6
      go_wp2_with (first | (go_at_call 30; first | (with_reducible refine Calls_past2 (lAwake2 _) (fun z => ?_)) | (with_reducible refine Calls_past (lAwake2 _) (fun z => ?_))) | (go_at_call 21; first | (with_reducible refine Calls_past2 (fAdd a c _ ha hc) (fun z => ?_)) | (with_reducible refine Calls_past (fAdd a c _ ha hc) (fun z => ?_))) | (go_at_call 21; first | (with_reducible refine Calls_past2 (fAdd b c _ hb hc) (fun z => ?_)) | (with_reducible refine Calls_past (fAdd b c _ hb hc) (fun z => ?_))) | (go_at_call 31; first | (with_reducible refine Calls_past2 (fHalf a c _ ha hc) (fun z => ?_)) | (with_reducible refine Calls_past (fHalf a c _ ha hc) (fun z => ?_))) | (go_at_call 31; first | (with_reducible refine Calls_past2 (fHalf b c _ hb hc) (fun z => ?_)) | (with_reducible refine Calls_past (fHalf b c _ hb hc) (fun z => ?_))) | (go_at_call 32; first | (with_reducible refine Calls_past2 (fSub c a _ hc ha) (fun z => ?_)) | (with_reducible refine Calls_past (fSub c a _ hc ha) (fun z => ?_))) | (go_at_call 32; first | (with_reducible refine Calls_past2 (fSub c b _ hc hb) (fun z => ?_)) | (with_reducible refine Calls_past (fSub c b _ hc hb) (fun z => ?_))) | (go_at_call 22; first | (with_reducible refine Calls_past2 (fMul a c _ ha hc) (fun z => ?_)) | (with_reducible refine Calls_past (fMul a c _ ha hc) (fun z => ?_))) | (go_at_call 22; first | (with_reducible refine Calls_past2 (fMul b c _ hb hc) (fun z => ?_)) | (with_reducible refine Calls_past (fMul b c _ hb hc) (fun z => ?_))) | (go_at_call 25; first | (with_reducible refine Calls_past2 (fDiv a c _ ha hc) (fun z => ?_)) | (with_reducible refine Calls_past (fDiv a c _ ha hc) (fun z => ?_))) | (go_at_call 25; first | (with_reducible refine Calls_past2 (fDiv b c _ hb hc) (fun z => ?_)) | (with_reducible refine Calls_past (fDiv b c _ hb hc) (fun z => ?_))))
      go_ret
      exact ⟨rfl, by (repeat (first | assumption | exact Below.refl _ _ | with_reducible refine past_t _ ?_ | with_reducible refine below_a _ ?_ | with_reducible refine Below.drew ?_ | with_reducible refine below_d _ ?_ | (with_reducible refine Below.setCell ?_ (by (show _ ≤ _; repeat (first | exact Nat.le_refl _ | with_reducible exact le_past (Nat.le_refl _) | with_reducible refine le_past ?_ | with_reducible refine le_al ?_ | with_reducible refine le_set ?_ | with_reducible refine le_p1 ?_))) _)))⟩
    · have F4 : decide (fitV (mulW b c) ≤ fitV (mulW a c)) = true := by have := mul_mono hxy (show 0 ≤ c by omega); simp; omega
      have F5 : decide (divV b c ≤ divV a c) = true := by have := div_mono hxy (show 0 ≤ c by omega); simp; omega
      go_enter Try.func6, Try.ntmps6
      go_wp2_with (first | (go_at_call 30; first | (with_reducible refine Calls_past2 (lAwake2 _) (fun z => ?_)) | (with_reducible refine Calls_past (lAwake2 _) (fun z => ?_))) | (go_at_call 21; first | (with_reducible refine Calls_past2 (fAdd a c _ ha hc) (fun z => ?_)) | (with_reducible refine Calls_past (fAdd a c _ ha hc) (fun z => ?_))) | (go_at_call 21; first | (with_reducible refine Calls_past2 (fAdd b c _ hb hc) (fun z => ?_)) | (with_reducible refine Calls_past (fAdd b c _ hb hc) (fun z => ?_))) | (go_at_call 31; first | (with_reducible refine Calls_past2 (fHalf a c _ ha hc) (fun z => ?_)) | (with_reducible refine Calls_past (fHalf a c _ ha hc) (fun z => ?_))) | (go_at_call 31; first | (with_reducible refine Calls_past2 (fHalf b c _ hb hc) (fun z => ?_)) | (with_reducible refine Calls_past (fHalf b c _ hb hc) (fun z => ?_))) | (go_at_call 32; first | (with_reducible refine Calls_past2 (fSub c a _ hc ha) (fun z => ?_)) | (with_reducible refine Calls_past (fSub c a _ hc ha) (fun z => ?_))) | (go_at_call 32; first | (with_reducible refine Calls_past2 (fSub c b _ hc hb) (fun z => ?_)) | (with_reducible refine Calls_past (fSub c b _ hc hb) (fun z => ?_))) | (go_at_call 22; first | (with_reducible refine Calls_past2 (fMul a c _ ha hc) (fun z => ?_)) | (with_reducible refine Calls_past (fMul a c _ ha hc) (fun z => ?_))) | (go_at_call 22; first | (with_reducible refine Calls_past2 (fMul b c _ hb hc) (fun z => ?_)) | (with_reducible refine Calls_past (fMul b c _ hb hc) (fun z => ?_))) | (go_at_call 25; first | (with_reducible refine Calls_past2 (fDiv a c _ ha hc) (fun z => ?_)) | (with_reducible refine Calls_past (fDiv a c _ ha hc) (fun z => ?_))) | (go_at_call 25; first | (with_reducible refine Calls_past2 (fDiv b c _ hb hc) (fun z => ?_)) | (with_reducible refine Calls_past (fDiv b c _ hb hc) (fun z => ?_))))
      go_ret
      exact ⟨rfl, by (repeat (first | assumption | exact Below.refl _ _ | with_reducible refine past_t _ ?_ | with_reducible refine below_a _ ?_ | with_reducible refine Below.drew ?_ | with_reducible refine below_d _ ?_ | (with_reducible refine Below.setCell ?_ (by (show _ ≤ _; repeat (first | exact Nat.le_refl _ | with_reducible exact le_past (Nat.le_refl _) | with_reducible refine le_past ?_ | with_reducible refine le_al ?_ | with_reducible refine le_set ?_ | with_reducible refine le_p1 ?_))) _)))⟩
  · have hxy : a ≤ b := by omega
    have F1 : decide (fitV (addW b c) < fitV (addW a c)) = false := by have := add_mono c hxy; simp; omega
    have F2 : decide (fitV (halfW b c) < fitV (halfW a c)) = false := by have := half_mono c hxy; simp; omega
    have F3 : decide (fitV (subW c a) < fitV (subW c b)) = false := by have := sub_mono c hxy; simp; omega
    by_cases hc0 : c < 0
    · go_enter Try.func6, Try.ntmps6
      go_wp2_with (first | (go_at_call 30; first | (with_reducible refine Calls_past2 (lAwake2 _) (fun z => ?_)) | (with_reducible refine Calls_past (lAwake2 _) (fun z => ?_))) | (go_at_call 21; first | (with_reducible refine Calls_past2 (fAdd a c _ ha hc) (fun z => ?_)) | (with_reducible refine Calls_past (fAdd a c _ ha hc) (fun z => ?_))) | (go_at_call 21; first | (with_reducible refine Calls_past2 (fAdd b c _ hb hc) (fun z => ?_)) | (with_reducible refine Calls_past (fAdd b c _ hb hc) (fun z => ?_))) | (go_at_call 31; first | (with_reducible refine Calls_past2 (fHalf a c _ ha hc) (fun z => ?_)) | (with_reducible refine Calls_past (fHalf a c _ ha hc) (fun z => ?_))) | (go_at_call 31; first | (with_reducible refine Calls_past2 (fHalf b c _ hb hc) (fun z => ?_)) | (with_reducible refine Calls_past (fHalf b c _ hb hc) (fun z => ?_))) | (go_at_call 32; first | (with_reducible refine Calls_past2 (fSub c a _ hc ha) (fun z => ?_)) | (with_reducible refine Calls_past (fSub c a _ hc ha) (fun z => ?_))) | (go_at_call 32; first | (with_reducible refine Calls_past2 (fSub c b _ hc hb) (fun z => ?_)) | (with_reducible refine Calls_past (fSub c b _ hc hb) (fun z => ?_))) | (go_at_call 22; first | (with_reducible refine Calls_past2 (fMul a c _ ha hc) (fun z => ?_)) | (with_reducible refine Calls_past (fMul a c _ ha hc) (fun z => ?_))) | (go_at_call 22; first | (with_reducible refine Calls_past2 (fMul b c _ hb hc) (fun z => ?_)) | (with_reducible refine Calls_past (fMul b c _ hb hc) (fun z => ?_))) | (go_at_call 25; first | (with_reducible refine Calls_past2 (fDiv a c _ ha hc) (fun z => ?_)) | (with_reducible refine Calls_past (fDiv a c _ ha hc) (fun z => ?_))) | (go_at_call 25; first | (with_reducible refine Calls_past2 (fDiv b c _ hb hc) (fun z => ?_)) | (with_reducible refine Calls_past (fDiv b c _ hb hc) (fun z => ?_))))
      go_ret
      exact ⟨rfl, by (repeat (first | assumption | exact Below.refl _ _ | with_reducible refine past_t _ ?_ | with_reducible refine below_a _ ?_ | with_reducible refine Below.drew ?_ | with_reducible refine below_d _ ?_ | (with_reducible refine Below.setCell ?_ (by (show _ ≤ _; repeat (first | exact Nat.le_refl _ | with_reducible exact le_past (Nat.le_refl _) | with_reducible refine le_past ?_ | with_reducible refine le_al ?_ | with_reducible refine le_set ?_ | with_reducible refine le_p1 ?_))) _)))⟩
    · have F4 : decide (fitV (mulW a c) ≤ fitV (mulW b c)) = true := by have := mul_mono hxy (show 0 ≤ c by omega); simp; omega
      have F5 : decide (divV a c ≤ divV b c) = true := by have := div_mono hxy (show 0 ≤ c by omega); simp; omega
      go_enter Try.func6, Try.ntmps6
      go_wp2_with (first | (go_at_call 30; first | (with_reducible refine Calls_past2 (lAwake2 _) (fun z => ?_)) | (with_reducible refine Calls_past (lAwake2 _) (fun z => ?_))) | (go_at_call 21; first | (with_reducible refine Calls_past2 (fAdd a c _ ha hc) (fun z => ?_)) | (with_reducible refine Calls_past (fAdd a c _ ha hc) (fun z => ?_))) | (go_at_call 21; first | (with_reducible refine Calls_past2 (fAdd b c _ hb hc) (fun z => ?_)) | (with_reducible refine Calls_past (fAdd b c _ hb hc) (fun z => ?_))) | (go_at_call 31; first | (with_reducible refine Calls_past2 (fHalf a c _ ha hc) (fun z => ?_)) | (with_reducible refine Calls_past (fHalf a c _ ha hc) (fun z => ?_))) | (go_at_call 31; first | (with_reducible refine Calls_past2 (fHalf b c _ hb hc) (fun z => ?_)) | (with_reducible refine Calls_past (fHalf b c _ hb hc) (fun z => ?_))) | (go_at_call 32; first | (with_reducible refine Calls_past2 (fSub c a _ hc ha) (fun z => ?_)) | (with_reducible refine Calls_past (fSub c a _ hc ha) (fun z => ?_))) | (go_at_call 32; first | (with_reducible refine Calls_past2 (fSub c b _ hc hb) (fun z => ?_)) | (with_reducible refine Calls_past (fSub c b _ hc hb) (fun z => ?_))) | (go_at_call 22; first | (with_reducible refine Calls_past2 (fMul a c _ ha hc) (fun z => ?_)) | (with_reducible refine Calls_past (fMul a c _ ha hc) (fun z => ?_))) | (go_at_call 22; first | (with_reducible refine Calls_past2 (fMul b c _ hb hc) (fun z => ?_)) | (with_reducible refine Calls_past (fMul b c _ hb hc) (fun z => ?_))) | (go_at_call 25; first | (with_reducible refine Calls_past2 (fDiv a c _ ha hc) (fun z => ?_)) | (with_reducible refine Calls_past (fDiv a c _ ha hc) (fun z => ?_))) | (go_at_call 25; first | (with_reducible refine Calls_past2 (fDiv b c _ hb hc) (fun z => ?_)) | (with_reducible refine Calls_past (fDiv b c _ hb hc) (fun z => ?_))))
      go_ret
      exact ⟨rfl, by (repeat (first | assumption | exact Below.refl _ _ | with_reducible refine past_t _ ?_ | with_reducible refine below_a _ ?_ | with_reducible refine Below.drew ?_ | with_reducible refine below_d _ ?_ | (with_reducible refine Below.setCell ?_ (by (show _ ≤ _; repeat (first | exact Nat.le_refl _ | with_reducible exact le_past (Nat.le_refl _) | with_reducible refine le_past ?_ | with_reducible refine le_al ?_ | with_reducible refine le_set ?_ | with_reducible refine le_p1 ?_))) _)))⟩
set_option maxRecDepth 100000 in
theorem lifted (os : Os) (started : os.Started) (H : Type) (enc : TypeId × Value → H) :
    ReturnsInHanded {} Try.checked os 6 .any (Rows.fixOrderSpec.pre6 enc Try.prog Try.f6 Rows.fixOrderRow.domain false) (Rows.fixOrderSpec.post enc Try.prog Try.f6 false true false false) := by
  refine returnsInHanded_of_change (C := Try.checked) own started (by kernel_rfl) Try.func6
    (ChangeSpec.witness6 (enc := enc) (C := Try.checked) false ⟨#[], #[.int .i64 0, .int .i64 0, .int .i64 0], []⟩ 8 (by kernel_rfl) (by kernel_rfl) (by kernel_rfl) (by kernel_rfl)) ?_
  intro W base args ds gs before hval0 hW hcnd _
  have hval : ∀ (j : Nat) t v, Try.f6.params[j]? = some t → args[j]? = some v → Value.okWide Try.prog W .any base t v := hval0
  have hW' := hW
  obtain ⟨p, q, hA0, hV, rfl, hfz, hnd⟩ := hW
  have hA : DataW.TrodAll enc Try.prog W 0 (fun _ => true) true Try.f6.params.toList args.toList ds p := hA0
  rw [Try.params6] at hA hval
  obtain ⟨v0, vs0, d0, ds0, p0, q0, hargs, rfl, rfl, h0, r0⟩ := trodAll_cons hA
  obtain ⟨v1, vs1, d1, ds1, p1, q1, rfl, rfl, rfl, h1, r1⟩ := trodAll_cons r0
  obtain ⟨v2, vs2, d2, ds2, p2, q2, rfl, rfl, rfl, h2, r2⟩ := trodAll_cons r1
  obtain ⟨rfl, rfl, rfl⟩ := trodAll_nil r2
  obtain rfl : args = #[v0, v1, v2] := by cases args; simp_all
  obtain ⟨rfl, rfl⟩ := trodVars_none hV
  obtain ⟨a, rfl, rfl, rfl, w0⟩ := open_int Try.underlying3 (hval 0 3 v0 rfl rfl) h0
  obtain ⟨b, rfl, rfl, rfl, w1⟩ := open_int Try.underlying3 (hval 1 3 v1 rfl rfl) h1
  obtain ⟨c, rfl, rfl, rfl, w2⟩ := open_int Try.underlying3 (hval 2 3 v2 rfl rfl) h2
  clear hA0 hval0
  refine (walk a w0 b w1 c w2 W).mono fun e W' ⟨he, bel⟩ => ?_
  subst he
  exact ⟨_, rfl, _, _, _, [], _, [], hW', trodAll_mk1 (shut_bool Try.underlying4 _), (trodAll_cons_mk (shut_int Try.underlying3 w0) (trodAll_cons_mk (shut_int Try.underlying3 w1) (trodAll_cons_mk (shut_int Try.underlying3 w2) trodAll_mk0))), rfl, bel.frame _, fun h => by cases h⟩
theorem over : Rows.fixOrderRow.holds Try.pinned (OpenSpec.ofChange Rows.fixOrderSpec) :=
  OpenClaim.holds_of_wide 6 Try.f6 rfl rfl rfl rfl rfl rfl rfl ⟨rfl, rfl, rfl, rfl, rfl⟩ rfl rfl rfl rfl rfl (by kernel_rfl) Try.func6 (by kernel_rfl)
    (of_decide_eq_true (by kernel_rfl)) (by unfold Func.isWrapper; first | (rw [if_pos (by decide +kernel)]; kernel_rfl) | (rw [if_neg (by decide +kernel)]; exact ⟨rfl, rfl⟩))
    (fun os started H enc _ => lifted os started H enc)
theorem proved : Rows.FixOrderSaid := over
#print axioms proved
end Go.Proofs.Ytijnillcklcgbaa.fixOrder
