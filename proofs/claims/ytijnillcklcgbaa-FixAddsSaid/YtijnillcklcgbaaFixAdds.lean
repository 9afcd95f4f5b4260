/- What two numbers come to by sums, differences, halves, and one by its negative, and whether that is cut: the program's answers are the reference's. -/
import Derived.Test.YtijnillcklcgbaaFixP
import Derived.Test.YtijnillcklcgbaaFix2
import Derived.WalkKit
import Derived.ProofKit
import Derived.OpenShut
import Derived.ShutString
import Derived.ChangeOld
import Derived.Below
import Derived.Lib.SmallJoins
namespace Go.Proofs.Ytijnillcklcgbaa.fixAdds
open Go.ChangeShapes Go.WideShapes Go.ChangeAt Go.RowKit
open Go.ChangeMaps (open_string shut_string)
open Go.Joins
set_option linter.unusedVariables false
theorem own : ownKnob Try.prog.godebug = none := by kernel_rfl
theorem laidOut : laidOutB Try.prog = true := by kernel_rfl
set_option maxHeartbeats 2000000 in
theorem walk (a : Int) (w0 : (Lit.int .i64 a).wf = true) (b : Int) (w1 : (Lit.int .i64 b).wf = true) (w : World) : -- the walk
    Calls Try.prog 8 #[.int .i64 a, .int .i64 b] w fun e w' => e = .returned (.bool true) ∧ Below w.heap.size w w' := by
  have ha := bounds_i64 w0
  have hb := bounds_i64 w1
  clear w0 w1
  have hsame : ∀ (n : Int) (c : Bool) (w : World), SaysTrue 29 #[.int .i64 n, .bool c, .int .i64 n, .bool c] w := by
    intro n c w
    go_enter Try.func29, Try.ntmps29
    go_wp2_with fail
    all_goals
      go_ret
      exact ⟨rfl, by (repeat (first | assumption | exact Below.refl _ _ | with_reducible refine past_t _ ?_ | with_reducible refine below_a _ ?_ | with_reducible refine Below.drew ?_ | with_reducible refine below_d _ ?_ | (with_reducible refine Below.setCell ?_ (by (show _ ≤ _; repeat (first | exact Nat.le_refl _ | with_reducible exact le_past (Nat.le_refl _) | with_reducible refine le_past ?_ | with_reducible refine le_al ?_ | with_reducible refine le_set ?_ | with_reducible refine le_p1 ?_))) _)))⟩
  go_enter Try.func8, Try.ntmps8
  go_wp2_with (first | (go_at_call 21; first | (with_reducible refine Calls_past2 (fAdd a b _ ha hb) (fun z => ?_)) | (with_reducible refine Calls_past (fAdd a b _ ha hb) (fun z => ?_))) | (go_at_call 34; first | (with_reducible refine Calls_past2 (rFAdd a b _ ha hb) (fun z => ?_)) | (with_reducible refine Calls_past (rFAdd a b _ ha hb) (fun z => ?_))) | (go_at_call 32; first | (with_reducible refine Calls_past2 (fSub a b _ ha hb) (fun z => ?_)) | (with_reducible refine Calls_past (fSub a b _ ha hb) (fun z => ?_))) | (go_at_call 35; first | (with_reducible refine Calls_past2 (rFSub a b _ ha hb) (fun z => ?_)) | (with_reducible refine Calls_past (rFSub a b _ ha hb) (fun z => ?_))) | (go_at_call 31; first | (with_reducible refine Calls_past2 (fHalf a b _ ha hb) (fun z => ?_)) | (with_reducible refine Calls_past (fHalf a b _ ha hb) (fun z => ?_))) | (go_at_call 36; first | (with_reducible refine Calls_past2 (rFHalf a b _ ha hb) (fun z => ?_)) | (with_reducible refine Calls_past (rFHalf a b _ ha hb) (fun z => ?_))) | (go_at_call 37; first | (with_reducible refine Calls_past2 (fNeg a _ ha) (fun z => ?_)) | (with_reducible refine Calls_past (fNeg a _ ha) (fun z => ?_))) | (go_at_call 38; first | (with_reducible refine Calls_past2 (rFNeg a _ ha) (fun z => ?_)) | (with_reducible refine Calls_past (rFNeg a _ ha) (fun z => ?_))) | (go_at_call 29; first | (with_reducible refine Calls_past2 (hsame _ _ _) (fun z => ?_)) | (with_reducible refine Calls_past (hsame _ _ _) (fun z => ?_))) | (go_at_call 30; first | (with_reducible refine Calls_past2 (lAwake2 _) (fun z => ?_)) | (with_reducible refine Calls_past (lAwake2 _) (fun z => ?_))))
  go_ret
  exact ⟨rfl, by (repeat (first | assumption | exact Below.refl _ _ | with_reducible refine past_t _ ?_ | with_reducible refine below_a _ ?_ | with_reducible refine Below.drew ?_ | with_reducible refine below_d _ ?_ | (with_reducible refine Below.setCell ?_ (by (show _ ≤ _; repeat (first | exact Nat.le_refl _ | with_reducible exact le_past (Nat.le_refl _) | with_reducible refine le_past ?_ | with_reducible refine le_al ?_ | with_reducible refine le_set ?_ | with_reducible refine le_p1 ?_))) _)))⟩
set_option maxRecDepth 100000 in
theorem lifted (os : Os) (started : os.Started) (H : Type) (enc : TypeId × Value → H) :
    ReturnsInHanded {} Try.checked os 8 .any (Rows.fixAddsSpec.pre6 enc Try.prog Try.f8 Rows.fixAddsRow.domain false) (Rows.fixAddsSpec.post enc Try.prog Try.f8 false true false false) := by
  refine returnsInHanded_of_change (C := Try.checked) own started (by kernel_rfl) Try.func8
    (ChangeSpec.witness6 (enc := enc) (C := Try.checked) false ⟨#[], #[.int .i64 0, .int .i64 0], []⟩ 8 (by kernel_rfl) (by kernel_rfl) (by kernel_rfl) (by kernel_rfl)) ?_
  intro W base args ds gs before hval0 hW hcnd _
  have hval : ∀ (j : Nat) t v, Try.f8.params[j]? = some t → args[j]? = some v → Value.okWide Try.prog W .any base t v := hval0
  have hW' := hW
  obtain ⟨p, q, hA0, hV, rfl, hfz, hnd⟩ := hW
  have hA : DataW.TrodAll enc Try.prog W 0 (fun _ => true) true Try.f8.params.toList args.toList ds p := hA0
  rw [Try.params8] at hA hval
  obtain ⟨v0, vs0, d0, ds0, p0, q0, hargs, rfl, rfl, h0, r0⟩ := trodAll_cons hA
  obtain ⟨v1, vs1, d1, ds1, p1, q1, rfl, rfl, rfl, h1, r1⟩ := trodAll_cons r0
  obtain ⟨rfl, rfl, rfl⟩ := trodAll_nil r1
  obtain rfl : args = #[v0, v1] := by cases args; simp_all
  obtain ⟨rfl, rfl⟩ := trodVars_none hV
  obtain ⟨a, rfl, rfl, rfl, w0⟩ := open_int Try.underlying3 (hval 0 3 v0 rfl rfl) h0
  obtain ⟨b, rfl, rfl, rfl, w1⟩ := open_int Try.underlying3 (hval 1 3 v1 rfl rfl) h1
  clear hA0 hval0
  refine (walk a w0 b w1 W).mono fun e W' ⟨he, bel⟩ => ?_
  subst he
  exact ⟨_, rfl, _, _, _, [], _, [], hW', trodAll_mk1 (shut_bool Try.underlying4 _), (trodAll_cons_mk (shut_int Try.underlying3 w0) (trodAll_cons_mk (shut_int Try.underlying3 w1) trodAll_mk0)), rfl, bel.frame _, fun h => by cases h⟩
theorem over : Rows.fixAddsRow.holds Try.pinned (OpenSpec.ofChange Rows.fixAddsSpec) :=
  OpenClaim.holds_of_wide 8 Try.f8 rfl rfl rfl rfl rfl rfl rfl ⟨rfl, rfl, rfl, rfl, rfl⟩ rfl rfl rfl rfl rfl (by kernel_rfl) Try.func8 (by kernel_rfl)
    (of_decide_eq_true (by kernel_rfl)) (by unfold Func.isWrapper; first | (rw [if_pos (by decide +kernel)]; kernel_rfl) | (rw [if_neg (by decide +kernel)]; exact ⟨rfl, rfl⟩))
    (fun os started H enc _ => lifted os started H enc)
theorem proved : Rows.FixAddsSaid := over
#print axioms proved
end Go.Proofs.Ytijnillcklcgbaa.fixAdds
