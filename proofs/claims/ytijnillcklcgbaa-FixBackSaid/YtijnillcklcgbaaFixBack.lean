/- What was added is taken away again if nothing is cut; what was divided by a number and multiplied by it is as it was, but for its 2^33-rd part and one part at most. -/
import Derived.Test.YtijnillcklcgbaaFixP
import Derived.WalkKit
import Derived.ProofKit
import Derived.OpenShut
import Derived.ShutString
import Derived.ChangeOld
import Derived.Below
import Derived.Lib.SmallJoins
namespace Go.Proofs.Ytijnillcklcgbaa.fixBack
open Go.ChangeShapes Go.WideShapes Go.ChangeAt Go.RowKit
open Go.ChangeMaps (open_string shut_string)
open Go.Joins
set_option linter.unusedVariables false
theorem own : ownKnob Try.prog.godebug = none := by kernel_rfl
theorem laidOut : laidOutB Try.prog = true := by kernel_rfl
set_option maxHeartbeats 4000000 in
theorem walk (a : Int) (w0 : (Lit.int .i64 a).wf = true) (b : Int) (w1 : (Lit.int .i64 b).wf = true) (w : World) : -- the walk
    Calls Try.prog 7 #[.int .i64 a, .int .i64 b] w fun e w' => e = .returned (.bool true) ∧ Below w.heap.size w w' := by
  have ha := bounds_i64 w0
  have hb := bounds_i64 w1
  clear w0 w1
  by_cases h1 : a < -9223372036854775807
  · go_enter Try.func7, Try.ntmps7
    go_wp2_with (first | (go_at_call 30; first | (with_reducible refine Calls_past2 (lAwake2 _) (fun z => ?_)) | (with_reducible refine Calls_past (lAwake2 _) (fun z => ?_))))
    go_ret
    exact ⟨rfl, by (repeat (first | assumption | exact Below.refl _ _ | with_reducible refine past_t _ ?_ | with_reducible refine below_a _ ?_ | with_reducible refine Below.drew ?_ | with_reducible refine below_d _ ?_ | (with_reducible refine Below.setCell ?_ (by (show _ ≤ _; repeat (first | exact Nat.le_refl _ | with_reducible exact le_past (Nat.le_refl _) | with_reducible refine le_past ?_ | with_reducible refine le_al ?_ | with_reducible refine le_set ?_ | with_reducible refine le_p1 ?_))) _)))⟩
  by_cases h2 : b < -9223372036854775807
  · go_enter Try.func7, Try.ntmps7
    go_wp2_with (first | (go_at_call 30; first | (with_reducible refine Calls_past2 (lAwake2 _) (fun z => ?_)) | (with_reducible refine Calls_past (lAwake2 _) (fun z => ?_))))
    go_ret
    exact ⟨rfl, by (repeat (first | assumption | exact Below.refl _ _ | with_reducible refine past_t _ ?_ | with_reducible refine below_a _ ?_ | with_reducible refine Below.drew ?_ | with_reducible refine below_d _ ?_ | (with_reducible refine Below.setCell ?_ (by (show _ ≤ _; repeat (first | exact Nat.le_refl _ | with_reducible exact le_past (Nat.le_refl _) | with_reducible refine le_past ?_ | with_reducible refine le_al ?_ | with_reducible refine le_set ?_ | with_reducible refine le_p1 ?_))) _)))⟩
  have fa : InF a := ⟨by omega, by omega⟩
  have fb : InF b := ⟨by omega, by omega⟩
  -- the sum
  have hsum : ∃ (n : Int) (cut : Bool), (∀ w, Calls Try.prog 21 #[.int .i64 a, .int .i64 b] w fun e w' => e = .returned (.tuple #[.int .i64 n, .bool cut]) ∧ Below w.heap.size w w') ∧
      (cut = true ∨ cut = false ∧ ∀ w, Calls Try.prog 32 #[.int .i64 n, .int .i64 b] w fun e w' => e = .returned (.tuple #[.int .i64 a, .bool false]) ∧ Below w.heap.size w w') := by
    obtain ⟨c, hc⟩ : ∃ c, cutW (addW a b) a b = c := ⟨_, rfl⟩
    cases c
    · obtain ⟨e1, e2, e3, e4⟩ := back_sub fa fb hc
      refine ⟨a + b, false, fun w => ?_, .inr ⟨rfl, fun w => ?_⟩⟩
      · have := fAdd a b w ha hb
        rw [e1, hc] at this; exact this
      · have := fSub (a + b) b w ⟨by omega, by omega⟩ hb
        rw [e3, e4] at this; exact this
    · refine ⟨fitV (addW a b), true, fun w => ?_, .inl rfl⟩
      have := fAdd a b w ha hb
      rw [hc] at this; exact this
  have d0 : 0 ≤ dist b 0 ∧ dist b 0 ≤ 9223372036854775807 := by unfold dist; split <;> omega
  have hz := fun w => lApart b 0 w hb ⟨by omega, by omega⟩
  have hdiv : ∃ (q : Int) (far : Bool), (∀ w, Calls Try.prog 25 #[.int .i64 a, .int .i64 b] w fun e w' => e = .returned (.tuple #[.int .i64 q, .bool far]) ∧ Below w.heap.size w w') ∧
      (far = true ∨ far = false ∧ ∃ (m : Int) (was : Bool), (∀ w, Calls Try.prog 22 #[.int .i64 q, .int .i64 b] w fun e w' => e = .returned (.tuple #[.int .i64 m, .bool was]) ∧ Below w.heap.size w w') ∧
        (was = true ∨ was = false ∧ ∃ D, (∀ w, Calls Try.prog 33 #[.int .i64 m, .int .i64 a] w fun e w' => e = .returned (.int .u64 D) ∧ Below w.heap.size w w') ∧ decide (D ≤ dist b 0 / 8589934592 + 1) = true)) := by
    obtain ⟨c, hc⟩ : ∃ c, divC a b = c := ⟨_, rfl⟩
    cases c
    · obtain ⟨hz, e1, e2⟩ := divC_no fa fb hc
      refine ⟨divW a b, false, fun w => ?_, .inr ⟨rfl, fitV (mulW (divW a b) b), cutW (mulW (divW a b) b) (divW a b) b, fun w => fMul (divW a b) b w ⟨by omega, by omega⟩ hb, ?_⟩⟩
      · have := fDiv a b w ha hb
        rw [e1, hc] at this; exact this
      · have bd := fitV_bd (mulW (divW a b) b)
        obtain ⟨d, hd⟩ : ∃ d, cutW (mulW (divW a b) b) (divW a b) b = d := ⟨_, rfl⟩
        cases d
        · exact .inr ⟨hd, _, fun w => lApart _ a w ⟨by omega, by omega⟩ ha, by simpa using back_mul fa fb hz rfl e2 hd⟩
        · exact .inl hd
    · refine ⟨divV a b, true, fun w => ?_, .inl rfl⟩
      have := fDiv a b w ha hb
      rw [hc] at this; exact this
  obtain ⟨n, cut, hA, hS⟩ := hsum
  obtain ⟨q, far, hD, hF⟩ := hdiv
  obtain ⟨Z, hZ1⟩ : ∃ Z, dist b 0 = Z := ⟨_, rfl⟩
  rw [hZ1] at hz d0 hF
  clear hZ1
  rcases hS with rfl | ⟨rfl, hS⟩
  all_goals
    rcases hF with rfl | ⟨rfl, m, was, hM, rfl | ⟨rfl, D, hap, hd⟩⟩
  all_goals
    go_enter Try.func7, Try.ntmps7
    go_wp2_with (first | (go_at_call 30; first | (with_reducible refine Calls_past2 (lAwake2 _) (fun z => ?_)) | (with_reducible refine Calls_past (lAwake2 _) (fun z => ?_))) | (go_at_call 21; first | (with_reducible refine Calls_past2 (hA _) (fun z => ?_)) | (with_reducible refine Calls_past (hA _) (fun z => ?_))) | (go_at_call 32; first | (with_reducible refine Calls_past2 (hS _) (fun z => ?_)) | (with_reducible refine Calls_past (hS _) (fun z => ?_))) | (go_at_call 25; first | (with_reducible refine Calls_past2 (hD _) (fun z => ?_)) | (with_reducible refine Calls_past (hD _) (fun z => ?_))) | (go_at_call 22; first | (with_reducible refine Calls_past2 (hM _) (fun z => ?_)) | (with_reducible refine Calls_past (hM _) (fun z => ?_))) | (go_at_call 33; first | (with_reducible refine Calls_past2 (hap _) (fun z => ?_)) | (with_reducible refine Calls_past (hap _) (fun z => ?_))) | (go_at_call 33; first | (with_reducible refine Calls_past2 (hz _) (fun z => ?_)) | (with_reducible refine Calls_past (hz _) (fun z => ?_))))

    go_ret
    exact ⟨rfl, by (repeat (first | assumption | exact Below.refl _ _ | with_reducible refine past_t _ ?_ | with_reducible refine below_a _ ?_ | with_reducible refine Below.drew ?_ | with_reducible refine below_d _ ?_ | (with_reducible refine Below.setCell ?_ (by (show _ ≤ _; repeat (first | exact Nat.le_refl _ | with_reducible exact le_past (Nat.le_refl _) | with_reducible refine le_past ?_ | with_reducible refine le_al ?_ | with_reducible refine le_set ?_ | with_reducible refine le_p1 ?_))) _)))⟩
set_option maxRecDepth 100000 in
theorem lifted (os : Os) (started : os.Started) (H : Type) (enc : TypeId × Value → H) :
    ReturnsInHanded {} Try.checked os 7 .any (Rows.fixBackSpec.pre6 enc Try.prog Try.f7 Rows.fixBackRow.domain false) (Rows.fixBackSpec.post enc Try.prog Try.f7 false true false false) := by
  refine returnsInHanded_of_change (C := Try.checked) own started (by kernel_rfl) Try.func7
    (ChangeSpec.witness6 (enc := enc) (C := Try.checked) false ⟨#[], #[.int .i64 0, .int .i64 0], []⟩ 8 (by kernel_rfl) (by kernel_rfl) (by kernel_rfl) (by kernel_rfl)) ?_
  intro W base args ds gs before hval0 hW hcnd _
  have hval : ∀ (j : Nat) t v, Try.f7.params[j]? = some t → args[j]? = some v → Value.okWide Try.prog W .any base t v := hval0
  have hW' := hW
  obtain ⟨p, q, hA0, hV, rfl, hfz, hnd⟩ := hW
  have hA : DataW.TrodAll enc Try.prog W 0 (fun _ => true) true Try.f7.params.toList args.toList ds p := hA0
  rw [Try.params7] at hA hval
  obtain ⟨v0, vs0, d0, ds0, p0, q0, hargs, rfl, rfl, h0, r0⟩ := trodAll_cons hA
  obtain ⟨v1, vs1, d1, ds1, p1, q1, rfl, rfl, rfl, h1, r1⟩ := trodAll_cons r0
  obtain ⟨rfl, rfl, rfl⟩ := trodAll_nil r1
  obtain rfl : args = #[v0, v1] := by cases args; simp_all
  obtain ⟨rfl, rfl⟩ := trodVars_none hV
  obtain ⟨a, rfl, rfl, rfl, w0⟩ := open_int Try.underlying3 (hval 0 3 v0 rfl rfl) h0
  obtain ⟨b, rfl, rfl, rfl, w1⟩ := open_int Try.underlying3 (hval 1 3 v1 rfl rfl) h1
  clear hA0 hval0
  refine (walk a w0 b w1 W).mono fun e W' ⟨he, bel⟩ => ?_
  subst he
  exact ⟨_, rfl, _, _, _, [], _, [], hW', trodAll_mk1 (shut_bool Try.underlying4 _), (trodAll_cons_mk (shut_int Try.underlying3 w0) (trodAll_cons_mk (shut_int Try.underlying3 w1) trodAll_mk0)), rfl, bel.frame _, fun h => by cases h⟩
theorem over : Rows.fixBackRow.holds Try.pinned (OpenSpec.ofChange Rows.fixBackSpec) :=
  OpenClaim.holds_of_wide 7 Try.f7 rfl rfl rfl rfl rfl rfl rfl ⟨rfl, rfl, rfl, rfl, rfl⟩ rfl rfl rfl rfl rfl (by kernel_rfl) Try.func7 (by kernel_rfl)
    (of_decide_eq_true (by kernel_rfl)) (by unfold Func.isWrapper; first | (rw [if_pos (by decide +kernel)]; kernel_rfl) | (rw [if_neg (by decide +kernel)]; exact ⟨rfl, rfl⟩))
    (fun os started H enc _ => lifted os started H enc)
theorem proved : Rows.FixBackSaid := over
#print axioms proved
end Go.Proofs.Ytijnillcklcgbaa.fixBack
