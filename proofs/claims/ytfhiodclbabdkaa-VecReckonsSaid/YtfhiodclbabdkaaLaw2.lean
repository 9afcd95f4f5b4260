/- The laws of fix: is, sum, half, times, over, awake, mirror, apart, and the chapter's examples. -/
import Derived.Test.YtfhiodclbabdkaaFix1
namespace Go.Proofs.Ytfhiodclbabdkaa
set_option linter.unusedVariables false
open Go.RowKit
abbrev SaysTrue (f : FuncId) (args : Array Value) (w : World) : Prop := Calls Try.prog f args w fun e w' => e = .returned (.bool true) ∧ Below w.heap.size w w'
theorem lIs2 (n : Int) (c : Bool) (w : World) : SaysTrue 51 #[.int .i64 n, .bool c, .int .i64 n, .bool c] w := by
  go_enter Try.func51, Try.ntmps51
  go_wp2_with fail
  all_goals
    go_ret
    exact ⟨rfl, by (repeat (first | assumption | exact Below.refl _ _ | with_reducible refine past_t _ ?_ | with_reducible refine below_a _ ?_ | with_reducible refine Below.drew ?_ | with_reducible refine below_d _ ?_ | (with_reducible refine Below.setCell ?_ (by (show _ ≤ _; repeat (first | exact Nat.le_refl _ | assumption | (omega; done) | with_reducible exact le_past (Nat.le_refl _) | with_reducible refine le_past ?_ | with_reducible refine le_al ?_ | with_reducible refine le_set ?_ | with_reducible refine le_p1 ?_))) _)))⟩
theorem lMirror (n m : Int) (c : Bool) (w : World) (hm : InF m) (h : n = -m) : SaysTrue 55 #[.int .i64 n, .bool c, .int .i64 m, .bool c] w := by
  obtain rfl := h
  go_enter Try.func55, Try.ntmps55
  go_wp2_with fail
  all_goals
    go_ret
    exact ⟨rfl, by (repeat (first | assumption | exact Below.refl _ _ | with_reducible refine past_t _ ?_ | with_reducible refine below_a _ ?_ | with_reducible refine Below.drew ?_ | with_reducible refine below_d _ ?_ | (with_reducible refine Below.setCell ?_ (by (show _ ≤ _; repeat (first | exact Nat.le_refl _ | assumption | (omega; done) | with_reducible exact le_past (Nat.le_refl _) | with_reducible refine le_past ?_ | with_reducible refine le_al ?_ | with_reducible refine le_set ?_ | with_reducible refine le_p1 ?_))) _)))⟩
theorem lSum (a b want : Int) (cut : Bool) (w : World) (ha : InI a) (hb : InI b) (h1 : fitV (addW a b) = want) (h2 : cutW (addW a b) a b = cut) :
    SaysTrue 56 #[.int .i64 a, .int .i64 b, .int .i64 want, .bool cut] w := by
  have h := fun w => fAdd a b w ha hb
  rw [h1, h2] at h
  clear h1 h2
  go_enter Try.func56, Try.ntmps56
  go_wp2_with (first | (go_at_call 43; first | (with_reducible refine Calls_past2 (h _) (fun z => ?_)) | (with_reducible refine Calls_past (h _) (fun z => ?_))) | (go_at_call 51; first | (with_reducible refine Calls_past2 (lIs2 want cut _) (fun z => ?_)) | (with_reducible refine Calls_past (lIs2 want cut _) (fun z => ?_))))
  go_ret
  exact ⟨rfl, by (repeat (first | assumption | exact Below.refl _ _ | with_reducible refine past_t _ ?_ | with_reducible refine below_a _ ?_ | with_reducible refine Below.drew ?_ | with_reducible refine below_d _ ?_ | (with_reducible refine Below.setCell ?_ (by (show _ ≤ _; repeat (first | exact Nat.le_refl _ | assumption | (omega; done) | with_reducible exact le_past (Nat.le_refl _) | with_reducible refine le_past ?_ | with_reducible refine le_al ?_ | with_reducible refine le_set ?_ | with_reducible refine le_p1 ?_))) _)))⟩
theorem lHalf (a b want : Int) (cut : Bool) (w : World) (ha : InI a) (hb : InI b) (h1 : fitV (halfW a b) = want) (h2 : cutW (halfW a b) a b = cut) :
    SaysTrue 52 #[.int .i64 a, .int .i64 b, .int .i64 want, .bool cut] w := by
  have h := fun w => fHalf a b w ha hb
  rw [h1, h2] at h
  clear h1 h2
  go_enter Try.func52, Try.ntmps52
  go_wp2_with (first | (go_at_call 47; first | (with_reducible refine Calls_past2 (h _) (fun z => ?_)) | (with_reducible refine Calls_past (h _) (fun z => ?_))) | (go_at_call 51; first | (with_reducible refine Calls_past2 (lIs2 want cut _) (fun z => ?_)) | (with_reducible refine Calls_past (lIs2 want cut _) (fun z => ?_))))
  go_ret
  exact ⟨rfl, by (repeat (first | assumption | exact Below.refl _ _ | with_reducible refine past_t _ ?_ | with_reducible refine below_a _ ?_ | with_reducible refine Below.drew ?_ | with_reducible refine below_d _ ?_ | (with_reducible refine Below.setCell ?_ (by (show _ ≤ _; repeat (first | exact Nat.le_refl _ | assumption | (omega; done) | with_reducible exact le_past (Nat.le_refl _) | with_reducible refine le_past ?_ | with_reducible refine le_al ?_ | with_reducible refine le_set ?_ | with_reducible refine le_p1 ?_))) _)))⟩
theorem lTimes (a b want : Int) (cut : Bool) (w : World) (ha : InI a) (hb : InI b) (h1 : fitV (mulW a b) = want) (h2 : cutW (mulW a b) a b = cut) :
    SaysTrue 53 #[.int .i64 a, .int .i64 b, .int .i64 want, .bool cut] w := by
  have h := fun w => fMul a b w ha hb
  rw [h1, h2] at h
  clear h1 h2
  go_enter Try.func53, Try.ntmps53
  go_wp2_with (first | (go_at_call 35; first | (with_reducible refine Calls_past2 (h _) (fun z => ?_)) | (with_reducible refine Calls_past (h _) (fun z => ?_))) | (go_at_call 51; first | (with_reducible refine Calls_past2 (lIs2 want cut _) (fun z => ?_)) | (with_reducible refine Calls_past (lIs2 want cut _) (fun z => ?_))))
  go_ret
  exact ⟨rfl, by (repeat (first | assumption | exact Below.refl _ _ | with_reducible refine past_t _ ?_ | with_reducible refine below_a _ ?_ | with_reducible refine Below.drew ?_ | with_reducible refine below_d _ ?_ | (with_reducible refine Below.setCell ?_ (by (show _ ≤ _; repeat (first | exact Nat.le_refl _ | assumption | (omega; done) | with_reducible exact le_past (Nat.le_refl _) | with_reducible refine le_past ?_ | with_reducible refine le_al ?_ | with_reducible refine le_set ?_ | with_reducible refine le_p1 ?_))) _)))⟩
theorem lOver (a b want : Int) (cut : Bool) (w : World) (ha : InI a) (hb : InI b) (h1 : divV a b = want) (h2 : divC a b = cut) :
    SaysTrue 54 #[.int .i64 a, .int .i64 b, .int .i64 want, .bool cut] w := by
  have h := fun w => fDiv a b w ha hb
  rw [h1, h2] at h
  clear h1 h2
  go_enter Try.func54, Try.ntmps54
  go_wp2_with (first | (go_at_call 37; first | (with_reducible refine Calls_past2 (h _) (fun z => ?_)) | (with_reducible refine Calls_past (h _) (fun z => ?_))) | (go_at_call 51; first | (with_reducible refine Calls_past2 (lIs2 want cut _) (fun z => ?_)) | (with_reducible refine Calls_past (lIs2 want cut _) (fun z => ?_))))
  go_ret
  exact ⟨rfl, by (repeat (first | assumption | exact Below.refl _ _ | with_reducible refine past_t _ ?_ | with_reducible refine below_a _ ?_ | with_reducible refine Below.drew ?_ | with_reducible refine below_d _ ?_ | (with_reducible refine Below.setCell ?_ (by (show _ ≤ _; repeat (first | exact Nat.le_refl _ | assumption | (omega; done) | with_reducible exact le_past (Nat.le_refl _) | with_reducible refine le_past ?_ | with_reducible refine le_al ?_ | with_reducible refine le_set ?_ | with_reducible refine le_p1 ?_))) _)))⟩
theorem lAwake2 (w : World) : SaysTrue 42 #[] w := by
  go_enter Try.func42, Try.ntmps42
  go_wp2_with (first | (go_at_call 56; first | (with_reducible refine Calls_past2 (lSum 4294967296 4294967296 8589934592 false _ (by omega) (by omega) (by decide) (by decide)) (fun z => ?_)) | (with_reducible refine Calls_past (lSum 4294967296 4294967296 8589934592 false _ (by omega) (by omega) (by decide) (by decide)) (fun z => ?_))) | (go_at_call 56; first | (with_reducible refine Calls_past2 (lSum 9223372036854775807 1 9223372036854775807 true _ (by omega) (by omega) (by decide) (by decide)) (fun z => ?_)) | (with_reducible refine Calls_past (lSum 9223372036854775807 1 9223372036854775807 true _ (by omega) (by omega) (by decide) (by decide)) (fun z => ?_))) | (go_at_call 52; first | (with_reducible refine Calls_past2 (lHalf 1 2 2 false _ (by omega) (by omega) (by decide) (by decide)) (fun z => ?_)) | (with_reducible refine Calls_past (lHalf 1 2 2 false _ (by omega) (by omega) (by decide) (by decide)) (fun z => ?_))) | (go_at_call 53; first | (with_reducible refine Calls_past2 (lTimes 2147483648 2147483648 1073741824 false _ (by omega) (by omega) (by decide) (by decide)) (fun z => ?_)) | (with_reducible refine Calls_past (lTimes 2147483648 2147483648 1073741824 false _ (by omega) (by omega) (by decide) (by decide)) (fun z => ?_))) | (go_at_call 54; first | (with_reducible refine Calls_past2 (lOver 4294967296 12884901888 1431655765 false _ (by omega) (by omega) (by decide) (by decide)) (fun z => ?_)) | (with_reducible refine Calls_past (lOver 4294967296 12884901888 1431655765 false _ (by omega) (by omega) (by decide) (by decide)) (fun z => ?_))))
  go_ret
  exact ⟨rfl, by (repeat (first | assumption | exact Below.refl _ _ | with_reducible refine past_t _ ?_ | with_reducible refine below_a _ ?_ | with_reducible refine Below.drew ?_ | with_reducible refine below_d _ ?_ | (with_reducible refine Below.setCell ?_ (by (show _ ≤ _; repeat (first | exact Nat.le_refl _ | assumption | (omega; done) | with_reducible exact le_past (Nat.le_refl _) | with_reducible refine le_past ?_ | with_reducible refine le_al ?_ | with_reducible refine le_set ?_ | with_reducible refine le_p1 ?_))) _)))⟩
def dist (a b : Int) : Int := if b < a then a - b else b - a
end Go.Proofs.Ytfhiodclbabdkaa
