
import Derived.Test.YtlhadociaekkhaaGreatWide
import Derived.StillTailTactics
import Derived.Deep.QuietTactic
import Derived.BigQuiet
import Derived.Lib.Hide
namespace Go.Proofs.YtlhadociaekkhaaGreat
set_option linter.unusedVariables false
open Go.RowKit
abbrev SV (x : Int) : Value := .agg #[.int .u64 (shi x), .int .u64 (wlo x)]
attribute [go_sem] SV
theorem ret_i {k : IntKind} {a b : Int} (h : a = b) : Ending.returned (.int k a) = .returned (.int k b) := by rw [h]
theorem ret_b {a b : Bool} (h : a = b) : Ending.returned (.bool a) = .returned (.bool b) := by rw [h]
theorem bcell {W w1 : World} (hb : Below W.heap.size W w1) : (∀ b o, b < W.heap.size → w1.cell? ⟨b, o, none⟩ = W.cell? ⟨b, o, none⟩) ∧ (∀ b o, b < W.heap.size → w1.frozen? ⟨b, o, none⟩ = W.frozen? ⟨b, o, none⟩) :=
  ⟨fun b o h => hb.cell (p := ⟨b, o, none⟩) h, fun b o h => hb.frozen (p := ⟨b, o, none⟩) h⟩
/-- far, sizes -/
def iabs (n : Int) : Int := if n < 0 then -n else n
theorem far_neg (n : Int) (h1 : -9223372036854775808 ≤ n) (h : n < 0) : IntKind.u64.wrap (-IntKind.u64.wrap n) = iabs n := by rw [u64w, u64w]; unfold iabs; rw [if_pos h]; omega
set_option maxHeartbeats 400000 in
theorem wFar (n : Int) (w : World) (h1 : -9223372036854775808 ≤ n) (h2 : n ≤ 9223372036854775807) :
    Calls Tryz.prog 104 #[.int .i64 n] w fun e w' => e = .returned (.int .u64 (iabs n)) ∧ w = w' := by
  go_enter Tryz.func104, Tryz.ntmps104
  go_wp2
  · go_ret; exact ⟨ret_i (far_neg n h1 ‹_›), rfl⟩
  · go_ret; exact ⟨ret_i (by unfold iabs; rw [if_neg (by omega)]), rfl⟩
set_option maxHeartbeats 400000 in
theorem wSizes (a b : Int) (w : World) (h1 : -9223372036854775808 ≤ a) (h2 : a ≤ 9223372036854775807) (h3 : -9223372036854775808 ≤ b) (h4 : b ≤ 9223372036854775807) :
    Calls Tryz.prog 84 #[.int .i64 a, .int .i64 b] w fun e w' => e = .returned (.tuple #[.int .u64 (iabs a), .int .u64 (iabs b)]) ∧ w = w' := by
  go_enter Tryz.func84, Tryz.ntmps84
  go_wp2_with (go_at_call 104; refine (wFar _ _ (by assumption) (by assumption)).mono ?_; rintro e w' ⟨rfl, rfl⟩)
  go_ret2
  exact ⟨rfl, rfl⟩
/-- signed -/
def sgn (b : Bool) (x : Int) : Int := if b = true then -x else x
theorem sg_hi (x : Int) (h0 : 0 ≤ x) (h1 : x < 340282366920938463463374607431768211456) : wrap64 (shi x) = whi x := by unfold wrap64 shi whi; omega
set_option maxHeartbeats 400000 in
theorem wSigned (x : Int) (b : Bool) (w : World) (h0 : 0 ≤ x) (h1 : x < 340282366920938463463374607431768211456) :
    Calls Tryz.prog 85 #[SV x, .bool b] w fun e w' => e = .returned (WV (sgn b x)) ∧ Below w.heap.size w w' := by
  have hz := sg_hi x h0 h1
  have Hz := Lib.hid hz; clear hz
  cases b with
  | true =>
    go_enter Tryz.func85, Tryz.ntmps85
    go_wp2_with fail
    rw [Hz.out]
    refine (wNeg _ _).mono ?_
    rintro e w' ⟨rfl, hb⟩
    obtain ⟨hc, hf⟩ := bcell hb
    go_wp2
    exact bodyPost_ret (v := WV (-x)) (by simp [results, Tryz.results85, go_sem, hc]) rfl ⟨rfl, (((b3 _ _ _ _ _ (Nat.le_refl _)).trans (hb.mono (by simp; omega))).setCell (by simp) _).setCell (by simp) _⟩
  | false =>
    go_enter Tryz.func85, Tryz.ntmps85
    go_wp2
    exact bodyPost_ret (v := WV x) (by simp [results, Tryz.results85, go_sem]; exact Hz.out) rfl ⟨rfl, b3 _ _ _ _ _ (Nat.le_refl _)⟩
end Go.Proofs.YtlhadociaekkhaaGreat
