
import Derived.Test.YtlhadociaekkhaaGreatBits
import Derived.Test.YtlhadociaekkhaaGreatMath
namespace Go.Proofs.YtlhadociaekkhaaGreat
set_option linter.unusedVariables false
open Go.RowKit
abbrev WV (x : Int) : Value := .agg #[.int .i64 (whi x), .int .u64 (wlo x)]
attribute [go_sem] WV
theorem u64w (x : Int) : IntKind.u64.wrap x = x % 18446744073709551616 := by simp [IntKind.wrap, IntKind.bits, IntKind.signed]
theorem u64w_lo (x : Int) : 0 ≤ IntKind.u64.wrap x := by rw [u64w]; omega
theorem u64w_up (x : Int) : IntKind.u64.wrap x ≤ 18446744073709551615 := by rw [u64w]; omega
theorem b3 (B : Nat) (w : World) (a b c : Obj) (h : B ≤ w.heap.size) : Below B w (((w.alloc a).alloc b).alloc c) :=
  (((Below.refl _ _).alloc h a).alloc (by simp; omega) b).alloc (by simp; omega) c

theorem wadd_hi (x y : Int) : wrap64 ((IntKind.u64.wrap (whi x) + IntKind.u64.wrap (whi y) + (wlo x + wlo y) / 18446744073709551616) % 18446744073709551616) = whi (x + y) := by
  rw [u64w, u64w]; unfold wrap64 whi wlo; omega
theorem wadd_lo (x y : Int) : (wlo x + wlo y) % 18446744073709551616 = wlo (x + y) := by unfold wlo; omega
set_option maxHeartbeats 400000 in
theorem wAdd (x y : Int) (w : World) :
    Calls Tryz.prog 77 #[WV x, WV y] w fun e w' => e = .returned (WV (x + y)) ∧ Below w.heap.size w w' := by
  have ha := call_Add64
  have g1 := wlo_lo x
  have g2 := wlo_lo y
  have g3 := wlo_up x
  have g4 := wlo_up y
  have f1 : 0 ≤ (wlo x + wlo y) / 18446744073709551616 := by omega
  have f2 : (wlo x + wlo y) / 18446744073709551616 ≤ 1 := by omega
  have f3 := u64w_lo (whi x)
  have f4 := u64w_lo (whi y)
  go_enter Tryz.func77, Tryz.ntmps77
  go_wp2
  exact bodyPost_ret (v := WV (x + y)) (by simp [results, Tryz.results77, go_sem]; exact ⟨wadd_hi x y, wadd_lo x y⟩) rfl ⟨rfl, b3 _ _ _ _ _ (Nat.le_refl _)⟩

theorem wof_hi (n : Int) (h1 : -9223372036854775808 ≤ n) (h2 : n ≤ 9223372036854775807) : n / 9223372036854775808 = whi n := by unfold whi; omega
theorem wof_lo (n : Int) : IntKind.u64.wrap n = wlo n := by rw [u64w]; unfold wlo; rfl
set_option maxHeartbeats 400000 in
theorem wOf (n : Int) (w : World) (h1 : -9223372036854775808 ≤ n) (h2 : n ≤ 9223372036854775807) :
    Calls Tryz.prog 78 #[.int .i64 n] w fun e w' => e = .returned (WV n) ∧ Below w.heap.size w w' := by
  go_enter Tryz.func78, Tryz.ntmps78
  go_wp2
  exact bodyPost_ret (v := WV n) (by simp [results, Tryz.results78, go_sem]; exact ⟨wof_hi n h1 h2, wof_lo n⟩) rfl ⟨rfl, (Below.refl _ _).alloc (Nat.le_refl _) _⟩
theorem wneg_hi (x : Int) : wrap64 ((-IntKind.u64.wrap (whi x) - brw 0 (wlo x) 0) % 18446744073709551616) = whi (-x) := by
  rw [u64w]; unfold wrap64 whi wlo brw; split <;> omega
theorem wneg_lo (x : Int) : -wlo x % 18446744073709551616 = wlo (-x) := by unfold wlo; omega
set_option maxHeartbeats 400000 in
theorem wNeg (x : Int) (w : World) :
    Calls Tryz.prog 103 #[WV x] w fun e w' => e = .returned (WV (-x)) ∧ Below w.heap.size w w' := by
  have ha := call_Sub64
  have g1 := wlo_lo x
  have g3 := wlo_up x
  have f1 := brw_lo 0 (wlo x) 0
  have f2 := brw_up 0 (wlo x) 0
  have f3 := u64w_lo (whi x)
  have f4 := u64w_up (whi x)
  go_enter Tryz.func103, Tryz.ntmps103
  go_wp2
  exact bodyPost_ret (v := WV (-x)) (by simp [results, Tryz.results103, go_sem]; exact ⟨wneg_hi x, wneg_lo x⟩) rfl ⟨rfl, ((Below.refl _ _).alloc (Nat.le_refl _) _).alloc (by simp) _⟩
end Go.Proofs.YtlhadociaekkhaaGreat
