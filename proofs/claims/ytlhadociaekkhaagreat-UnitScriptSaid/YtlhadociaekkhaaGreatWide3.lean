
import Derived.Test.YtlhadociaekkhaaGreatWide2
import Derived.IntWalk
namespace Go.Proofs.YtlhadociaekkhaaGreat
set_option linter.unusedVariables false
open Go.RowKit
theorem b2 (w : World) (a b : Obj) : Below w.heap.size w ((w.alloc a).alloc b) := ((Below.refl _ _).alloc (Nat.le_refl _) a).alloc (by simp) b
theorem b2d (w : World) (a b : Obj) (n : Nat) : Below w.heap.size w (((w.alloc a).alloc b).drewN n) := by
  have h := b2 w a b
  exact ⟨h.os, h.tape, h.output, h.size, h.block⟩
-- next
def incr (b : Bool) (x : Int) : Int := if b = true then x + 1 else x
theorem nx_hi (x : Int) (h1 : x < 340282366920938463463374607431768211455) : IntKind.u64.wrap (shi x + (wlo x + 1) / 18446744073709551616) = shi (x + 1) := by
  rw [u64w]; unfold shi wlo; omega
theorem nx_lo (x : Int) : (wlo x + 1) % 18446744073709551616 = wlo (x + 1) := by unfold wlo; omega
set_option maxHeartbeats 400000 in
theorem wNext (x : Int) (b : Bool) (w : World) (h1 : x < 340282366920938463463374607431768211455) :
    Calls Tryz.prog 96 #[SV x, .bool b] w fun e w' => e = .returned (SV (incr b x)) ∧ Below w.heap.size w w' := by
  have ha := call_Add64
  have g1 := wlo_lo x
  cases b with
  | true =>
    go_enter Tryz.func96, Tryz.ntmps96
    go_wp2
    exact bodyPost_ret (v := SV (x + 1)) (by simp [results, Tryz.results96, go_sem]; exact ⟨nx_hi x h1, nx_lo x⟩) rfl ⟨rfl, b2 _ _ _⟩
  | false =>
    go_enter Tryz.func96, Tryz.ntmps96
    go_wp2
    exact bodyPost_ret (v := SV x) (by simp [results, Tryz.results96, go_sem]) rfl ⟨rfl, b2 _ _ _⟩
-- less
theorem less_iff (x y : Int) (hx0 : 0 ≤ x) (hx : x < 340282366920938463463374607431768211456) (hy0 : 0 ≤ y) (hy : y < 340282366920938463463374607431768211456) :
    x < y ↔ (shi x < shi y ∨ (shi x = shi y ∧ wlo x < wlo y)) := by unfold shi wlo; omega
set_option maxHeartbeats 400000 in
theorem wLess (x y : Int) (w : World) (hx0 : 0 ≤ x) (hx : x < 340282366920938463463374607431768211456) (hy0 : 0 ≤ y) (hy : y < 340282366920938463463374607431768211456) :
    Calls Tryz.prog 108 #[SV x, SV y] w fun e w' => e = .returned (.bool (decide (x < y))) ∧ Below w.heap.size w w' := by
  have hl := less_iff x y hx0 hx hy0 hy
  have Hl := Lib.hid hl; clear hl hx0 hx hy0 hy
  go_enter Tryz.func108, Tryz.ntmps108
  go_wp2
  all_goals (go_ret; refine ⟨ret_b ?_, b2 _ _ _⟩)
  all_goals (have hl := Hl.out; clear Hl; first | (rw [decide_eq_decide, hl]; omega) | (symm; rw [decide_eq_true_iff, hl]; omega))
-- without
theorem wo_hi (x y : Int) : (shi x - shi y - brw (wlo x) (wlo y) 0) % 18446744073709551616 = shi (x - y) := by
  unfold shi wlo brw; split <;> omega
theorem wo_lo (x y : Int) : (wlo x - wlo y) % 18446744073709551616 = wlo (x - y) := by unfold wlo; omega
set_option maxHeartbeats 400000 in
theorem wWithout (x y : Int) (w : World) :
    Calls Tryz.prog 98 #[SV x, SV y] w fun e w' => e = .returned (SV (x - y)) ∧ Below w.heap.size w w' := by
  have ha := call_Sub64
  have g1 := wlo_lo x
  have g2 := wlo_lo y
  have g3 := wlo_up x
  have g4 := wlo_up y
  have f1 := brw_lo (wlo x) (wlo y) 0
  have f2 := brw_up (wlo x) (wlo y) 0
  have g5 := shi_lo x
  have g6 := shi_lo y
  have g7 := shi_up x
  have g8 := shi_up y
  go_enter Tryz.func98, Tryz.ntmps98
  go_wp2
  exact bodyPost_ret (v := SV (x - y)) (by simp [results, Tryz.results98, go_sem]; exact ⟨wo_hi x y, wo_lo x y⟩) rfl ⟨rfl, b3 _ _ _ _ _ (Nat.le_refl _)⟩
-- down
theorem down_or (x n : Int) (hx0 : 0 ≤ x) (hx : x < 340282366920938463463374607431768211456) (h0 : 0 ≤ n) (hn : n < 64) :
    bits .or .u64 (wlo x / 2 ^ n.toNat) (IntKind.u64.wrap (shi x * 2 ^ (64 - n).toNat)) = wlo (x / 2 ^ n.toNat) := by
  obtain ⟨-, h1, h2, h3, h4⟩ := down_lo x (2 ^ n.toNat) (2 ^ (64 - n).toNat) (pw_pos _) (pw_pos _) (pw64 n h0 (by omega)) hx0 hx
  have a1 : wlo x / 2 ^ n.toNat ≤ wlo x := Int.ediv_le_self _ (wlo_lo x)
  have a2 := wlo_up x
  have a3 : 0 ≤ shi x % 2 ^ n.toNat := Int.emod_nonneg _ (by have := pw_pos n.toNat; omega)
  rw [u64w, u64_or _ _ h3 (by omega) (by omega) (by omega), or_join _ _ (2 ^ (64 - n).toNat) _ rfl h3 h2 _ a3 h4, h1]
set_option maxHeartbeats 400000 in
set_option maxRecDepth 100000 in
theorem wDown (x n : Int) (w : World) (hx0 : 0 ≤ x) (hx : x < 340282366920938463463374607431768211456) (h0 : 0 ≤ n) (h1 : n ≤ 127) :
    Calls Tryz.prog 95 #[SV x, .int .i64 n] w fun e w' => e = .returned (SV (x / 2 ^ n.toNat)) ∧ Below w.heap.size w w' := by
  have g1 := wlo_lo x
  have g3 := wlo_up x
  have g5 := shi_lo x
  have g7 := shi_up x
  by_cases hn : 64 ≤ n
  · have hd := down_hi x (2 ^ (n - 64).toNat) (pw_pos _) hx0 hx
    rw [← pw_hi n hn] at hd
    have Hd := Lib.hid hd; clear hd
    go_enter Tryz.func95, Tryz.ntmps95
    go_wp2
    exact bodyPost_ret (v := SV (x / 2 ^ n.toNat)) (by simp [results, Tryz.results95, go_sem]; exact ⟨Hd.out.1.symm, Hd.out.2⟩) rfl ⟨rfl, b2 _ _ _⟩
  · have hn' : n < 64 := by omega
    have h64 : n ≤ 64 := by omega
    have h64a : 0 ≤ 64 - n := by omega
    have e64 : IntKind.i64.wrap (64 - n) = 64 - n := IntWalk.i64_in _ (by omega)
    have hd := down_lo x (2 ^ n.toNat) (2 ^ (64 - n).toNat) (pw_pos _) (pw_pos _) (pw64 n h0 (by omega)) hx0 hx
    have Hd := Lib.hid hd; clear hd
    go_enter Tryz.func95, Tryz.ntmps95
    go_wp2
    obtain ⟨W, hW⟩ : ∃ W, W = (w.alloc (Obj.cells #[Value.int IntKind.u64 (shi x), Value.int IntKind.u64 (wlo x)] 80)).alloc (Obj.cells #[Value.int IntKind.u64 0, Value.int IntKind.u64 0] 80) := ⟨_, rfl⟩
    rw [← hW]
    have k1 : W.cell? ⟨w.heap.size, 0, none⟩ = some (.int .u64 (shi x)) := by rw [hW]; simp [go_sem]
    have k2 : W.cell? ⟨w.heap.size, 1, none⟩ = some (.int .u64 (wlo x)) := by rw [hW]; simp [go_sem]
    have HW := Lib.hid hW; clear hW
    go_still_tail 15, (by kernel_rfl)
    change wpList _ _ _ _ _ W.drew
    obtain rfl := HW.out
    clear k1 k2 HW
    go_wp2
    exact bodyPost_ret (v := SV (x / 2 ^ n.toNat)) (by simp [results, Tryz.results95, go_sem]; exact ⟨Hd.out.1, down_or x n hx0 hx h0 hn'⟩) rfl ⟨rfl, b2d _ _ _ 1⟩
-- up
theorem up_or (x n : Int) (h0 : 0 ≤ n) (hn : n < 64) :
    bits .or .u64 (IntKind.u64.wrap (shi x * 2 ^ n.toNat)) (wlo x / 2 ^ (64 - n).toNat) = shi (x * 2 ^ n.toNat) := by
  obtain ⟨h1, -, h2, h3, h4⟩ := up_lo x (2 ^ n.toNat) (2 ^ (64 - n).toNat) (pw_pos _) (pw_pos _) (pw64 n h0 (by omega))
  have a1 : wlo x / 2 ^ (64 - n).toNat ≤ wlo x := Int.ediv_le_self _ (wlo_lo x)
  have a2 := wlo_up x
  have a3 : 0 ≤ shi x % 2 ^ (64 - n).toNat := Int.emod_nonneg _ (by have := pw_pos (64 - n).toNat; omega)
  rw [u64w, u64_or _ _ (by omega) (by omega) h3 (by omega), Nat.or_comm, or_join _ _ (2 ^ n.toNat) _ rfl h3 h2 _ a3 h4, ← h1]; omega
set_option maxHeartbeats 400000 in
set_option maxRecDepth 100000 in
theorem wUp (x n : Int) (w : World) (h0 : 0 ≤ n) (h1 : n ≤ 127) :
    Calls Tryz.prog 99 #[SV x, .int .i64 n] w fun e w' => e = .returned (SV (x * 2 ^ n.toNat)) ∧ Below w.heap.size w w' := by
  have g1 := wlo_lo x
  have g3 := wlo_up x
  have g5 := shi_lo x
  have g7 := shi_up x
  by_cases hn : 64 ≤ n
  · have hd := up_hi x (2 ^ (n - 64).toNat)
    rw [← pw_hi n hn] at hd
    have Hd := Lib.hid hd; clear hd
    go_enter Tryz.func99, Tryz.ntmps99
    go_wp2
    exact bodyPost_ret (v := SV (x * 2 ^ n.toNat)) (by simp [results, Tryz.results99, go_sem]; exact ⟨(by rw [u64w]; exact Hd.out.1.symm), Hd.out.2.symm⟩) rfl ⟨rfl, b2 _ _ _⟩
  · have hn' : n < 64 := by omega
    have h64 : n ≤ 64 := by omega
    have h64a : 0 ≤ 64 - n := by omega
    have e64 : IntKind.i64.wrap (64 - n) = 64 - n := IntWalk.i64_in _ (by omega)
    have hd := up_lo x (2 ^ n.toNat) (2 ^ (64 - n).toNat) (pw_pos _) (pw_pos _) (pw64 n h0 (by omega))
    have Hd := Lib.hid hd; clear hd
    go_enter Tryz.func99, Tryz.ntmps99
    go_wp2
    obtain ⟨W, hW⟩ : ∃ W, W = (w.alloc (Obj.cells #[Value.int IntKind.u64 (shi x), Value.int IntKind.u64 (wlo x)] 80)).alloc (Obj.cells #[Value.int IntKind.u64 0, Value.int IntKind.u64 0] 80) := ⟨_, rfl⟩
    rw [← hW]
    have k1 : W.cell? ⟨w.heap.size, 0, none⟩ = some (.int .u64 (shi x)) := by rw [hW]; simp [go_sem]
    have k2 : W.cell? ⟨w.heap.size, 1, none⟩ = some (.int .u64 (wlo x)) := by rw [hW]; simp [go_sem]
    have HW := Lib.hid hW; clear hW
    go_still_tail 15, (by kernel_rfl)
    change wpList _ _ _ _ _ W.drew
    obtain rfl := HW.out
    clear k1 k2 HW
    go_wp2
    exact bodyPost_ret (v := SV (x * 2 ^ n.toNat)) (by simp [results, Tryz.results99, go_sem]; exact ⟨up_or x n h0 hn', (by rw [u64w]; exact Hd.out.2.1)⟩) rfl ⟨rfl, b2d _ _ _ 1⟩
-- Cmp
def cmpI (x y : Int) : Int := if x < y then -1 else if y < x then 1 else 0
theorem cmp_iff (x y : Int) (hx0 : -170141183460469231731687303715884105728 ≤ x) (hx : x < 170141183460469231731687303715884105728) (hy0 : -170141183460469231731687303715884105728 ≤ y) (hy : y < 170141183460469231731687303715884105728) :
    (x < y ↔ (whi x < whi y ∨ (whi x = whi y ∧ wlo x < wlo y))) ∧ (y < x ↔ (whi y < whi x ∨ (whi y = whi x ∧ wlo y < wlo x))) := by unfold whi wlo; omega
set_option maxHeartbeats 400000 in
theorem wCmp (x y : Int) (w : World) (hx0 : -170141183460469231731687303715884105728 ≤ x) (hx : x < 170141183460469231731687303715884105728) (hy0 : -170141183460469231731687303715884105728 ≤ y) (hy : y < 170141183460469231731687303715884105728) :
    Calls Tryz.prog 82 #[WV x, WV y] w fun e w' => e = .returned (.int .i64 (cmpI x y)) ∧ Below w.heap.size w w' := by
  have hl := cmp_iff x y hx0 hx hy0 hy
  have Hl := Lib.hid hl; clear hl hx0 hx hy0 hy
  go_enter Tryz.func82, Tryz.ntmps82
  go_wp2
  all_goals (go_ret; refine ⟨ret_i ?_, b2 _ _ _⟩; have hl := Hl.out; clear Hl; unfold cmpI; simp only [hl.1, hl.2]; repeat (first | omega | split))
end Go.Proofs.YtlhadociaekkhaaGreat
