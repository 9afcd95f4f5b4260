/- Ref1 -/
import Derived.Test.YtlhadociaekkhaaQA
namespace Go.Proofs.Ytlhadociaekkhaa
set_option linter.unusedVariables false
open Go.RowKit
set_option maxHeartbeats 400000 in
theorem rOf (n : Int) (w : World) (h1 : -9223372036854775808 ≤ n) (h2 : n ≤ 9223372036854775807) :
    Calls Try.prog 87 #[.int .i64 n] w fun e w' => e = .returned (WV n) ∧ Below w.heap.size w w' := by
  have hl := Lib.hid (wof_lo n)
  by_cases h : n < 0
  · have hh : Hid (whi n = -1) := by show whi n = -1; unfold whi; omega
    go_enter Try.func87, Try.ntmps87
    go_wp2
    exact bodyPost_ret (v := WV n) (by simp [results, Try.results87, go_sem, hl.out, hh.out]) rfl ⟨rfl, Below.one _ _⟩
  · have hh : Hid (whi n = 0) := by show whi n = 0; unfold whi; omega
    go_enter Try.func87, Try.ntmps87
    go_wp2
    exact bodyPost_ret (v := WV n) (by simp [results, Try.results87, go_sem, hh.out]; unfold wlo; omega) rfl ⟨rfl, Below.one _ _⟩
theorem radd_hi0 (x y : Int) (h : ¬ wlo (x + y) < wlo x) : wrap64 (IntKind.u64.wrap (IntKind.u64.wrap (whi x) + IntKind.u64.wrap (whi y))) = whi (x + y) := by
  rw [u64w, u64w, u64w]; unfold wrap64; unfold whi wlo at *; omega
theorem radd_hi1 (x y : Int) (h : wlo (x + y) < wlo x) : wrap64 (IntKind.u64.wrap (IntKind.u64.wrap (IntKind.u64.wrap (whi x) + IntKind.u64.wrap (whi y)) + 1)) = whi (x + y) := by
  rw [u64w, u64w, u64w, u64w]; unfold wrap64; unfold whi wlo at *; omega
set_option maxHeartbeats 400000 in
theorem rAdd (x y : Int) (w : World) :
    Calls Try.prog 86 #[WV x, WV y] w fun e w' => e = .returned (WV (x + y)) ∧ Below w.heap.size w w' := by
  have hl : IntKind.u64.wrap (wlo x + wlo y) = wlo (x + y) := by rw [u64w]; exact wadd_lo x y
  by_cases h : wlo (x + y) < wlo x
  · have hh := radd_hi1 x y h
    go_enter Try.func86, Try.ntmps86
    go_wp2
    exact bodyPost_ret (v := WV (x + y)) (by simp [results, Try.results86, go_sem, hh]) rfl ⟨rfl, b3 _ _ _ _ _ (Nat.le_refl _)⟩
  · have hh := radd_hi0 x y h
    go_enter Try.func86, Try.ntmps86
    go_wp2
    exact bodyPost_ret (v := WV (x + y)) (by simp [results, Try.results86, go_sem]) rfl ⟨rfl, b3 _ _ _ _ _ (Nat.le_refl _)⟩
set_option maxHeartbeats 400000 in
theorem rCmp (x y : Int) (w : World) (hx0 : -170141183460469231731687303715884105728 ≤ x) (hx : x < 170141183460469231731687303715884105728) (hy0 : -170141183460469231731687303715884105728 ≤ y) (hy : y < 170141183460469231731687303715884105728) :
    Calls Try.prog 115 #[WV x, WV y] w fun e w' => e = .returned (.int .i64 (cmpI x y)) ∧ Below w.heap.size w w' := by
  have hl := cmp_iff x y hx0 hx hy0 hy
  have Hl := Lib.hid hl; clear hl hx0 hx hy0 hy
  go_enter Try.func115, Try.ntmps115
  go_wp2
  all_goals (go_ret; refine ⟨ret_i ?_, b2 _ _ _⟩; have hl := Hl.out; clear Hl; unfold cmpI; simp only [hl.1, hl.2]; repeat (first | omega | split))
theorem one_wv : Value.agg #[.int .i64 0, .int .u64 1] = WV 1 := by
  have : whi 1 = 0 ∧ wlo 1 = 1 := by unfold whi wlo; omega
  rw [WV, this.1, this.2]
theorem rAdd1 (x : Int) (w : World) :
    Calls Try.prog 86 #[WV x, .agg #[.int .i64 0, .int .u64 1]] w fun e w' => e = .returned (WV (x + 1)) ∧ Below w.heap.size w w' := by
  rw [one_wv]; exact rAdd x 1 w
theorem rneg_hi (x : Int) : wrap64 (18446744073709551615 - IntKind.u64.wrap (whi x)) = whi (-x - 1) := by
  rw [u64w]; unfold wrap64 whi; omega
theorem rneg_lo (x : Int) : 18446744073709551615 - wlo x = wlo (-x - 1) := by unfold wlo; omega
set_option maxHeartbeats 400000 in
theorem rNeg (x : Int) (w : World) :
    Calls Try.prog 88 #[WV x] w fun e w' => e = .returned (WV (-x)) ∧ Below w.heap.size w w' := by
  have f3 := u64w_lo (whi x)
  have f4 := u64w_up (whi x)
  have g1 := wlo_lo x
  have g3 := wlo_up x
  go_enter Try.func88, Try.ntmps88
  go_wp2_with fail
  rw [rneg_hi, rneg_lo]
  refine (rAdd1 _ _).mono ?_
  rintro e w1 ⟨rfl, hb1⟩
  rw [show -x - 1 + 1 = -x from by omega]
  have k1 : w1.cell? ⟨w.heap.size + 1, 0, none⟩ = some (.int .i64 0) := cell_keep (by simp [go_sem]) hb1
  have k2 : w1.cell? ⟨w.heap.size + 1, 1, none⟩ = some (.int .u64 0) := cell_keep (by simp [go_sem]) hb1
  have f0 : w1.frozen? ⟨w.heap.size + 1, 0, none⟩ = false := ((bcell hb1).2 _ _ (by simp)).trans (by simp [go_sem])
  have f1 : w1.frozen? ⟨w.heap.size + 1, 1, none⟩ = false := ((bcell hb1).2 _ _ (by simp)).trans (by simp [go_sem])
  have B1 := Below.next (b2 _ _ _) hb1 (by simp; omega)
  go_wp2_with fail
  exact bodyPost_ret (v := WV (-x)) (by simp [results, Try.results88, go_sem, k1, k2]) rfl ⟨rfl, (B1.setCell (by simp) _).setCell (by simp) _⟩
theorem tw_2 (x : Int) : IntKind.u64.wrap (wlo (2 * x) + 1) = wlo (2 * x + 1) ∧ whi (2 * x) = whi (2 * x + 1) := by rw [u64w]; unfold whi wlo; omega
set_option maxHeartbeats 400000 in
theorem rTwice (x : Int) (b : Bool) (w : World) :
    Calls Try.prog 111 #[WV x, .bool b] w fun e w' => e = .returned (WV (incr b (2 * x))) ∧ Below w.heap.size w w' := by
  go_enter Try.func111, Try.ntmps111
  go_wp2_with fail
  refine (rAdd _ _ _).mono ?_
  rintro e w1 ⟨rfl, hb1⟩
  have k1 : w1.cell? ⟨w.heap.size + 1, 0, none⟩ = some (.int .i64 0) := cell_keep (by simp [go_sem]) hb1
  have k2 : w1.cell? ⟨w.heap.size + 1, 1, none⟩ = some (.int .u64 0) := cell_keep (by simp [go_sem]) hb1
  have f0 : w1.frozen? ⟨w.heap.size + 1, 0, none⟩ = false := ((bcell hb1).2 _ _ (by simp)).trans (by simp [go_sem])
  have f1 : w1.frozen? ⟨w.heap.size + 1, 1, none⟩ = false := ((bcell hb1).2 _ _ (by simp)).trans (by simp [go_sem])
  have z1 : w.heap.size + 1 < w1.heap.size := Nat.lt_of_lt_of_le (by simp) hb1.size
  have B1 := Below.next (b2 _ _ _) hb1 (by simp; omega)
  rw [show x + x = 2 * x from by omega]
  cases b with
  | true =>
    go_wp2_with fail
    exact bodyPost_ret (v := WV (2 * x + 1)) (by simp [results, Try.results111, go_sem, k1, k2, z1, tw_2 x]) rfl ⟨rfl, ((B1.setCell (by simp) _).setCell (by simp) _).alloc (by simp; omega) _⟩
  | false =>
    go_wp2_with fail
    exact bodyPost_ret (v := WV (2 * x)) (by simp [results, Try.results111, go_sem, k1, k2, z1]) rfl ⟨rfl, ((B1.setCell (by simp) _).setCell (by simp) _).alloc (by simp; omega) _⟩
-- bit
def bitB (x n : Int) : Bool := decide (x / 2 ^ n.toNat % 2 = 1)
theorem bit_even (k L p q : Int) (hp : 0 < p) (e : p * q = 18446744073709551616) (hq : q % 2 = 0) : (k * 18446744073709551616 + L) / p % 2 = L / p % 2 := by
  have : k * 18446744073709551616 + L = L + k * q * p := by rw [Int.mul_assoc, Int.mul_comm q p, e]; omega
  rw [this, Int.add_mul_ediv_right _ _ (by omega)]
  have h2 : k * q % 2 = 0 := by rw [Int.mul_emod, hq]; simp
  omega
theorem pow_even (n : Int) (h0 : 0 ≤ n) (h : n < 64) : (2 : Int) ^ (64 - n).toNat % 2 = 0 := by
  rw [show (64 - n).toNat = (63 - n).toNat + 1 from by omega, Int.pow_succ]; omega
theorem bit_lo (x n : Int) (h0 : 0 ≤ n) (h : n < 64) : wlo x / 2 ^ n.toNat % 2 = x / 2 ^ n.toNat % 2 := by
  have := bit_even (x / 18446744073709551616) (wlo x) (2 ^ n.toNat) (2 ^ (64 - n).toNat) (pw_pos _) (pw64 n h0 (by omega)) (pow_even n h0 h)
  rw [← this]
  congr 2
  unfold wlo; omega
theorem bit_hi (x n : Int) (h0 : 64 ≤ n) (h : n < 128) : IntKind.u64.wrap (whi x) / 2 ^ (n - 64).toNat % 2 = x / 2 ^ n.toNat % 2 := by
  have := bit_even (x / 340282366920938463463374607431768211456) (IntKind.u64.wrap (whi x)) (2 ^ (n - 64).toNat) (2 ^ (64 - (n - 64)).toNat) (pw_pos _) (pw64 (n - 64) (by omega) (by omega)) (pow_even (n - 64) (by omega) (by omega))
  rw [← this, pw_hi n h0, ← Int.ediv_ediv_of_nonneg (by omega)]
  congr 2
  rw [u64w]; unfold whi; omega
theorem beq_dec (a : Int) : (a == 1) = decide (a = 1) := rfl
set_option maxHeartbeats 400000 in
theorem rBit (x n : Int) (w : World) (h0 : 0 ≤ n) (h : n < 128) :
    Calls Try.prog 114 #[WV x, .int .i64 n] w fun e w' => e = .returned (.bool (bitB x n)) ∧ Below w.heap.size w w' := by
  have g1 := wlo_lo x
  have f3 := u64w_lo (whi x)
  by_cases hn : n < 64
  · have e := Lib.hid (bit_lo x n h0 hn)
    go_enter Try.func114, Try.ntmps114
    go_wp2_with fail
    go_ret
    refine ⟨ret_b ?_, Below.one _ _⟩
    rw [Int.tmod_eq_emod_of_nonneg (Int.ediv_nonneg g1 (Int.le_of_lt (pw_pos _))), e.out, beq_dec]; unfold bitB; rfl
  · have e := Lib.hid (bit_hi x n (by omega) h)
    go_enter Try.func114, Try.ntmps114
    go_wp2_with fail
    go_ret
    refine ⟨ret_b ?_, Below.one _ _⟩
    rw [Int.tmod_eq_emod_of_nonneg (Int.ediv_nonneg f3 (Int.le_of_lt (pw_pos _))), e.out, beq_dec]; unfold bitB; rfl
-- below
set_option maxHeartbeats 400000 in
theorem rBelow (x y : Int) (w : World) (hx0 : 0 ≤ x) (hx : x < 340282366920938463463374607431768211456) (hy0 : 0 ≤ y) (hy : y < 340282366920938463463374607431768211456) :
    Calls Try.prog 120 #[WV x, WV y] w fun e w' => e = .returned (.bool (decide (x < y))) ∧ Below w.heap.size w w' := by
  have hl : x < y ↔ (IntKind.u64.wrap (whi x) < IntKind.u64.wrap (whi y) ∨ (whi x = whi y ∧ wlo x < wlo y)) := by rw [u64w, u64w]; unfold whi wlo; omega
  have Hl := Lib.hid hl; clear hl hx0 hx hy0 hy
  go_enter Try.func120, Try.ntmps120
  go_wp2
  all_goals (go_ret; refine ⟨ret_b ?_, b2 _ _ _⟩)
  all_goals (have hl := Hl.out; clear Hl; first | (rw [decide_eq_decide, hl]; omega) | (symm; rw [decide_eq_true_iff, hl]; omega))
-- whole
set_option maxHeartbeats 400000 in
theorem rWhole (x : Int) (w : World) (hx0 : -170141183460469231731687303715884105728 ≤ x) (hx : x < 170141183460469231731687303715884105728) :
    Calls Try.prog 113 #[WV x] w fun e w' => e = .returned (WV (iabs x)) ∧ Below w.heap.size w w' := by
  have ho := of_neg x hx0 hx
  by_cases h : x < 0
  · have h2 : whi x < 0 := ho.2 h
    have H : Hid (iabs x = -x) := if_pos h
    clear h ho hx0 hx
    go_enter Try.func113, Try.ntmps113
    go_wp2_with fail
    refine (rNeg _ _).mono ?_
    rintro e w1 ⟨rfl, hb1⟩
    have k1 : w1.cell? ⟨w.heap.size + 1, 0, none⟩ = some (.int .i64 0) := cell_keep (by simp [go_sem]) hb1
    have k2 : w1.cell? ⟨w.heap.size + 1, 1, none⟩ = some (.int .u64 0) := cell_keep (by simp [go_sem]) hb1
    have f0 : w1.frozen? ⟨w.heap.size + 1, 0, none⟩ = false := ((bcell hb1).2 _ _ (by simp)).trans (by simp [go_sem])
    have f1 : w1.frozen? ⟨w.heap.size + 1, 1, none⟩ = false := ((bcell hb1).2 _ _ (by simp)).trans (by simp [go_sem])
    have B1 := Below.next (b2 _ _ _) hb1 (by simp; omega)
    go_wp2_with fail
    exact bodyPost_ret (v := WV (-x)) (by simp [results, Try.results113, go_sem, k1, k2]) rfl ⟨by rw [H.out], (B1.setCell (by simp) _).setCell (by simp) _⟩
  · have h2 : ¬ whi x < 0 := fun k => h (ho.1 k)
    have H : Hid (iabs x = x) := if_neg h
    clear h ho hx0 hx
    go_enter Try.func113, Try.ntmps113
    go_wp2
    exact bodyPost_ret (v := WV x) (by simp [results, Try.results113, go_sem]) rfl ⟨by rw [H.out], b2 _ _ _⟩
end Go.Proofs.Ytlhadociaekkhaa
