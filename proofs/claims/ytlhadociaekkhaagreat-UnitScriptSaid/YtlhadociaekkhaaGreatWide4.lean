
import Derived.Test.YtlhadociaekkhaaGreatWide3
import Derived.Deep.RegionWith
import Derived.Deep.RegionHeld3
namespace Go.Proofs.YtlhadociaekkhaaGreat
set_option linter.unusedVariables false
open Go.RowKit
theorem ret_ii {k l : IntKind} {a b c d : Int} (h : a = c) (g : b = d) : Ending.returned (.tuple #[.int k a, .int l b]) = .returned (.tuple #[.int k c, .int l d]) := by rw [h, g]
-- math/bits.Mul64
set_option maxHeartbeats 400000 in
theorem bMul (x y : Int) (w : World) (hx0 : 0 ≤ x) (hx : x ≤ 18446744073709551615) (hy0 : 0 ≤ y) (hy : y ≤ 18446744073709551615) :
    Calls Tryz.prog 83 #[.int .u64 x, .int .u64 y] w fun e w' => e = .returned (.tuple #[.int .u64 (shi (x * y)), .int .u64 (wlo (x * y))]) ∧ w = w' := by
  go_enter Tryz.func83, Tryz.ntmps83
  go_wp2
  go_ret2
  refine ⟨ret_ii ?_ (by rw [u64w]; unfold wlo; rfl), rfl⟩
  have e1 := and_low32 x hx0 (by omega)
  have e2 := and_low32 y hy0 (by omega)
  have e3 := fun z : Int => and_low32 (z % 18446744073709551616) (by omega) (by omega)
  simp only [u64w, e1, e2, e3]
  rw [mul64_arith x y hx0 (by omega) hy0 (by omega)]
  have h : x * y ≤ 18446744073709551615 * 18446744073709551615 := Int.mul_le_mul hx hy hy0 (by omega)
  have h0 := Int.mul_nonneg hx0 hy0
  unfold shi; omega
-- nearer
theorem odd_lo (q : Int) : (bits .and .u64 (wlo q) 1 == 1) = decide (q % 2 = 1) := by
  have h : bits .and .u64 (wlo q) 1 = q % 2 := by
    have := wlo_lo q
    have := wlo_up q
    rw [and_one_u64 (wlo q) (by omega) (by omega)]; unfold wlo; omega
  rw [h]; rfl
def near (q r d : Int) : Bool := decide (d - r < r ∨ d - r = r ∧ q % 2 = 1)
theorem near_eq (r d : Int) (hr0 : 0 ≤ r) (hr : r < d) (hd : d ≤ 170141183460469231731687303715884105728) : d - r = r ↔ (shi (d - r) = shi r ∧ wlo (d - r) = wlo r) := by
  unfold shi wlo; omega
set_option maxHeartbeats 400000 in
theorem wNearer (q r d : Int) (w : World) (hr0 : 0 ≤ r) (hr : r < d) (hd : d ≤ 170141183460469231731687303715884105728) :
    Calls Tryz.prog 97 #[SV q, SV r, SV d] w fun e w' => e = .returned (.bool (near q r d)) ∧ Below w.heap.size w w' := by
  have HE : Hid _ := Lib.hid (near_eq r d hr0 hr hd)
  go_enter Tryz.func97, Tryz.ntmps97
  go_wp2_with fail
  refine (wWithout d r _).mono ?_
  rintro e w1 ⟨rfl, hb1⟩
  obtain ⟨hc, hf⟩ := bcell hb1
  have k1 : w1.cell? ⟨w.heap.size, 1, none⟩ = some (.int .u64 (wlo q)) := by rw [hc _ _ (by simp; omega)]; simp [go_sem]
  have k2 : w1.cell? ⟨w.heap.size + 1, 0, none⟩ = some (.int .u64 (shi r)) := by rw [hc _ _ (by simp)]; simp [go_sem]
  have k3 : w1.cell? ⟨w.heap.size + 1, 1, none⟩ = some (.int .u64 (wlo r)) := by rw [hc _ _ (by simp)]; simp [go_sem]
  have hb := (b3 _ _ _ _ _ (Nat.le_refl _)).trans (hb1.mono (by simp; omega))
  have hs := hb1.size
  simp at hs
  have z1 : w.heap.size < w1.heap.size := by omega
  have z2 : w.heap.size + 1 < w1.heap.size := by omega
  clear hc hf hb1
  go_wp2_with fail
  refine (wLess (d - r) r _ ?_ ?_ hr0 ?_).mono ?_
  any_goals omega
  rintro e w2 ⟨rfl, hb2⟩
  obtain ⟨hc, hf⟩ := bcell hb2
  have j1 : w2.cell? ⟨w.heap.size, 1, none⟩ = some (.int .u64 (wlo q)) := by rw [hc _ _ (by simp; omega)]; simp [go_sem, k1, z1]
  have j2 : w2.cell? ⟨w.heap.size + 1, 0, none⟩ = some (.int .u64 (shi r)) := by rw [hc _ _ (by simp; omega)]; simp [go_sem, k2, z2]
  have j3 : w2.cell? ⟨w.heap.size + 1, 1, none⟩ = some (.int .u64 (wlo r)) := by rw [hc _ _ (by simp; omega)]; simp [go_sem, k3, z2]
  have j4 : w2.cell? ⟨w1.heap.size, 0, none⟩ = some (.int .u64 (shi (d - r))) := by rw [hc _ _ (by simp)]; simp [go_sem]
  have j5 : w2.cell? ⟨w1.heap.size, 1, none⟩ = some (.int .u64 (wlo (d - r))) := by rw [hc _ _ (by simp)]; simp [go_sem]
  have hb3 := (hb.alloc (by omega) _).trans (hb2.mono (by simp; omega))
  clear hc hf hb2
  go_wp2_with fail
  all_goals (go_ret; refine ⟨ret_b ?_, hb3⟩; have E := HE.out; unfold near; first | rfl | (symm; rw [decide_eq_true_iff]; omega) | (rw [odd_lo, ← Bool.decide_or, decide_eq_decide]; omega) | (rw [decide_eq_decide]; omega))
-- of
theorem of_neg (x : Int) (hx0 : -170141183460469231731687303715884105728 ≤ x) (hx : x < 170141183460469231731687303715884105728) : (whi x < 0 ↔ x < 0) := by unfold whi; omega
theorem of_hi2 (x : Int) (h : -170141183460469231731687303715884105728 ≤ x) (h2 : x < 0) : IntKind.u64.wrap (whi (-x)) = shi (-x) := by rw [u64w]; unfold whi shi; omega
theorem of_hi (x : Int) (h : 0 ≤ x) : IntKind.u64.wrap (whi x) = shi x := by rw [u64w]; unfold whi shi; omega
set_option maxHeartbeats 400000 in
theorem wof (x : Int) (w : World) (hx0 : -170141183460469231731687303715884105728 ≤ x) (hx : x < 170141183460469231731687303715884105728) :
    Calls Tryz.prog 94 #[WV x] w fun e w' => e = .returned (.tuple #[SV (iabs x), .bool (decide (x < 0))]) ∧ Below w.heap.size w w' := by
  have hx0' := Lib.hid hx0
  have ho := of_neg x hx0 hx
  by_cases h : x < 0
  · have h2 : whi x < 0 := ho.2 h
    have H := Lib.hid h; clear h ho hx0 hx
    go_enter Tryz.func94, Tryz.ntmps94
    go_wp2_with fail
    refine (wNeg _ _).mono ?_
    rintro e w' ⟨rfl, hb⟩
    obtain ⟨hc, hf⟩ := bcell hb
    have k1 : w'.cell? ⟨w.heap.size, 0, none⟩ = some (.int .i64 (whi x)) := by rw [hc _ _ (by simp; omega)]; simp [go_sem]
    have k2 : w'.cell? ⟨w.heap.size, 1, none⟩ = some (.int .u64 (wlo x)) := by rw [hc _ _ (by simp; omega)]; simp [go_sem]
    have k3 : w'.cell? ⟨w.heap.size + 1, 0, none⟩ = some (.int .u64 0) := by rw [hc _ _ (by simp)]; simp [go_sem]
    have k4 : w'.cell? ⟨w.heap.size + 1, 1, none⟩ = some (.int .u64 0) := by rw [hc _ _ (by simp)]; simp [go_sem]
    go_wp2
    exact bodyPost_ret (v := .tuple #[SV (iabs x), .bool (decide (x < 0))]) (by have h := H.out; rw [show iabs x = -x from if_pos h, show decide (x < 0) = true from decide_eq_true h]; simp [results, Tryz.results94, go_sem, k3, k4, of_hi2 x hx0'.out h]) rfl ⟨rfl, ((((((b2 _ _ _).trans (hb.mono (by simp; omega))).setCell (by simp) _).setCell (by simp) _).setCell (by simp) _).setCell (by simp) _)⟩
  · have h2 : ¬ whi x < 0 := fun k => h (ho.1 k)
    have H := Lib.hid h; clear h ho hx0 hx
    go_enter Tryz.func94, Tryz.ntmps94
    go_wp2
    exact bodyPost_ret (v := .tuple #[SV (iabs x), .bool (decide (x < 0))]) (by have h := H.out; rw [show iabs x = x from if_neg (by omega), show decide (x < 0) = false from decide_eq_false (by omega)]; simp [results, Tryz.results94, go_sem, of_hi x (by omega)]) rfl ⟨rfl, b2 _ _ _⟩
-- Mul
theorem mul_sign (a b : Int) : sgn (!decide (a < 0) == decide (b < 0)) (iabs a * iabs b) = a * b := by
  unfold iabs sgn
  by_cases ha : a < 0 <;> by_cases hb : b < 0 <;> simp [ha, hb, Int.neg_mul, Int.mul_neg]
set_option maxHeartbeats 400000 in
theorem wMul (a b : Int) (w : World) (h1 : -9223372036854775808 ≤ a) (h2 : a ≤ 9223372036854775807) (h3 : -9223372036854775808 ≤ b) (h4 : b ≤ 9223372036854775807) :
    Calls Tryz.prog 62 #[.int .i64 a, .int .i64 b] w fun e w' => e = .returned (WV (a * b)) ∧ Below w.heap.size w w' := by
  go_enter Tryz.func62, Tryz.ntmps62
  go_wp2_with (go_at_call 84; refine (wSizes _ _ _ h1 h2 h3 h4).mono ?_; rintro e w' ⟨rfl, rfl⟩)
  refine (bMul _ _ _ ?_ ?_ ?_ ?_).mono ?_
  any_goals (unfold iabs; omega)
  rintro e w' ⟨rfl, rfl⟩
  go_wp2_with fail
  refine (wSigned _ _ _ ?_ ?_).mono ?_
  · exact Int.mul_nonneg (by unfold iabs; omega) (by unfold iabs; omega)
  · have : iabs a * iabs b ≤ 9223372036854775808 * 9223372036854775808 := Int.mul_le_mul (by unfold iabs; omega) (by unfold iabs; omega) (by unfold iabs; omega) (by omega)
    omega
  rintro e w1 ⟨rfl, hb1⟩
  obtain ⟨hc, hf⟩ := bcell hb1
  have k1 : w1.cell? ⟨w.heap.size, 0, none⟩ = some (.int .i64 0) := by rw [hc _ _ (by simp)]; simp [go_sem]
  have k2 : w1.cell? ⟨w.heap.size, 1, none⟩ = some (.int .u64 0) := by rw [hc _ _ (by simp)]; simp [go_sem]
  rw [mul_sign a b]
  go_wp2
  exact bodyPost_ret (v := WV (a * b)) (by simp [results, Tryz.results62, go_sem, k1, k2]) rfl ⟨rfl, (((((Below.refl _ _).alloc (Nat.le_refl _) _)).trans (hb1.mono (by simp))).setCell (by simp) _).setCell (by simp) _⟩
end Go.Proofs.YtlhadociaekkhaaGreat
