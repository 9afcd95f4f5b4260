
import Derived.Test.YtlhadociaekkhaaGreatDiv2
namespace Go.Proofs.YtlhadociaekkhaaGreat
set_option linter.unusedVariables false
open Go.RowKit
theorem bDiv (hi lo y : Int) (w : World) (h1 : 0 ≤ hi) (h2 : hi < y) (h3 : 0 ≤ lo) (h4 : lo ≤ 18446744073709551615) (h5 : y ≤ 18446744073709551615) :
    Calls Tryz.prog 100 #[.int .u64 hi, .int .u64 lo, .int .u64 y] w fun e w' => e = .returned (.tuple #[.int .u64 ((hi * 18446744073709551616 + lo) / y), .int .u64 ((hi * 18446744073709551616 + lo) % y)]) ∧ ∃ n, w' = w.drewN n := by
  by_cases h : hi = 0
  · subst h
    simp only [Int.zero_mul, Int.zero_add]
    exact bDiv_lo lo y w h2 h3 h4 h5
  · exact (bDiv_hi hi lo y w (by omega) h2 h3 h4 h5).mono fun e w' ⟨h1, h2⟩ => ⟨h1, 0, h2 ▸ rfl⟩
theorem Below.drawsN {B : Nat} {w a : World} (h : Below B w a) (n : Nat) : Below B w (a.drewN n) := ⟨h.os, h.tape, h.output, h.size, h.block⟩
theorem Below.draws (w : World) (n : Nat) : Below w.heap.size w (w.drewN n) := Below.drawsN (Below.refl _ _) n
theorem near_le (x d : Int) (h : iabs x / iabs d < 340282366920938463463374607431768211455 ∧ 0 ≤ iabs x / iabs d ∧ iabs x / iabs d ≤ 170141183460469231731687303715884105728) : 0 ≤ rh (iabs x) (iabs d) ∧ rh (iabs x) (iabs d) < 340282366920938463463374607431768211456 := by
  unfold rh incr; split <;> omega
def dvr (x d : Int) : Int := sgn (!(decide (x < 0) == decide (d < 0))) (rh (iabs x) (iabs d))
theorem dv_hi (s y : Int) (h0 : 0 ≤ s) (h1 : s < 340282366920938463463374607431768211456) (hy : 0 < y) (hy1 : y ≤ 18446744073709551615) :
    shi s / y = shi (s / y) ∧ (shi s % y * 18446744073709551616 + wlo s) / y = wlo (s / y) ∧ (shi s % y * 18446744073709551616 + wlo s) % y = s % y := by
  have e : s = shi s * 18446744073709551616 + wlo s := by unfold shi wlo; omega
  have g1 := shi_lo s
  have g2 := shi_up s
  have g3 := wlo_lo s
  have g4 := wlo_up s
  generalize shi s = H at *
  generalize wlo s = L at *
  obtain ⟨f, r0, r1⟩ := ediv_parts H y hy
  obtain ⟨k, s0, s1⟩ := ediv_parts (H % y * 18446744073709551616 + L) y hy
  have m1 := Int.ediv_nonneg g1 (Int.le_of_lt hy)
  have m2 := Int.ediv_le_self y g1
  have c0 : (H % y * 18446744073709551616 + L) / y < 18446744073709551616 := by rw [quo_lt hy]; omega
  have c1 : 0 ≤ (H % y * 18446744073709551616 + L) / y := Int.ediv_nonneg (by omega) (Int.le_of_lt hy)
  generalize H / y = q at *
  generalize H % y = r at *
  generalize (r * 18446744073709551616 + L) / y = p at *
  generalize (r * 18446744073709551616 + L) % y = t at *
  have : s = (q * 18446744073709551616 + p) * y + t := by
    rw [Int.add_mul, Int.mul_assoc, Int.mul_comm 18446744073709551616 y, ← Int.mul_assoc]; omega
  obtain ⟨a, b⟩ := div_of this s0 s1
  rw [a, b]
  refine ⟨?_, ?_, rfl⟩
  · unfold shi; omega
  · unfold wlo; omega
theorem small_sv (r : Int) (h0 : 0 ≤ r) (h1 : r ≤ 18446744073709551615) : shi r = 0 ∧ wlo r = r := by unfold shi wlo; omega
theorem wNearer1 (q r d : Int) (w : World) (hr0 : 0 ≤ r) (hr : r < d) (hd : d ≤ 18446744073709551615) :
    Calls Tryz.prog 97 #[SV q, .agg #[.int .u64 0, .int .u64 r], .agg #[.int .u64 0, .int .u64 d]] w fun e w' => e = .returned (.bool (near q r d)) ∧ Below w.heap.size w w' := by
  have h := wNearer q r d w hr0 hr (by omega)
  have h1 := small_sv r hr0 (by omega)
  have h2 := small_sv d (by omega) hd
  simp only [SV, h1.1, h1.2, h2.1, h2.2] at h
  exact h
set_option maxHeartbeats 1000000 in
theorem wDiv (x d : Int) (w : World) (hx0 : -170141183460469231731687303715884105728 ≤ x) (hx : x < 170141183460469231731687303715884105728) (h1 : -9223372036854775808 ≤ d) (h2 : d ≤ 9223372036854775807) (hd : ¬ d = 0) :
    Calls Tryz.prog 80 #[WV x, .int .i64 d] w fun e w' => e = .returned (.tuple #[WV (dvr x d), .int .i64 0]) ∧ Below w.heap.size w w' := by
  have hd0 : (d == 0) = false := by simp [hd]
  have hd1 := Lib.hid hd; clear hd
  go_enter Tryz.func80, Tryz.ntmps80
  go_wp2_with fail
  refine (wof x _ hx0 hx).mono ?_
  rintro e w1 ⟨rfl, hb1⟩
  have B1 := (b2 _ _ _).trans (hb1.mono (by simp; omega))
  have hs1 : w.heap.size + 1 < w1.heap.size := Nat.lt_of_lt_of_le (by simp) hb1.size
  have z1 : 0 ≤ iabs x := by unfold iabs; omega
  have z2 : iabs x ≤ 170141183460469231731687303715884105728 := by unfold iabs; omega
  have y1 : 0 < iabs d := by have := hd1.out; unfold iabs; omega
  have y2 : iabs d ≤ 9223372036854775808 := by unfold iabs; omega
  go_wp2_with fail
  refine (wSizes _ _ _ h1 h2 (by omega) (by omega)).mono ?_
  rintro e w2 ⟨rfl, rfl⟩
  have g1 := shi_lo (iabs x)
  have g2 := shi_up (iabs x)
  have y3 : ¬ iabs d = 0 := by omega
  have j1 : w1.cell? ⟨w.heap.size + 1, 0, none⟩ = some (.int .i64 0) := cell_keep (by simp [go_sem]) hb1
  have t1 : Slot (w.heap.size + 1) 0 w1 := Slot.keep ⟨⟨.int .i64 0, by simp [go_sem]⟩, by simp [go_sem]⟩ hb1
  have t2 : Slot (w.heap.size + 1) 1 w1 := Slot.keep ⟨⟨.int .u64 0, by simp [go_sem]⟩, by simp [go_sem]⟩ hb1
  have m1 : shi (iabs x) % iabs d < iabs d := Int.emod_lt_of_pos _ y1
  have m0 : 0 ≤ shi (iabs x) % iabs d := Int.emod_nonneg _ y3
  have g3 := wlo_lo (iabs x)
  have g4 := wlo_up (iabs x)
  obtain ⟨e1, e2, e3⟩ := dv_hi (iabs x) (iabs d) z1 (by omega) y1 (by omega)
  have n0 : 0 ≤ iabs x % iabs d := Int.emod_nonneg _ y3
  have n1 : iabs x % iabs d < iabs d := Int.emod_lt_of_pos _ y1
  have n2 := Int.ediv_nonneg z1 (Int.le_of_lt y1)
  have n3 := Int.ediv_le_self (iabs d) z1
  have HR : Hid (iabs x / iabs d < 340282366920938463463374607431768211455 ∧ 0 ≤ iabs x / iabs d ∧ iabs x / iabs d ≤ 170141183460469231731687303715884105728) := ⟨by omega, n2, by omega⟩
  have E1 := Lib.hid e1; have E2 := Lib.hid e2; have E3 := Lib.hid e3; clear e1 e2 e3 n2 n3 j1
  go_wp2_with fail
  go_quiet (fail)
  go_wp2_with fail
  refine (bDiv _ _ _ _ m0 m1 g3 g4 (by omega)).mono ?_
  rintro e w3 ⟨rfl, nd, rfl⟩
  rw [E1.out, E2.out, E3.out]
  go_wp2_with fail
  go_region_held3 (fun w' => Below w.heap.size w w' ∧ w1.heap.size + 1 < w'.heap.size ∧ w'.cell? ⟨w1.heap.size + 1, 0, none⟩ = some (.int .u64 (shi (iabs x / iabs d))) ∧ w'.cell? ⟨w1.heap.size + 1, 1, none⟩ = some (.int .u64 (wlo (iabs x / iabs d))) ∧ Slot (w.heap.size + 1) 0 w' ∧ Slot (w.heap.size + 1) 1 w')
    (first | exact ⟨((Below.drawsN (B1.alloc (by omega) _) _).alloc (by simp; omega) _).drew, by simp, by simp [go_sem], by simp [go_sem], (((t1.keep (Below.one _ _)).keep (Below.draws _ _)).keep (Below.one _ _)).keep (Below.draw _), (((t2.keep (Below.one _ _)).keep (Below.draws _ _)).keep (Below.one _ _)).keep (Below.draw _)⟩ | (go_split_ands; refine ⟨?_, ?_, ?_, ?_, ?_, ?_⟩ <;> (first | exact Below.next (by assumption) hbz (by omega) | exact cell_keep (by assumption) hbz | exact Slot.keep (by assumption) hbz | exact Nat.lt_of_lt_of_le (by assumption) hbz.size)) | (go_split_ands; refine ⟨?_, ?_, ?_, ?_, ?_, ?_⟩ <;> (repeat (first | assumption | refine Below.setCell ?_ (by simp) _ | rw [World.cell?_setCell_far _ _ _ _ (by simp; omega)] | refine Slot.set ?_ _ _ | (rw [nblk_set])))))
    (first | (go_at_call 97; refine (wNearer1 _ _ _ _ n0 n1 (by omega)).mono ?_; rintro e w3 ⟨rfl, hbz⟩) | (go_at_call 96; refine (wNext _ _ _ HR.out.1).mono ?_; rintro e w3 ⟨rfl, hbz⟩) | (go_at_call 85; refine (wSigned _ _ _ (near_le x d HR.out).1 (near_le x d HR.out).2).mono ?_; rintro e w3 ⟨rfl, hbz⟩; have hS := (by assumption : Below w.heap.size w _ ∧ _); obtain ⟨va, ea⟩ := (hS.2.2.2.2.1.keep hbz).val; obtain ⟨vb, eb⟩ := (hS.2.2.2.2.2.keep hbz).val; have fa := (hS.2.2.2.2.1.keep hbz).fro; have fb := (hS.2.2.2.2.2.keep hbz).fro; clear hS))
  have BS := (by assumption : Below w.heap.size w _ ∧ _).1
  go_wp2
  exact bodyPost_ret (v := .tuple #[WV (dvr x d), .int .i64 0]) (by simp [results, Tryz.results80, go_sem, ea, eb]; unfold dvr; trivial) rfl ⟨rfl, BS⟩
end Go.Proofs.YtlhadociaekkhaaGreat
