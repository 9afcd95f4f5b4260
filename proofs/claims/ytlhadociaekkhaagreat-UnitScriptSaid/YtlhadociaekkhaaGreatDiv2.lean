
import Derived.Test.YtlhadociaekkhaaGreatDiv
namespace Go.Proofs.YtlhadociaekkhaaGreat
set_option linter.unusedVariables false
open Go.RowKit
theorem or_in (x n : Int) (hx0 : 0 ≤ x) (hx : x < 340282366920938463463374607431768211456) (h0 : 0 ≤ n) (hn : n < 64) :
    bits .or .u64 (IntKind.u64.wrap (shi x * 2 ^ n.toNat)) (wlo x / 2 ^ (64 - n).toNat) = shi (x * 2 ^ n.toNat) := up_or x n h0 hn
set_option maxHeartbeats 1000000 in
theorem bDiv_hi (hi lo y : Int) (w : World) (h1 : 0 < hi) (h2 : hi < y) (h3 : 0 ≤ lo) (h4 : lo ≤ 18446744073709551615) (h5 : y ≤ 18446744073709551615) :
    Calls Tryz.prog 100 #[.int .u64 hi, .int .u64 lo, .int .u64 y] w fun e w' => e = .returned (.tuple #[.int .u64 ((hi * 18446744073709551616 + lo) / y), .int .u64 ((hi * 18446744073709551616 + lo) % y)]) ∧ w = w' := by
  obtain ⟨s0, s1, sY0, sY1⟩ := lz_spec y (by omega) h5
  obtain ⟨X, hX⟩ : ∃ X, X = hi * 18446744073709551616 + lo := ⟨_, rfl⟩
  have hs : shi X = hi := by rw [hX]; unfold shi; omega
  have hl : wlo X = lo := by rw [hX]; unfold wlo; omega
  have hp := pw_pos (lz y).toNat
  obtain ⟨-, -, ul3, ul4, ul5⟩ := up_lo X (2 ^ (lz y).toNat) (2 ^ (64 - lz y).toNat) (pw_pos _) (pw_pos _) (pw64 _ s0 (by omega))
  have eu := up_or X (lz y) s0 (by omega)
  have el := (up_lo X (2 ^ (lz y).toNat) (2 ^ (64 - lz y).toNat) (pw_pos _) (pw_pos _) (pw64 _ s0 (by omega))).2.1
  rw [hs, hl] at eu
  rw [hl] at el
  have hXs : X * 2 ^ (lz y).toNat < y * 2 ^ (lz y).toNat * 18446744073709551616 := by
    have : (X + 1) * 2 ^ (lz y).toNat ≤ (y * 18446744073709551616) * 2 ^ (lz y).toNat := Int.mul_le_mul_of_nonneg_right (by omega) (by omega)
    rw [Int.add_mul, Int.mul_assoc y, Int.mul_comm 18446744073709551616, ← Int.mul_assoc] at this
    omega
  have hXs0 : 0 ≤ X * 2 ^ (lz y).toNat := Int.mul_nonneg (by omega) (by omega)
  obtain ⟨dq, dr⟩ := dv_shift (x := X) (y := y) (p := 2 ^ (lz y).toNat) (by omega) hp
  generalize hY : y * 2 ^ (lz y).toNat = Y at *
  generalize hU : X * 2 ^ (lz y).toNat = U at *
  have g1 := shi_lo U
  have g2 := wlo_lo U
  have g3 := wlo_up U
  have gU : U = shi U * 18446744073709551616 + wlo U := by unfold shi wlo; omega
  have a0 : bits .and .u64 Y 4294967295 = Y % 4294967296 := and_low32 Y (by omega) (by omega)
  have a1 : bits .and .u64 (wlo U) 4294967295 = wlo U % 4294967296 := and_low32 _ g2 (by omega)
  have hu : shi U < Y := by omega
  have i1 := dg_init (u := shi U) (v := wlo U / 4294967296) (Y := Y) (y1 := Y / 4294967296) (y0 := Y % 4294967296) (by omega) (by omega) (by omega) (by omega) (by omega) g1 hu (by omega)
  have hr0 := Int.emod_nonneg (shi U * 4294967296 + wlo U / 4294967296) (show Y ≠ 0 by omega)
  have hr1 := Int.emod_lt_of_pos (shi U * 4294967296 + wlo U / 4294967296) (show 0 < Y by omega)
  have i2 := dg_init (u := (shi U * 4294967296 + wlo U / 4294967296) % Y) (v := wlo U % 4294967296) (Y := Y) (y1 := Y / 4294967296) (y0 := Y % 4294967296) (by omega) (by omega) (by omega) (by omega) (by omega) hr0 hr1 (by omega)
  have q1 := dg_lt_b (u := shi U) (v := wlo U / 4294967296) (Y := Y) (by omega) hu (by omega)
  have q2 := dg_lt_b (u := (shi U * 4294967296 + wlo U / 4294967296) % Y) (v := wlo U % 4294967296) (Y := Y) (by omega) hr1 (by omega)
  have n1 : 0 ≤ (shi U * 4294967296 + wlo U / 4294967296) / Y := Int.ediv_nonneg (by omega) (by omega)
  have n2 : 0 ≤ ((shi U * 4294967296 + wlo U / 4294967296) % Y * 4294967296 + wlo U % 4294967296) / Y := Int.ediv_nonneg (by omega) (by omega)
  have r1 := dg_rest (u := shi U) (v := wlo U / 4294967296) (Y := Y) (by omega) (by omega)
  have r2 := dg_rest (u := (shi U * 4294967296 + wlo U / 4294967296) % Y) (v := wlo U % 4294967296) (Y := Y) (by omega) (by omega)
  obtain ⟨f1, f2⟩ := dg_both (u := shi U) (v := wlo U / 4294967296) (w := wlo U % 4294967296) (Y := Y) (by omega)
  have hw : (shi U * 4294967296 + wlo U / 4294967296) * 4294967296 + wlo U % 4294967296 = U := by omega
  rw [hw, dq] at f1
  rw [hw, dr] at f2
  have hm0 := Int.emod_nonneg X (show y ≠ 0 by omega)
  have hm1 := Int.emod_lt_of_pos X (show 0 < y by omega)
  have hq0 := Int.mul_nonneg hm0 (Int.le_of_lt hp)
  have hrU : X % y * 2 ^ (lz y).toNat < Y := by rw [← hY]; exact Int.mul_lt_mul_of_pos_right hm1 hp
  have hres : X % y = X % y * 2 ^ (lz y).toNat / 2 ^ (lz y).toNat := (Int.mul_ediv_cancel _ (by omega)).symm
  rw [← hX, hres]
  have ht1 : (shi U).tdiv (Y / 4294967296) = shi U / (Y / 4294967296) := Int.tdiv_eq_ediv_of_nonneg g1
  have ht2 : ((shi U * 4294967296 + wlo U / 4294967296) % Y).tdiv (Y / 4294967296) = (shi U * 4294967296 + wlo U / 4294967296) % Y / (Y / 4294967296) := Int.tdiv_eq_ediv_of_nonneg hr0
  obtain ⟨i11, i12, i13, i14, i15, i16⟩ := i1
  obtain ⟨i21, i22, i23, i24, i25, i26⟩ := i2
  refine bDiv_core hi lo y (lz y) Y (Y / 4294967296) (Y % 4294967296) (shi U) (wlo U) (wlo U / 4294967296) (wlo U % 4294967296) (shi U / (Y / 4294967296)) (shi U % (Y / 4294967296)) ((shi U * 4294967296 + wlo U / 4294967296) / Y)
    ((shi U * 4294967296 + wlo U / 4294967296) % Y) ((shi U * 4294967296 + wlo U / 4294967296) % Y / (Y / 4294967296)) ((shi U * 4294967296 + wlo U / 4294967296) % Y % (Y / 4294967296)) (((shi U * 4294967296 + wlo U / 4294967296) % Y * 4294967296 + wlo U % 4294967296) / Y)
    (X / y) (X % y * 2 ^ (lz y).toNat) w (by omega) (by omega) (by simp; omega) (by simp; omega) h3 h4 h5 (by omega) rfl s0 s1 (by omega) ?eY rfl a0 eu ?el rfl a1 (by omega) (by omega) g2 g3 (by omega) (by omega) (by omega) (by omega) (by omega)
    g1 hu (by omega) (by omega) (by omega) (by omega) (by show Y = _; omega) ?ea ?era ⟨i11, i12, i13, i14, i15, i16⟩ rfl (by omega) n1 ?e21 hr0 hr1 ?eb ?erb ⟨i21, i22, i23, i24, i25, i26⟩ rfl (by omega) n2 f1 ?err hq0 (by omega)
  case eY =>
    rw [hY]; exact i64_in (by omega) (by omega)
  case el =>
    rw [u64w]; exact el
  case ea =>
    rw [ht1]; exact i64_in i16 (by omega)
  case era =>
    rw [u64w, u64w, Int.sub_emod, Int.emod_emod_of_dvd _ (Int.dvd_refl _), ← Int.sub_emod]
    omega
  case e21 =>
    rw [u64w, u64w, u64w, u64w, ← r1]
    generalize (shi U * 4294967296 + wlo U / 4294967296) / Y * Y = A
    omega
  case eb =>
    rw [ht2]; exact i64_in i26 (by omega)
  case erb =>
    rw [u64w, u64w, Int.sub_emod, Int.emod_emod_of_dvd _ (Int.dvd_refl _), ← Int.sub_emod]
    omega
  case err =>
    rw [u64w, u64w, u64w, u64w, ← f2, ← r2]
    generalize (shi U * 4294967296 + wlo U / 4294967296) % Y = B
    generalize (B * 4294967296 + wlo U % 4294967296) / Y * Y = A
    omega
set_option maxHeartbeats 400000 in
theorem bDiv_lo (lo y : Int) (w : World) (h2 : 0 < y) (h3 : 0 ≤ lo) (h4 : lo ≤ 18446744073709551615) (h5 : y ≤ 18446744073709551615) :
    Calls Tryz.prog 100 #[.int .u64 0, .int .u64 lo, .int .u64 y] w fun e w' => e = .returned (.tuple #[.int .u64 (lo / y), .int .u64 (lo % y)]) ∧ ∃ n, w' = w.drewN n := by
  go_enter Tryz.func100, Tryz.ntmps100
  go_wp2_with fail
  go_quiet (fail)
  go_wp2
  go_ret2
  exact ⟨rfl, _, rfl⟩
end Go.Proofs.YtlhadociaekkhaaGreat
