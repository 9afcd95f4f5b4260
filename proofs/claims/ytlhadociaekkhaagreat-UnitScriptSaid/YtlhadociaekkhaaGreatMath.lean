/- Plain arithmetic of numbers of 128 bits. -/
namespace Go.Proofs.YtlhadociaekkhaaGreat
set_option linter.unusedVariables false
def whi (x : Int) : Int := (x / 18446744073709551616 + 9223372036854775808) % 18446744073709551616 - 9223372036854775808
def wlo (x : Int) : Int := x % 18446744073709551616
theorem whi_lo (x : Int) : -9223372036854775808 ≤ whi x := by unfold whi; omega
theorem whi_up (x : Int) : whi x ≤ 9223372036854775807 := by unfold whi; omega
theorem wlo_lo (x : Int) : 0 ≤ wlo x := by unfold wlo; omega
theorem wlo_up (x : Int) : wlo x ≤ 18446744073709551615 := by unfold wlo; omega
theorem wide_of (h l : Int) (h1 : -9223372036854775808 ≤ h) (h2 : h ≤ 9223372036854775807) (h3 : 0 ≤ l) (h4 : l ≤ 18446744073709551615) :
    ∃ x, h = whi x ∧ l = wlo x ∧ -170141183460469231731687303715884105728 ≤ x ∧ x < 170141183460469231731687303715884105728 := by
  refine ⟨h * 18446744073709551616 + l, ?_, ?_, ?_, ?_⟩ <;> (try unfold whi) <;> (try unfold wlo) <;> omega
theorem wide_inj {x y : Int} (h : whi x = whi y) (l : wlo x = wlo y) : x % 340282366920938463463374607431768211456 = y % 340282366920938463463374607431768211456 := by
  unfold whi at h; unfold wlo at l; omega
theorem wide_eq {x y : Int} (h : x % 340282366920938463463374607431768211456 = y % 340282366920938463463374607431768211456) : whi x = whi y ∧ wlo x = wlo y := by
  unfold whi wlo; omega

def shi (x : Int) : Int := x / 18446744073709551616 % 18446744073709551616
theorem shi_lo (x : Int) : 0 ≤ shi x := by unfold shi; omega
theorem shi_up (x : Int) : shi x ≤ 18446744073709551615 := by unfold shi; omega
theorem pw (a b : Nat) : (2 : Int) ^ a * 2 ^ b = 2 ^ (a + b) := (Int.pow_add ..).symm
theorem pw_pos (a : Nat) : 0 < (2 : Int) ^ a := Int.pow_pos (by omega)
theorem pw64 (n : Int) (h0 : 0 ≤ n) (h1 : n ≤ 64) : (2 : Int) ^ n.toNat * 2 ^ (64 - n).toNat = 18446744073709551616 := by
  rw [pw, show n.toNat + (64 - n).toNat = 64 from by omega]; decide
theorem pw_hi (n : Int) (h0 : 64 ≤ n) : (2 : Int) ^ n.toNat = 18446744073709551616 * 2 ^ (n - 64).toNat := by
  rw [show n.toNat = 64 + (n - 64).toNat from by omega, ← pw, show (2 : Int) ^ 64 = 18446744073709551616 from by decide]
/-- 'a = k·q + r' with '0 ≤ r < q' tells the quotient and the rest. -/
theorem div_of {a q k r : Int} (h : a = k * q + r) (h0 : 0 ≤ r) (h1 : r < q) : a / q = k ∧ a % q = r := by
  have hq : 0 < q := by omega
  have : a / q = k := by
    rw [h, Int.add_comm, Int.add_mul_ediv_right _ _ (by omega), Int.ediv_eq_zero_of_lt h0 h1]; omega
  refine ⟨this, ?_⟩
  have := Int.emod_def a q
  rw [this, ‹a / q = k›, h, Int.mul_comm q k]; omega
theorem ediv_parts (a q : Int) (hq : 0 < q) : a = a / q * q + a % q ∧ 0 ≤ a % q ∧ a % q < q := by
  refine ⟨?_, Int.emod_nonneg _ (by omega), Int.emod_lt_of_pos _ hq⟩
  have := Int.emod_def a q
  have := Int.mul_comm q (a / q)
  omega
theorem down_hi (x p : Int) (hp : 0 < p) (h0 : 0 ≤ x) (h1 : x < 340282366920938463463374607431768211456) : shi (x / (18446744073709551616 * p)) = 0 ∧ shi x / p = wlo (x / (18446744073709551616 * p)) := by
  have e : x / (18446744073709551616 * p) = x / 18446744073709551616 / p := by rw [Int.ediv_ediv_of_nonneg (by omega)]
  rw [e]
  have hb : 0 ≤ x / 18446744073709551616 := by omega
  have hc : x / 18446744073709551616 < 18446744073709551616 := by omega
  have := Int.ediv_le_self p hb
  have := Int.ediv_nonneg hb (Int.le_of_lt hp)
  have hs : shi x = x / 18446744073709551616 := by unfold shi; omega
  rw [hs]; unfold shi wlo; omega
theorem down_lo (x p q : Int) (hp : 0 < p) (hq : 0 < q) (e : p * q = 18446744073709551616) (h0 : 0 ≤ x) (h1 : x < 340282366920938463463374607431768211456) :
    shi x / p = shi (x / p) ∧ wlo x / p + shi x * q % 18446744073709551616 = wlo (x / p) ∧ wlo x / p < q ∧ 0 ≤ wlo x / p ∧ shi x * q % 18446744073709551616 = shi x % p * q := by
  have hL := wlo_lo x
  have hL1 := wlo_up x
  have hH := shi_lo x
  have ex : x = shi x * 18446744073709551616 + wlo x := by unfold shi wlo; omega
  generalize shi x = H at *
  generalize wlo x = L at *
  obtain ⟨e1, a1, a2⟩ := ediv_parts H p hp
  obtain ⟨e2, b1, b2⟩ := ediv_parts L p hp
  have hlq : L / p < q := by
    apply Int.ediv_lt_of_lt_mul hp; rw [Int.mul_comm]; omega
  have hl0 : 0 ≤ L / p := Int.ediv_nonneg hL (by omega)
  generalize H / p = A at *
  generalize H % p = R at *
  generalize L / p = C at *
  generalize L % p = S at *
  have t1 : H * q = A * 18446744073709551616 + R * q := by rw [e1, Int.add_mul, Int.mul_assoc, e]
  have t2 : R * q ≤ 18446744073709551616 - q := by
    have : (R + 1) * q ≤ p * q := Int.mul_le_mul_of_nonneg_right (by omega) (by omega)
    rw [Int.add_mul] at this; omega
  have t3 : 0 ≤ R * q := Int.mul_nonneg a1 (by omega)
  have t4 : H * q % 18446744073709551616 = R * q := by rw [t1]; omega
  have t5 : x / p = H * q + C := by
    refine (div_of (r := S) ?_ b1 b2).1
    rw [ex, Int.add_mul, Int.mul_assoc, Int.mul_comm q p, e]; omega
  rw [t5, t4, t1]
  have A0 : H * 18446744073709551616 + L < 340282366920938463463374607431768211456 := by omega
  have A1 : 0 ≤ A := by
    rcases Int.lt_or_le A 0 with h | h
    · have : A * p ≤ -1 * p := Int.mul_le_mul_of_nonneg_right (by omega) (by omega)
      omega
    · exact h
  have A2 : A < 18446744073709551616 := by
    rcases Int.lt_or_le A 18446744073709551616 with h | h
    · exact h
    · have : 18446744073709551616 * p ≤ A * p := Int.mul_le_mul_of_nonneg_right h (by omega)
      omega
  refine ⟨?_, ?_, hlq, hl0, rfl⟩
  · unfold shi; omega
  · unfold wlo; omega
theorem up_hi (x p : Int) : shi (x * (18446744073709551616 * p)) = wlo x * p % 18446744073709551616 ∧ wlo (x * (18446744073709551616 * p)) = 0 := by
  have e : x * (18446744073709551616 * p) = x * p * 18446744073709551616 := by rw [Int.mul_comm 18446744073709551616 p, Int.mul_assoc]
  have e2 : x * p = x / 18446744073709551616 * p * 18446744073709551616 + wlo x * p := by
    have : x = x / 18446744073709551616 * 18446744073709551616 + wlo x := by unfold wlo; omega
    rw [Int.mul_assoc, Int.mul_comm p, ← Int.mul_assoc, ← Int.add_mul, ← this]
  rw [e]; unfold shi
  generalize x / 18446744073709551616 * p = A at *
  generalize wlo x * p = B at *
  constructor
  · omega
  · unfold wlo; omega
theorem up_lo (x p q : Int) (hp : 0 < p) (hq : 0 < q) (e : p * q = 18446744073709551616) :
    (shi x * p % 18446744073709551616 + wlo x / q) = shi (x * p) ∧ wlo x * p % 18446744073709551616 = wlo (x * p) ∧ wlo x / q < p ∧ 0 ≤ wlo x / q ∧ shi x * p % 18446744073709551616 = shi x % q * p := by
  have hL := wlo_lo x
  have hL1 := wlo_up x
  have ex : ∃ k, x = k * 340282366920938463463374607431768211456 + shi x * 18446744073709551616 + wlo x := ⟨x / 340282366920938463463374607431768211456, by unfold shi wlo; omega⟩
  obtain ⟨k, ex⟩ := ex
  have hH := shi_lo x
  generalize shi x = H at *
  generalize wlo x = L at *
  obtain ⟨e1, a1, a2⟩ := ediv_parts H q hq
  obtain ⟨e2, b1, b2⟩ := ediv_parts L q hq
  have hlq : L / q < p := by apply Int.ediv_lt_of_lt_mul hq; omega
  have hl0 : 0 ≤ L / q := Int.ediv_nonneg hL (by omega)
  generalize H / q = A at *
  generalize H % q = R at *
  generalize L / q = C at *
  generalize L % q = S at *
  have t1 : H * p = A * 18446744073709551616 + R * p := by rw [e1, Int.add_mul, Int.mul_assoc, Int.mul_comm q p, e]
  have t2 : R * p ≤ 18446744073709551616 - p := by
    have : (R + 1) * p ≤ q * p := Int.mul_le_mul_of_nonneg_right (by omega) (by omega)
    rw [Int.add_mul, Int.mul_comm q p] at this; omega
  have t3 : 0 ≤ R * p := Int.mul_nonneg a1 (by omega)
  have t6 : L * p = C * 18446744073709551616 + S * p := by rw [e2, Int.add_mul, Int.mul_assoc, Int.mul_comm q p, e]
  have t7 : 0 ≤ S * p := Int.mul_nonneg b1 (by omega)
  have t8 : S * p < 18446744073709551616 := by
    have : (S + 1) * p ≤ q * p := Int.mul_le_mul_of_nonneg_right (by omega) (by omega)
    rw [Int.add_mul, Int.mul_comm q p] at this; omega
  have t9 : x * p = k * p * 340282366920938463463374607431768211456 + (A * 18446744073709551616 + R * p) * 18446744073709551616 + (C * 18446744073709551616 + S * p) := by
    rw [← t1, ← t6, ex]; simp only [Int.add_mul]
    rw [Int.mul_assoc k, Int.mul_comm 340282366920938463463374607431768211456 p, ← Int.mul_assoc, Int.mul_assoc H, Int.mul_comm 18446744073709551616 p, ← Int.mul_assoc]
  have t4 : H * p % 18446744073709551616 = R * p := by rw [t1]; omega
  refine ⟨?_, ?_, hlq, hl0, t4⟩
  · rw [t4]; unfold shi; rw [t9]; generalize k * p = K; omega
  · unfold wlo; rw [t9, t6]; generalize k * p = K; omega
theorem whi_0 : whi 0 = 0 := by decide
theorem wlo_0 : wlo 0 = 0 := by decide
theorem shi_1 : shi 1 = 0 := by decide
theorem wlo_1 : wlo 1 = 1 := by decide
theorem or_join (a b q : Int) (k : Nat) (hq : q = 2 ^ k) (ha0 : 0 ≤ a) (ha : a < q) (c : Int) (hc : 0 ≤ c) (hb : b = c * q) : ((a.toNat ||| b.toNat : Nat) : Int) = a + b := by
  obtain ⟨a, rfl⟩ := Int.eq_ofNat_of_zero_le ha0
  obtain ⟨c, rfl⟩ := Int.eq_ofNat_of_zero_le hc
  subst hq
  have hb' : b = ((c * 2 ^ k : Nat) : Int) := by rw [hb]; push_cast; rfl
  subst hb'
  have ha' : a < 2 ^ k := by exact_mod_cast ha
  simp only [Int.toNat_natCast]
  rw [Nat.or_comm, Nat.mul_comm, ← Nat.two_pow_add_eq_or_of_lt ha']
  push_cast; omega
attribute [irreducible] whi wlo shi
end Go.Proofs.YtlhadociaekkhaaGreat
