/- Plain laws of the whole square root. -/
import Derived.Test.YtlhadociaekkhaaQA
import Derived.Laws.Bits64b
import Derived.Lib.ItoaNum
namespace Go.Proofs.Ytlhadociaekkhaa
set_option linter.unusedVariables false
theorem isq_ex (a : Nat) : ∃ s : Nat, s * s ≤ a ∧ a < (s + 1) * (s + 1) := by
  induction a with
  | zero => exact ⟨0, by omega, by omega⟩
  | succ a ih =>
    obtain ⟨s, h1, h2⟩ := ih
    by_cases h : a + 1 < (s + 1) * (s + 1)
    · exact ⟨s, by omega, h⟩
    · refine ⟨s + 1, by omega, ?_⟩
      have : (s + 1 + 1) * (s + 1 + 1) = (s + 1) * (s + 1) + 2 * s + 3 := by simp only [Nat.add_mul, Nat.mul_add]; omega
      omega
noncomputable def isq (a : Int) : Int := (Classical.choose (isq_ex a.toNat) : Nat)
theorem isq_spec (a : Int) (h : 0 ≤ a) : 0 ≤ isq a ∧ isq a * isq a ≤ a ∧ a < (isq a + 1) * (isq a + 1) := by
  obtain ⟨h1, h2⟩ := Classical.choose_spec (isq_ex a.toNat)
  unfold isq
  generalize Classical.choose (isq_ex a.toNat) = s at *
  refine ⟨by omega, ?_, ?_⟩
  · have : ((s * s : Nat) : Int) ≤ (a.toNat : Int) := Int.ofNat_le.2 h1
    rw [Int.natCast_mul] at this; omega
  · have : ((a.toNat : Nat) : Int) < (((s + 1) * (s + 1) : Nat) : Int) := Int.ofNat_lt.2 h2
    rw [Int.natCast_mul] at this; simp only [Int.natCast_add, Int.natCast_one] at this; omega
theorem sq_le {s t a : Int} (hs : 0 ≤ s) (ht : 0 ≤ t) (h1 : s * s ≤ a) (h2 : a < (t + 1) * (t + 1)) : s ≤ t := by
  rcases Int.lt_or_le t s with h | h
  · have : (t + 1) * (t + 1) ≤ s * s := Int.mul_le_mul (by omega) (by omega) (by omega) hs
    omega
  · exact h
theorem isq_uniq {a s : Int} (hs : 0 ≤ s) (h1 : s * s ≤ a) (h2 : a < (s + 1) * (s + 1)) : isq a = s := by
  have h0 : 0 ≤ a := Int.le_trans (Int.mul_nonneg hs hs) h1
  obtain ⟨i0, i1, i2⟩ := isq_spec a h0
  exact Int.le_antisymm (sq_le i0 hs i1 h2) (sq_le hs i0 h1 i2)
theorem le_isq {a s : Int} (h0 : 0 ≤ a) (hs : 0 ≤ s) : s ≤ isq a ↔ s * s ≤ a := by
  obtain ⟨i0, i1, i2⟩ := isq_spec a h0
  exact ⟨fun h => Int.le_trans (Int.mul_le_mul h h hs i0) i1, fun h => sq_le hs i0 h i2⟩
/-- A step of Newton's stays above. -/
theorem newton_ge {a x : Int} (h0 : 0 ≤ a) (hx : 0 < x) : isq a ≤ (x + a / x) / 2 := by
  obtain ⟨i0, i1, i2⟩ := isq_spec a h0
  generalize isq a = s at *
  have k : (2 * s - x) * x ≤ s * s := by
    have e : s * s - (2 * s - x) * x = (s - x) * (s - x) := by
      simp only [Int.sub_mul, Int.mul_sub]
      rw [Int.mul_comm x s, Int.mul_assoc 2 s x]; omega
    have : 0 ≤ (s - x) * (s - x) := by
      rcases Int.lt_or_le s x with g | g
      · exact Int.le_of_lt (Int.mul_pos_of_neg_of_neg (by omega) (by omega))
      · exact Int.mul_nonneg (by omega) (by omega)
    omega
  have : 2 * s - x ≤ a / x := (Int.le_ediv_iff_mul_le hx).2 (Int.le_trans k i1)
  omega
theorem newton_end {a x : Int} (h0 : 0 ≤ a) (hx : 0 < x) (hs : isq a ≤ x) (h : x ≤ (x + a / x) / 2) : isq a = x := by
  have : x ≤ a / x := by omega
  have := (Int.le_ediv_iff_mul_le hx).1 this
  exact Int.le_antisymm hs ((le_isq h0 (by omega)).2 this)
theorem land_two (X Q : Nat) : (X &&& Q) &&& 1 = (X % 2) * (Q % 2) := by
  have h := Nat.and_mod_two_pow (a := X) (b := Q) (n := 1)
  rw [Nat.and_one_is_mod]
  simp only [Nat.pow_one] at h
  rw [h]
  rcases Nat.mod_two_eq_zero_or_one X with e | e <;> rcases Nat.mod_two_eq_zero_or_one Q with f | f <;> rw [e, f] <;> rfl
/-- Half of a sum that may have 65 bits. -/
theorem avg (x q : Int) (h0 : 0 ≤ x) (h1 : x ≤ 18446744073709551615) (g0 : 0 ≤ q) (g1 : q ≤ 18446744073709551615) :
    x / 2 + q / 2 + bits .and .u64 (bits .and .u64 x q) 1 = (x + q) / 2 := by
  obtain ⟨X, rfl⟩ := Int.eq_ofNat_of_zero_le h0
  obtain ⟨Q, rfl⟩ := Int.eq_ofNat_of_zero_le g0
  have l : X &&& Q < 18446744073709551616 := Nat.lt_of_le_of_lt Nat.and_le_left (by omega)
  rw [bits_and_u64_nat X Q (by omega) (by omega), show (1 : Int) = ((1 : Nat) : Int) from rfl, bits_and_u64_nat _ 1 l (by omega), land_two]
  rcases Nat.mod_two_eq_zero_or_one X with e | e <;> rcases Nat.mod_two_eq_zero_or_one Q with f | f <;> rw [e, f] <;> simp <;> omega
theorem bl_lt (x : Nat) (h : x < 2 ^ 64) : x < 2 ^ Lib.bitLen x := by
  by_cases h0 : x = 0
  · subst h0; decide
  · exact (Lib.bitLenAux_bounds 64 x h h0).2.2
/-- Where Newton's begins. -/
theorem start_le {a : Int} {n : Nat} (h0 : 0 ≤ a) (h : a < 2 ^ n) : isq a ≤ 2 ^ ((n + 1) / 2) := by
  obtain ⟨i0, i1, i2⟩ := isq_spec a h0
  have p : (0 : Int) < 2 ^ ((n + 1) / 2) := Int.pow_pos (by omega)
  rcases Int.lt_or_le (2 ^ ((n + 1) / 2)) (isq a) with g | g
  · have : (2 : Int) ^ ((n + 1) / 2) * 2 ^ ((n + 1) / 2) ≤ isq a * isq a := Int.mul_le_mul (by omega) (by omega) (by omega) i0
    rw [← Int.pow_add] at this
    have e : (2 : Int) ^ n ≤ 2 ^ ((n + 1) / 2 + (n + 1) / 2) := by
      have := Nat.pow_le_pow_right (n := 2) (by omega) (show n ≤ (n + 1) / 2 + (n + 1) / 2 by omega)
      have := Int.ofNat_le.2 this
      rw [Int.natCast_pow, Int.natCast_pow] at this; exact this
    omega
  · exact g
theorem isq_up {a : Int} (h0 : 0 ≤ a) (h1 : a < 170141183460469231731687303715884105728) : isq a ≤ 13043817825332782212 := by
  obtain ⟨i0, i1, i2⟩ := isq_spec a h0
  exact sq_le i0 (by omega) i1 (by omega)
theorem hi_lt {a x : Int} (h0 : 0 < a) (h1 : a < 170141183460469231731687303715884105728) (hx : isq a ≤ x) : a / 18446744073709551616 < x := by
  obtain ⟨i0, i1, i2⟩ := isq_spec a (by omega)
  have u := isq_up (by omega) h1
  have s1 : 1 ≤ isq a := (le_isq (by omega) (by omega)).2 (by omega)
  generalize isq a = s at *
  have e : (s + 1) * (s + 1) = s * s + 2 * s + 1 := by simp only [Int.add_mul, Int.mul_add]; omega
  have f : s * 18446744073709551616 = s * s + s * (18446744073709551616 - s) := by rw [Int.mul_sub]; omega
  have g : s * 3 ≤ s * (18446744073709551616 - s) := Int.mul_le_mul (by omega) (by omega) (by omega) i0
  have : a < s * 18446744073709551616 := by omega
  omega
theorem pow_le32 {n : Nat} (h : n ≤ 32) : (2 : Int) ^ n ≤ 4294967296 := by
  have := Int.ofNat_le.2 (Nat.pow_le_pow_right (n := 2) (by omega) h)
  rw [Int.natCast_pow] at this; exact this
theorem pow_le63 {n : Nat} (h : n ≤ 63) : (2 : Int) ^ n ≤ 9223372036854775808 := by
  have := Int.ofNat_le.2 (Nat.pow_le_pow_right (n := 2) (by omega) h)
  rw [Int.natCast_pow] at this; exact this
/-- The nearest root. -/
noncomputable def nrt (a : Int) : Int := if isq a < a - isq a * isq a then isq a + 1 else isq a
end Go.Proofs.Ytlhadociaekkhaa
