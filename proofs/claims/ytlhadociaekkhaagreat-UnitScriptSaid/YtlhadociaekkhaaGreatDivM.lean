/- Plain arithmetic: a division of two digits by one, digit by digit. -/
import Derived.Test.YtlhadociaekkhaaGreatMath
namespace Go.Proofs.YtlhadociaekkhaaGreat
set_option linter.unusedVariables false
theorem le_quo {a Y k : Int} (hY : 0 < Y) : k ≤ a / Y ↔ k * Y ≤ a := Int.le_ediv_iff_mul_le hY
theorem quo_lt {a Y k : Int} (hY : 0 < Y) : a / Y < k ↔ a < k * Y := Int.ediv_lt_iff_lt_mul hY
/-- q is not above the quotient just if 'q·y0 ≤ 2^32·r + v'. -/
theorem dg_le {u v Y y1 y0 q r : Int} (hY : 0 < Y) (eY : Y = y1 * 4294967296 + y0) (eu : u = q * y1 + r) : q ≤ (u * 4294967296 + v) / Y ↔ q * y0 ≤ 4294967296 * r + v := by
  rw [le_quo hY, eY, eu, Int.mul_add, Int.add_mul, ← Int.mul_assoc]
  generalize q * y1 = A
  generalize q * y0 = B
  omega
theorem dg_lt_b {u v Y : Int} (hY : 0 < Y) (hu : u < Y) (hv : v < 4294967296) : (u * 4294967296 + v) / Y < 4294967296 := by
  rw [quo_lt hY]; omega
theorem dg_init {u v Y y1 y0 : Int} (hY : 0 < Y) (eY : Y = y1 * 4294967296 + y0) (h1 : 2147483648 ≤ y1) (h0 : 0 ≤ y0) (h0' : y0 < 4294967296) (hu0 : 0 ≤ u) (hu : u < Y) (hv : v < 4294967296) :
    u = u / y1 * y1 + u % y1 ∧ 0 ≤ u % y1 ∧ u % y1 < y1 ∧ (u * 4294967296 + v) / Y ≤ u / y1 ∧ u / y1 ≤ 4294967297 ∧ 0 ≤ u / y1 := by
  obtain ⟨e, r0, r1⟩ := ediv_parts u y1 (by omega)
  refine ⟨e, r0, r1, ?_, ?_, Int.ediv_nonneg hu0 (by omega)⟩
  · have : (u * 4294967296 + v) / Y < u / y1 + 1 := by
      rw [quo_lt hY, eY]
      generalize u / y1 = q at *
      generalize u % y1 = r at *
      have q0 : 0 ≤ q + 1 := by
        rcases Int.lt_or_le q (-1) with h | h
        · have : q * y1 ≤ -1 * y1 := Int.mul_le_mul_of_nonneg_right (by omega) (by omega)
          omega
        · omega
      have a1 : 0 ≤ (q + 1) * y0 := Int.mul_nonneg q0 h0
      have a2 : (q + 1) * (y1 * 4294967296 + y0) = (q * y1 + y1) * 4294967296 + (q + 1) * y0 := by
        rw [Int.mul_add, ← Int.mul_assoc, Int.add_mul q 1 y1, Int.one_mul]
      rw [a2]; omega
    omega
  · have : u / y1 < 4294967298 := by rw [quo_lt (by omega)]; omega
    omega
theorem pr_bd {q y : Int} (h0 : 0 ≤ q) (h1 : q ≤ 4294967295) (g0 : 0 ≤ y) (g1 : y ≤ 4294967295) : 0 ≤ q * y ∧ q * y ≤ 18446744065119617025 := by
  refine ⟨Int.mul_nonneg h0 g0, ?_⟩
  have : q * y ≤ 4294967295 * 4294967295 := Int.mul_le_mul h1 g1 g0 (by omega)
  omega
/-- Where the rest has passed 2^32 the digit is right. -/
theorem dg_break {u v Y y1 y0 a c : Int} (hY : 0 < Y) (eY : Y = y1 * 4294967296 + y0) (eu : u = a * y1 + c) (hu : u < Y) (ha : a ≤ 4294967297) (ha0 : 1 ≤ a) (hc : 0 ≤ c) (h0 : 0 ≤ y0) (h0' : y0 ≤ 4294967295)
    (hv : 0 ≤ v) (hq : (u * 4294967296 + v) / Y + 1 ≤ a) (hx : 4294967296 ≤ c + y1) : a = (u * 4294967296 + v) / Y + 1 := by
  have h1 : a ≤ 4294967296 := by
    rcases Int.lt_or_le a 4294967297 with h | h
    · omega
    · have : a = 4294967297 := by omega
      subst this; omega
  have h7 := pr_bd (q := a - 1) (y := y0) (by omega) (by omega) h0 h0'
  have h6 : u = (a - 1) * y1 + (c + y1) := by rw [eu, Int.sub_mul]; omega
  have := (dg_le (v := v) hY eY h6).2 (by omega)
  omega
/-- The remaining digits. -/
theorem dg_rest {u v Y : Int} (hY : 0 < Y) (h : Y ≤ 18446744073709551615) : (u * 4294967296 + v - (u * 4294967296 + v) / Y * Y) % 18446744073709551616 = (u * 4294967296 + v) % Y := by
  obtain ⟨e, r0, r1⟩ := ediv_parts (u * 4294967296 + v) Y hY
  generalize (u * 4294967296 + v) / Y * Y = A at *
  generalize (u * 4294967296 + v) % Y = R at *
  omega
/-- Both digits together. -/
theorem dg_both {u v w Y : Int} (hY : 0 < Y) :
    (u * 4294967296 + v) / Y * 4294967296 + ((u * 4294967296 + v) % Y * 4294967296 + w) / Y = ((u * 4294967296 + v) * 4294967296 + w) / Y
    ∧ ((u * 4294967296 + v) % Y * 4294967296 + w) % Y = ((u * 4294967296 + v) * 4294967296 + w) % Y := by
  obtain ⟨e, r0, r1⟩ := ediv_parts (u * 4294967296 + v) Y hY
  generalize u * 4294967296 + v = a at *
  obtain ⟨f, s0, s1⟩ := ediv_parts (a % Y * 4294967296 + w) Y hY
  generalize a / Y = q at *
  generalize a % Y = r at *
  generalize hp : (r * 4294967296 + w) / Y = p at *
  generalize hs : (r * 4294967296 + w) % Y = s at *
  have : a * 4294967296 + w = (q * 4294967296 + p) * Y + s := by
    rw [Int.add_mul, Int.mul_assoc, Int.mul_comm 4294967296 Y, ← Int.mul_assoc]; omega
  obtain ⟨g1, g2⟩ := div_of this s0 s1
  exact ⟨g1.symm, g2.symm⟩
theorem dv_shift {x y p : Int} (hy : 0 < y) (hp : 0 < p) : x * p / (y * p) = x / y ∧ x * p % (y * p) = x % y * p := by
  obtain ⟨e, r0, r1⟩ := ediv_parts x y hy
  generalize x / y = q at *
  generalize x % y = r at *
  have h1 : x * p = q * (y * p) + r * p := by rw [e, Int.add_mul, Int.mul_assoc]
  have h2 : 0 ≤ r * p := Int.mul_nonneg r0 (by omega)
  have h3 : r * p < y * p := Int.mul_lt_mul_of_pos_right r1 hp
  exact div_of h1 h2 h3
end Go.Proofs.YtlhadociaekkhaaGreat
