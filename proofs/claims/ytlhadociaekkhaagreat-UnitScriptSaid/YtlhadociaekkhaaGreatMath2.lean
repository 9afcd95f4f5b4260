/- Plain laws of rounding. -/
import Derived.Test.YtlhadociaekkhaaGreatDiv3
namespace Go.Proofs.YtlhadociaekkhaaGreat
set_option linter.unusedVariables false
theorem rh_exact (m n : Int) (hm : 0 ≤ m) (hn : 0 < n) : rh (m * n) n = m := by
  unfold rh
  rw [Int.mul_ediv_cancel _ (by omega), Int.mul_emod_left]
  have : near m 0 n = false := by unfold near; rw [decide_eq_false_iff_not]; omega
  rw [this]; rfl
theorem iabs_mul (m n : Int) : iabs (m * n) = iabs m * iabs n := by
  unfold iabs
  rcases Int.lt_trichotomy m 0 with h | h | h <;> rcases Int.lt_trichotomy n 0 with g | g | g
  · have := Int.mul_pos_of_neg_of_neg h g
    rw [if_neg (by omega), if_pos h, if_pos g, Int.neg_mul_neg]
  · subst g; simp
  · have := Int.mul_neg_of_neg_of_pos h g
    rw [if_pos this, if_pos h, if_neg (by omega), Int.neg_mul]
  · subst h; simp
  · subst h; simp
  · subst h; simp
  · have := Int.mul_neg_of_pos_of_neg h g
    rw [if_pos this, if_neg (by omega), if_pos g, Int.mul_neg]
  · subst g; simp
  · have := Int.mul_pos h g
    rw [if_neg (by omega), if_neg (by omega), if_neg (by omega)]
theorem iabs_nn (x : Int) : 0 ≤ iabs x := by unfold iabs; split <;> omega
theorem iabs_pos (x : Int) (h : ¬ x = 0) : 0 < iabs x := by unfold iabs; split <;> omega
/-- A product, divided by one of its parts, is the other one. -/
theorem dvr_mul (m n : Int) (hn : ¬ n = 0) : dvr (m * n) n = m := by
  unfold dvr
  rw [iabs_mul, rh_exact _ _ (iabs_nn m) (iabs_pos n hn)]
  unfold sgn iabs
  rcases Int.lt_trichotomy m 0 with h | h | h <;> rcases Int.lt_trichotomy n 0 with g | g | g
  · have := Int.mul_pos_of_neg_of_neg h g
    rw [if_pos h, if_pos (by simp; omega)]; omega
  · omega
  · have := Int.mul_neg_of_neg_of_pos h g
    rw [if_pos h, if_pos (by simp; omega)]; omega
  · subst h; simp
  · omega
  · subst h; simp
  · have := Int.mul_neg_of_pos_of_neg h g
    rw [if_neg (show ¬ m < 0 by omega), if_neg (by simp; omega)]
  · omega
  · have := Int.mul_pos h g
    rw [if_neg (show ¬ m < 0 by omega), if_neg (by simp; omega)]
theorem rh_zero (d : Int) (hd : 0 < d) : rh 0 d = 0 := by
  have := rh_exact 0 d (by omega) hd
  rw [Int.zero_mul] at this; exact this
/-- Of the turned number all is turned. -/
theorem rnd_neg (a d : Int) (hd : 0 < d) : rnd (-a) d = -rnd a d := by
  unfold rnd
  have : iabs (-a) = iabs a := by unfold iabs; split <;> split <;> omega
  rw [this]
  rcases Int.lt_trichotomy a 0 with h | h | h
  · rw [show decide (-a < 0) = false from decide_eq_false (by omega), show decide (a < 0) = true from decide_eq_true h]; simp [sgn]
  · subst h
    have : iabs 0 = 0 := by decide
    rw [this, rh_zero d hd]; simp [sgn]
  · rw [show decide (-a < 0) = true from decide_eq_true (by omega), show decide (a < 0) = false from decide_eq_false (by omega)]; simp [sgn]
/-- The nearest is half a step away at most, and just so far only where it is even. -/
theorem rh_near (s d : Int) (hs : 0 ≤ s) (hd : 0 < d) : -d ≤ 2 * (s - rh s d * d) ∧ 2 * (s - rh s d * d) ≤ d ∧ (2 * (s - rh s d * d) = d ∨ 2 * (s - rh s d * d) = -d → rh s d % 2 = 0) ∧ 0 ≤ rh s d := by
  obtain ⟨e, r0, r1⟩ := ediv_parts s d hd
  have q0 := Int.ediv_nonneg hs (Int.le_of_lt hd)
  unfold rh incr near
  generalize s / d = q at *
  generalize s % d = r at *
  by_cases h : d - r < r ∨ d - r = r ∧ q % 2 = 1
  · rw [if_pos (by simpa using h), Int.add_mul]; omega
  · rw [if_neg (by simpa using h)]; omega
theorem rnd_near (x d : Int) (hd : 0 < d) : -d ≤ 2 * (x - rnd x d * d) ∧ 2 * (x - rnd x d * d) ≤ d ∧ (2 * (x - rnd x d * d) = d ∨ 2 * (x - rnd x d * d) = -d → rnd x d % 2 = 0) := by
  obtain ⟨a, b, c, e⟩ := rh_near (iabs x) d (iabs_nn x) hd
  unfold rnd sgn
  by_cases h : x < 0
  · have hx : iabs x = -x := if_pos h
    rw [if_pos (by simpa using h)]
    rw [hx] at a b c e ⊢
    rw [Int.neg_mul]
    generalize rh (-x) d * d = P at *
    omega
  · have hx : iabs x = x := if_neg h
    rw [if_neg (by simpa using h)]
    rw [hx] at a b c e ⊢
    omega
/-- A product of two of 64 bits has 127 at most. -/
theorem mul_rng (m n : Int) (h1 : -9223372036854775808 ≤ m) (h2 : m ≤ 9223372036854775807) (h3 : -9223372036854775808 ≤ n) (h4 : n ≤ 9223372036854775807) :
    -85070591730234615865843651857942052864 ≤ m * n ∧ m * n ≤ 85070591730234615865843651857942052864 := by
  have a : iabs m ≤ 9223372036854775808 := by unfold iabs; omega
  have b : iabs n ≤ 9223372036854775808 := by unfold iabs; omega
  have c : iabs m * iabs n ≤ 9223372036854775808 * 9223372036854775808 := Int.mul_le_mul a b (iabs_nn n) (by omega)
  rw [← iabs_mul] at c
  revert c
  unfold iabs
  generalize m * n = P
  intro c
  omega
def hd (a : Int) : Int := if a < -9223372036854775807 then -9223372036854775807 else a
theorem max_hd (a : Int) : max a (-9223372036854775807) = hd a := by unfold hd; split <;> omega
theorem hd_bd (a : Int) (h1 : -9223372036854775808 ≤ a) (h2 : a ≤ 9223372036854775807) : -9223372036854775807 ≤ hd a ∧ hd a ≤ 9223372036854775807 := by unfold hd; split <;> omega
end Go.Proofs.YtlhadociaekkhaaGreat
