/- Plain laws of fixed numbers: rounding, fitting, order. -/
import Derived.Test.YtlhadociaekkhaaQA
namespace Go.Proofs.Ytlhadociaekkhaa
set_option linter.unusedVariables false
theorem hd_in {a : Int} (h : -9223372036854775807 ≤ a) : hd a = a := by unfold hd; rw [if_neg (by omega)]
theorem hd_mono {a b : Int} (h : a ≤ b) : hd a ≤ hd b := by unfold hd; split <;> split <;> omega
def bad (a : Int) : Bool := decide (a < -9223372036854775807)
theorem bad_in {a : Int} (h : -9223372036854775807 ≤ a) : bad a = false := by unfold bad; simp; omega
/-- What an operation comes to. -/
def addW (a b : Int) : Int := hd a + hd b
def subW (a b : Int) : Int := hd a + -hd b
def halfW (a b : Int) : Int := rnd (hd a + hd b) 2
def mulW (a b : Int) : Int := rnd (hd a * hd b) 4294967296
def divW (a b : Int) : Int := dvr (hd a * 4294967296) (hd b)
def cutW (x a b : Int) : Bool := fitC x || (bad a || bad b)
def divV (a b : Int) : Int := if b = 0 then (if a = 0 then 0 else if a < 0 then -9223372036854775807 else 9223372036854775807) else fitV (divW a b)
def divC (a b : Int) : Bool := if b = 0 then true else cutW (divW a b) a b
theorem rnd_one (x : Int) : rnd x 1 = x := by
  have := rnd_near x 1 (by omega)
  omega
theorem rnd_mono {x y d : Int} (hd : 0 < d) (h : x ≤ y) : rnd x d ≤ rnd y d := by
  have a := rnd_near x d hd
  have b := rnd_near y d hd
  rcases Int.lt_or_le (rnd y d) (rnd x d) with g | g
  · rcases Int.lt_or_eq_of_le h with k | k
    · have : (rnd y d + 1) * d ≤ rnd x d * d := Int.mul_le_mul_of_nonneg_right (by omega) (by omega)
      rw [Int.add_mul] at this
      omega
    · subst k; omega
  · exact g
theorem rnd_mul (x d : Int) (hd : 0 < d) : rnd (x * d) d = x := by
  have a := rnd_near (x * d) d hd
  rcases Int.lt_trichotomy (rnd (x * d) d) x with g | g | g
  · have : (rnd (x * d) d + 1) * d ≤ x * d := Int.mul_le_mul_of_nonneg_right (by omega) (by omega)
    rw [Int.add_mul] at this; omega
  · exact g
  · have : (x + 1) * d ≤ rnd (x * d) d * d := Int.mul_le_mul_of_nonneg_right (by omega) (by omega)
    rw [Int.add_mul] at this; omega
theorem dvr_pos (x d : Int) (h : 0 < d) : dvr x d = rnd x d := by
  unfold dvr rnd
  have e : iabs d = d := by unfold iabs; rw [if_neg (by omega)]
  have f : decide (d < 0) = false := by simp; omega
  rw [e, f]
  cases decide (x < 0) <;> rfl
theorem dvr_neg (x d : Int) (h : d < 0) : dvr x d = -rnd x (-d) := by
  unfold dvr rnd
  have e : iabs d = -d := by unfold iabs; rw [if_pos h]
  have f : decide (d < 0) = true := by simpa using h
  rw [e, f]
  cases decide (x < 0) <;> simp [sgn]
theorem dvr_near (x d : Int) (h : d ≠ 0) : -(if d < 0 then -d else d) ≤ 2 * (x - dvr x d * d) ∧ 2 * (x - dvr x d * d) ≤ (if d < 0 then -d else d) := by
  rcases Int.lt_or_le d 0 with g | g
  · have a := rnd_near x (-d) (by omega)
    rw [dvr_neg x d g, if_pos g]
    rw [Int.mul_neg] at a
    rw [Int.neg_mul]; omega
  · have a := rnd_near x d (by omega)
    rw [dvr_pos x d (by omega), if_neg (by omega)]; omega
theorem fitV_bd (x : Int) : -9223372036854775807 ≤ fitV x ∧ fitV x ≤ 9223372036854775807 := by unfold fitV; split <;> (try split) <;> omega
theorem fitV_in {x : Int} (h : -9223372036854775807 ≤ x ∧ x ≤ 9223372036854775807) : fitV x = x ∧ fitC x = false := by
  constructor
  · unfold fitV; rw [if_neg (by omega), if_neg (by omega)]
  · unfold fitC; simp; omega
theorem fitC_no {x : Int} (h : fitC x = false) : -9223372036854775807 ≤ x ∧ x ≤ 9223372036854775807 := by unfold fitC at h; simp at h; omega
theorem fitV_mono {x y : Int} (h : x ≤ y) : fitV x ≤ fitV y := by unfold fitV; repeat' split <;> omega
theorem fit_neg (x : Int) : fitV (-x) = -fitV x ∧ fitC (-x) = fitC x := by
  constructor
  · unfold fitV; repeat' split <;> omega
  · unfold fitC; rw [decide_eq_decide]; omega
theorem mul_bd (x y : Int) (h1 : -9223372036854775807 ≤ x) (h2 : x ≤ 9223372036854775807) (h3 : -9223372036854775807 ≤ y) (h4 : y ≤ 9223372036854775807) :
    -85070591730234615847396907784232501249 ≤ x * y ∧ x * y ≤ 85070591730234615847396907784232501249 := by
  have k : ∀ a b : Int, 0 ≤ a → a ≤ 9223372036854775807 → 0 ≤ b → b ≤ 9223372036854775807 → 0 ≤ a * b ∧ a * b ≤ 85070591730234615847396907784232501249 :=
    fun a b a0 a1 b0 b1 => ⟨Int.mul_nonneg a0 b0, by have := Int.mul_le_mul a1 b1 b0 (by omega); omega⟩
  rcases Int.lt_or_le x 0 with g | g <;> rcases Int.lt_or_le y 0 with f | f
  · have := k (-x) (-y) (by omega) (by omega) (by omega) (by omega); rw [Int.neg_mul_neg] at this; omega
  · have := k (-x) y (by omega) (by omega) (by omega) (by omega); rw [Int.neg_mul] at this; omega
  · have := k x (-y) (by omega) (by omega) (by omega) (by omega); rw [Int.mul_neg] at this; omega
  · have := k x y (by omega) (by omega) (by omega) (by omega); omega
theorem rnd_bd {x d m : Int} (hd : 0 < d) (h1 : -(m * d) ≤ x) (h2 : x ≤ m * d) : -m ≤ rnd x d ∧ rnd x d ≤ m := by
  have a := rnd_mono hd h1
  have b := rnd_mono hd h2
  rw [rnd_mul m d hd] at b
  have e : -(m * d) = (-m) * d := by rw [Int.neg_mul]
  rw [e, rnd_mul (-m) d hd] at a
  exact ⟨a, b⟩
end Go.Proofs.Ytlhadociaekkhaa
