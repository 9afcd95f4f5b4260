/- A frame of which bits are turned within 32 in a row has another sum. -/
import Derived.Test.YtlioogkcndahnaaFrame12
namespace Go.Proofs.Ytlioogkcndahnaa
set_option linter.unusedVariables false
set_option maxRecDepth 100000
open Go.RowKit
/-- The first so many bits of a mask. -/
theorem mask_next (m i : Nat) : m % 2 ^ (i + 1) = (m % 2 ^ i) ^^^ (if m / 2 ^ i % 2 = 1 then 2 ^ i else 0) := by
  apply Nat.eq_of_testBit_eq
  intro j
  rw [Nat.testBit_xor, Nat.testBit_mod_two_pow, Nat.testBit_mod_two_pow]
  have hb : (if m / 2 ^ i % 2 = 1 then 2 ^ i else 0).testBit j = (decide (j = i) && m.testBit i) := by
    have ht : m.testBit i = decide (m / 2 ^ i % 2 = 1) := by rw [Nat.testBit_eq_decide_div_mod_eq]
    rw [ht]
    by_cases h : m / 2 ^ i % 2 = 1
    · rw [if_pos h, Nat.testBit_two_pow]; simp [h, eq_comm]
    · rw [if_neg h]; simp [h]
  rw [hb]
  by_cases h1 : j < i
  · simp [h1, show j < i + 1 by omega, show ¬ j = i by omega]
  · by_cases h2 : j = i
    · subst h2; simp
    · simp [h1, h2, show ¬ j < i + 1 by omega]
/-- What the sum's way comes to be other by, when the first i of the mask's bits were turned from bit 'at' on, R bits and 32 ahead of the end. -/
def turnD (R m i : Nat) : Nat := stpN R (stpN 32 (m % 2 ^ i))
theorem turnD_0 (R m : Nat) : turnD R m 0 = 0 := by unfold turnD; rw [Nat.pow_zero, Nat.mod_one, stpN_0, stpN_0]
theorem turnD_skip (R m i : Nat) (h : ¬ m / 2 ^ i % 2 = 1) : turnD R m (i + 1) = turnD R m i := by unfold turnD; rw [mask_next, if_neg h, Nat.xor_zero]
theorem turnD_bit (R m i : Nat) (hi : i < 32) (h : m / 2 ^ i % 2 = 1) : turnD R m (i + 1) = turnD R m i ^^^ stpN (R + 32 - i) 1 := by
  unfold turnD
  rw [mask_next, if_pos h, stpN_xor, stpN_xor]
  congr 1
  have := stpN_bit 32 i R (by omega)
  rw [stpN_add] at this
  rw [this]
  congr 1; omega
theorem turnD_all {R m : Nat} (h0 : m ≠ 0) (h1 : m < 4294967296) : turnD R m 32 ≠ 0 := by
  unfold turnD
  have e : m % 2 ^ 32 = m := Nat.mod_eq_of_lt (by omega)
  rw [e]
  intro h
  exact h0 (stpN_no 32 h1 (stpN_no R (stpN_lt 32 h1) h))
/-- One bit of one byte is turned. -/
def flip (C : List Int) (k : Nat) : List Int := C.set (k / 8) (((C.getD (k / 8) 0).toNat ^^^ 2 ^ (k % 8) : Nat) : Int)
theorem flip_len (C : List Int) (k : Nat) : (flip C k).length = C.length := by simp [flip]
theorem flip_all {C : List Int} (h : AllB C) (k : Nat) (hk : k / 8 < C.length) : AllB (flip C k) := by
  intro x hx
  unfold flip at hx
  rcases List.mem_or_eq_of_mem_set hx with hx | rfl
  · exact h x hx
  · have hb := h.get (k / 8) hk
    have h2 : 2 ^ (k % 8) < 256 := by
      have : 2 ^ (k % 8) < 2 ^ 8 := Nat.pow_lt_pow_right (by omega) (by omega)
      omega
    have := xor_lt8 (a := (C.getD (k / 8) 0).toNat) (b := 2 ^ (k % 8)) (by omega) h2
    omega
theorem flip_head (C : List Int) (k j : Nat) (hj : j < k / 8) : (flip C k).getD j 0 = C.getD j 0 := by
  unfold flip
  simp [List.getD, show ¬ k / 8 = j by omega]
theorem nn_set (C : List Int) (j v : Nat) : nn (C.set j (v : Int)) = (nn C).set j v := by
  unfold nn; rw [List.map_set]; simp
theorem flip_reg (x : Nat) {C : List Int} {k : Nat} (h1 : 8 ≤ k) (h2 : k / 8 < C.length) : reg x (nn ((flip C k).drop 1)) = reg x (nn (C.drop 1)) ^^^ stpN (8 * C.length - k) 1 := by
  unfold flip
  obtain ⟨q, hq⟩ : ∃ q, k / 8 = q + 1 := ⟨k / 8 - 1, by omega⟩
  rw [hq] at h2 ⊢
  have e1 : (C.set (q + 1) (((C.getD (q + 1) 0).toNat ^^^ 2 ^ (k % 8) : Nat) : Int)).drop 1 = (C.drop 1).set q (((C.getD (q + 1) 0).toNat ^^^ 2 ^ (k % 8) : Nat) : Int) := by
    cases C with
    | nil => simp at h2
    | cons a C => simp
  have e2 : (C.getD (q + 1) 0).toNat = (nn (C.drop 1)).getD q 0 := by
    cases C with
    | nil => simp at h2
    | cons a C =>
      simp only [List.length_cons] at h2
      have : q < C.length := by omega
      simp [List.getD, this]
  rw [e1, nn_set, e2, reg_set _ _ _ _ (by simp; omega)]
  congr 1
  have e3 : (nn (C.drop 1)).length = C.length - 1 := by simp
  rw [e3]
  have := stpN_bit (8 * (C.length - 1 - q)) (k % 8) 0 (by omega)
  rw [Nat.add_zero, Nat.add_zero] at this
  rw [this]
  congr 1; omega
/-- Bytes of which the sum fits. -/
theorem sum_fits {X : List Int} (hX : AllB X) (hl : 3 ≤ X.length) (hg : X.length = gN X + 7) (hs : sumOk tab X = true) : reg 4294967295 (nn (X.drop 1)) = stpN 32 4294967295 := by
  unfold sumOk at hs
  simp only [decide_eq_true_eq] at hs
  have hY : AllB ((X.drop 1).take (gN X + 2)) := fun x hx => hX x (List.mem_of_mem_drop (List.mem_of_mem_take hx))
  have e : X.drop 1 = (X.drop 1).take (gN X + 2) ++ tailI (sumv tab (nn ((X.drop 1).take (gN X + 2)))) := by
    rw [hs]
    have e1 : (X.drop (gN X + 3)).take 4 = (X.drop 1).drop (gN X + 2) := by
      rw [List.take_of_length_le (by simp; omega), List.drop_drop]; congr 1; omega
    rw [e1, List.take_append_drop]
  have hlt := sumv_lt F32.tab hY
  have e2 : nn (tailI (sumv tab (nn ((X.drop 1).take (gN X + 2))))) = tailL (sumv tab (nn ((X.drop 1).take (gN X + 2)))) := by
    obtain ⟨s, hs⟩ : ∃ s, sumv tab (nn ((X.drop 1).take (gN X + 2))) = s := ⟨_, rfl⟩
    rw [hs] at hlt ⊢
    have a1 : ((s : Int) % 256).toNat = s % 256 := by omega
    have a2 : ((s : Int) / 256 % 256).toNat = s / 256 % 256 := by omega
    have a3 : ((s : Int) / 65536 % 256).toNat = s / 65536 % 256 := by omega
    have a4 : ((s : Int) / 16777216).toNat = s / 16777216 % 256 := by omega
    simp only [nn, tailI, tailL, List.map_cons, List.map_nil, a1, a2, a3, a4]
  rw [e]
  have e3 : ∀ a b : List Int, nn (a ++ b) = nn a ++ nn b := fun a b => List.map_append
  rw [e3, e2]
  exact sumv_ok _ hY.nn
/-- Turned bits are told. -/
theorem turned_E {P C : List Int} (hP : gE tab P = 0) (hPl : P.length = gN P + 7) (hPA : AllB P) (hC : AllB C) (hl : C.length = P.length) (hh : ∀ j, j < 3 → C.getD j 0 = P.getD j 0) {D : Nat} (hD : D ≠ 0)
    (hr : reg 4294967295 (nn (C.drop 1)) = reg 4294967295 (nn (P.drop 1)) ^^^ D) : gE tab C = 14 := by
  obtain ⟨h1, h2, h3, h4, h5, h6, h7⟩ := gE_ok hP
  have hn : gN C = gN P := by unfold gN; rw [hh 1 (by omega), hh 2 (by omega)]
  have hno : sumOk tab C ≠ true := by
    intro h
    have r1 := sum_fits hC (by omega) (by omega) h
    have r2 := sum_fits hPA h3 hPl h7
    rw [r1, r2] at hr
    have : D = 0 := by
      have e : stpN 32 4294967295 ^^^ (stpN 32 4294967295 ^^^ D) = stpN 32 4294967295 ^^^ stpN 32 4294967295 := by rw [← hr]
      rw [← Nat.xor_assoc, Nat.xor_self, Nat.zero_xor] at e
      exact e
    exact hD this
  unfold gE
  rw [hn, hl, if_neg (by omega), if_neg (by rw [hh 0 (by omega)]; simpa using h2), if_neg (by omega), if_neg (by omega), if_neg (by omega), if_neg hno]
theorem turn_test (m i : Nat) : (((m : Int) / 2 ^ i).tmod 2 == 1) = decide (m / 2 ^ i % 2 = 1) := by
  have e : ((m : Int) / 2 ^ i) = ((m / 2 ^ i : Nat) : Int) := by rw [Int.natCast_ediv]; simp
  rw [e]
  generalize m / 2 ^ i = q
  rw [Int.tmod_eq_emod_of_nonneg (by omega)]
  by_cases h : q % 2 = 1
  · rw [decide_eq_true h]
    exact beq_iff_eq.2 (by omega)
  · rw [decide_eq_false h]
    exact beq_eq_false_iff_ne.2 (by omega)
theorem flip_val {x : Int} {r : Nat} (h0 : 0 ≤ x) (h1 : x < 256) (hr : r < 8) : bits .xor .u8 x ((2 : Int) ^ r % 256) = ((x.toNat ^^^ 2 ^ r : Nat) : Int) := by
  have e : (2 : Int) ^ r % 256 = ((2 ^ r : Nat) : Int) := by
    obtain rfl | rfl | rfl | rfl | rfl | rfl | rfl | rfl : r = 0 ∨ r = 1 ∨ r = 2 ∨ r = 3 ∨ r = 4 ∨ r = 5 ∨ r = 6 ∨ r = 7 := by omega
    all_goals rfl
  have h2 : 2 ^ r < 256 := by
    have : 2 ^ r < 2 ^ 8 := Nat.pow_lt_pow_right (by omega) (by omega)
    omega
  have := u8_xor_nat x.toNat (2 ^ r) (by omega) h2
  rw [Int.toNat_of_nonneg h0] at this
  rw [e]; exact this
end Go.Proofs.Ytlioogkcndahnaa
