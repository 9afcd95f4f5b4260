/- Plain laws of fixed numbers: what sums, products, quotients come to. -/
import Derived.Test.YtlhadociaekkhaaQLaw2
namespace Go.Proofs.Ytlhadociaekkhaa
set_option linter.unusedVariables false
open Go.RowKit
theorem add_mono {a b : Int} (c : Int) (h : a ≤ b) : fitV (addW a c) ≤ fitV (addW b c) := fitV_mono (by have := hd_mono h; unfold addW; omega)
theorem half_mono {a b : Int} (c : Int) (h : a ≤ b) : fitV (halfW a c) ≤ fitV (halfW b c) := fitV_mono (rnd_mono (by omega) (by have := hd_mono h; omega))
theorem sub_mono {a b : Int} (c : Int) (h : a ≤ b) : fitV (subW c b) ≤ fitV (subW c a) := fitV_mono (by have := hd_mono h; unfold subW; omega)
theorem mul_mono {a b c : Int} (h : a ≤ b) (hc : 0 ≤ c) : fitV (mulW a c) ≤ fitV (mulW b c) :=
  fitV_mono (rnd_mono (by omega) (Int.mul_le_mul_of_nonneg_right (hd_mono h) (by unfold hd; split <;> omega)))
theorem div_mono {a b c : Int} (h : a ≤ b) (hc : 0 ≤ c) : divV a c ≤ divV b c := by
  unfold divV
  by_cases z : c = 0
  · rw [if_pos z, if_pos z]; repeat' split <;> omega
  · rw [if_neg z, if_neg z]
    have hc' : 0 < hd c := by unfold hd; split <;> omega
    unfold divW
    rw [dvr_pos _ _ hc', dvr_pos _ _ hc']
    exact fitV_mono (rnd_mono hc' (by have := hd_mono h; omega))
theorem cut_in (x : Int) {a b : Int} (ha : InF a) (hb : InF b) : cutW x a b = fitC x := by unfold cutW; rw [bad_in ha.1, bad_in hb.1]; simp
theorem addW_in {a b : Int} (ha : InF a) (hb : InF b) : addW a b = a + b := by unfold addW; rw [hd_in ha.1, hd_in hb.1]
theorem subW_in {a b : Int} (ha : InF a) (hb : InF b) : subW a b = a + -b := by unfold subW; rw [hd_in ha.1, hd_in hb.1]
theorem mulW_in {a b : Int} (ha : InF a) (hb : InF b) : mulW a b = rnd (a * b) 4294967296 := by unfold mulW; rw [hd_in ha.1, hd_in hb.1]
theorem halfW_in {a b : Int} (ha : InF a) (hb : InF b) : halfW a b = rnd (a + b) 2 := by unfold halfW; rw [hd_in ha.1, hd_in hb.1]
theorem divW_in {a b : Int} (ha : InF a) (hb : InF b) : divW a b = dvr (a * 4294967296) b := by unfold divW; rw [hd_in ha.1, hd_in hb.1]
theorem neg_in {a : Int} (h : InF a) : InF (-a) := ⟨by omega, by omega⟩
/-- What was added is taken away. -/
theorem back_sub {a b : Int} (ha : InF a) (hb : InF b) (h : cutW (addW a b) a b = false) : fitV (addW a b) = a + b ∧ InF (a + b) ∧ fitV (subW (a + b) b) = a ∧ cutW (subW (a + b) b) (a + b) b = false := by
  rw [cut_in _ ha hb, addW_in ha hb] at h
  have k := fitC_no h
  rw [addW_in ha hb, (fitV_in k).1, subW_in k hb, cut_in _ k hb]
  have e : a + b + -b = a := by omega
  rw [e]
  exact ⟨rfl, k, (fitV_in ha).1, (fitV_in ha).2⟩
theorem divC_no {a b : Int} (ha : InF a) (hb : InF b) (h : divC a b = false) : b ≠ 0 ∧ divV a b = divW a b ∧ InF (divW a b) := by
  unfold divC at h
  by_cases z : b = 0
  · rw [if_pos z] at h; cases h
  · rw [if_neg z, cut_in _ ha hb] at h
    have k := fitC_no h
    refine ⟨z, ?_, k⟩
    unfold divV; rw [if_neg z, (fitV_in k).1]
theorem back_mul {a b q : Int} (ha : InF a) (hb : InF b) (hz : b ≠ 0) (hq : q = divW a b) (hqi : InF q) (h : cutW (mulW q b) q b = false) : dist (fitV (mulW q b)) a ≤ dist b 0 / 8589934592 + 1 := by
  rw [cut_in _ hqi hb] at h
  have k := fitC_no h
  rw [(fitV_in k).1]
  rw [divW_in ha hb] at hq
  have n1 := dvr_near (a * 4294967296) b hz
  rw [← hq] at n1
  rw [mulW_in hqi hb] at k ⊢
  have n2 := rnd_near (q * b) 4294967296 (by omega)
  generalize rnd (q * b) 4294967296 = m at *
  generalize q * b = p at *
  unfold dist
  split at n1 <;> split <;> split <;> omega
theorem same_add (a b : Int) : addW b a = addW a b := by unfold addW; omega
theorem same_mul (a b : Int) : mulW b a = mulW a b := by unfold mulW; rw [Int.mul_comm]
theorem neg_add' {a b : Int} (ha : InF a) (hb : InF b) : addW (-a) (-b) = -addW a b := by rw [addW_in (neg_in ha) (neg_in hb), addW_in ha hb]; omega
theorem neg_mul' {a b : Int} (ha : InF a) (hb : InF b) : mulW (-a) (-b) = mulW a b := by rw [mulW_in (neg_in ha) (neg_in hb), mulW_in ha hb, Int.neg_mul_neg]
theorem neg_sub' {a b : Int} (ha : InF a) (hb : InF b) : subW b a = -subW a b := by rw [subW_in hb ha, subW_in ha hb]; omega
theorem add_0 {a : Int} (ha : InF a) : fitV (addW a 0) = a ∧ cutW (addW a 0) a 0 = false := by
  rw [addW_in ha ⟨by omega, by omega⟩, cut_in _ ha ⟨by omega, by omega⟩, Int.add_zero]; exact fitV_in ha
theorem mul_1 {a : Int} (ha : InF a) : fitV (mulW a 4294967296) = a ∧ cutW (mulW a 4294967296) a 4294967296 = false := by
  rw [mulW_in ha ⟨by omega, by omega⟩, cut_in _ ha ⟨by omega, by omega⟩, rnd_mul _ _ (by omega)]; exact fitV_in ha
theorem mul_0 {a : Int} (ha : InF a) : fitV (mulW a 0) = 0 ∧ cutW (mulW a 0) a 0 = false := by
  rw [mulW_in ha ⟨by omega, by omega⟩, cut_in _ ha ⟨by omega, by omega⟩, Int.mul_zero]; decide
theorem div_1 {a : Int} (ha : InF a) : divV a 4294967296 = a ∧ divC a 4294967296 = false := by
  unfold divV divC
  rw [if_neg (by omega), if_neg (by omega), divW_in ha ⟨by omega, by omega⟩, cut_in _ ha ⟨by omega, by omega⟩, dvr_pos _ _ (by omega), rnd_mul _ _ (by omega)]; exact fitV_in ha
theorem half_1 {a : Int} (ha : InF a) : fitV (halfW a a) = a ∧ cutW (halfW a a) a a = false := by
  have e : a + a = a * 2 := by omega
  rw [halfW_in ha ha, cut_in _ ha ha, e, rnd_mul _ _ (by omega)]; exact fitV_in ha
end Go.Proofs.Ytlhadociaekkhaa
