/- Plain laws of lists: what is farthest, what was added, what products of sums come to. -/
import Derived.Test.YtlhadociaekkhaaQVec5
namespace Go.Proofs.Ytlhadociaekkhaa
set_option linter.unusedVariables false
open Go.RowKit
theorem opSub0 {x : Int} (h : InF x) : opSub 0 x = (-x, false) := by
  have z : InF (0 : Int) := ⟨by omega, by omega⟩
  have e := subW_in z h
  have n := neg_in h
  have k : InF (0 + -x) := by rw [Int.zero_add]; exact n
  unfold opSub
  rw [cut_in _ z h, e, (fitV_in k).1, (fitV_in k).2, Int.zero_add]
theorem mostR_law (i : Bool) (c : Int) {L : List Int} (hL : AllI L) (k : Nat) (hk : k ≤ L.length) :
    0 ≤ (mostR i c L k).1 ∧ (∀ j, j < k → -9223372036854775807 ≤ L.getD j 0 → L.getD j 0 ≤ (mostR i c L k).1 ∧ -(L.getD j 0) ≤ (mostR i c L k).1) ∧
      ((∀ j, j < k → -9223372036854775807 ≤ L.getD j 0) → (mostR i c L k).2.1 = i ∧ ((mostR i c L k).1 = 0 ∨ ∃ j, j < k ∧ (L.getD j 0 = (mostR i c L k).1 ∨ -(L.getD j 0) = (mostR i c L k).1))) := by
  induction k with
  | zero => exact ⟨by unfold mostR; simp, fun j hj => absurd hj (by omega), fun _ => ⟨rfl, .inl rfl⟩⟩
  | succ k ih =>
    obtain ⟨h0, h1, h2⟩ := ih (by omega)
    have hx := hL.get (k := k) (by omega)
    obtain ⟨P, hP⟩ : ∃ P, mostR i c L k = P := ⟨_, rfl⟩
    obtain ⟨m, f, d⟩ := P
    have e : mostR i c L (k + 1) = if L.getD k 0 < 0 then (max m (opSub 0 (L.getD k 0)).1, f || (opSub 0 (L.getD k 0)).2, d + 1) else (max m (L.getD k 0), f, d) := by
      show (if L.getD k 0 < 0 then (max (mostR i c L k).1 (opSub 0 (L.getD k 0)).1, (mostR i c L k).2.1 || (opSub 0 (L.getD k 0)).2, (mostR i c L k).2.2 + 1) else (max (mostR i c L k).1 (L.getD k 0), (mostR i c L k).2.1, (mostR i c L k).2.2)) = _
      rw [hP]
    rw [hP] at h0 h1 h2
    simp only at h0 h1 h2
    obtain ⟨x, hxx⟩ : ∃ x, L.getD k 0 = x := ⟨_, rfl⟩
    rw [hxx] at e hx
    by_cases hneg : x < 0
    · rw [if_pos hneg] at e
      rw [e]
      simp only
      refine ⟨by omega, fun j hj hb => ?_, fun hall => ?_⟩
      · by_cases hjk : j = k
        · subst hjk
          rw [hxx] at hb ⊢
          rw [opSub0 ⟨hb, by omega⟩]
          simp only
          omega
        · have := h1 j (by omega) hb
          omega
      · have hk2 := hall k (by omega)
        rw [hxx] at hk2
        obtain ⟨g1, g2⟩ := h2 (fun j hj => hall j (by omega))
        rw [opSub0 ⟨hk2, by omega⟩, g1]
        simp only [Bool.or_false, true_and]
        by_cases hm : m ≤ -x
        · exact .inr ⟨k, by omega, by rw [hxx]; omega⟩
        · have em : max m (-x) = m := by omega
          rw [em]
          rcases g2 with g2 | ⟨j, hj, g2⟩
          · exact .inl g2
          · exact .inr ⟨j, by omega, g2⟩
    · rw [if_neg hneg] at e
      rw [e]
      simp only
      refine ⟨by omega, fun j hj hb => ?_, fun hall => ?_⟩
      · by_cases hjk : j = k
        · subst hjk
          rw [hxx] at hb ⊢
          omega
        · have := h1 j (by omega) hb
          omega
      · obtain ⟨g1, g2⟩ := h2 (fun j hj => hall j (by omega))
        refine ⟨g1, ?_⟩
        by_cases hm : m ≤ x
        · exact .inr ⟨k, by omega, by rw [hxx]; omega⟩
        · have em : max m x = m := by omega
          rw [em]
          rcases g2 with g2 | ⟨j, hj, g2⟩
          · exact .inl g2
          · exact .inr ⟨j, by omega, g2⟩
/-- Is one of the first k numbers just so far, or is n 0? -/
def isR (n : Int) (L : List Int) : Nat → Bool
  | 0 => n == 0
  | k + 1 => isR n L k || (L.getD k 0 == n || -(L.getD k 0) == n)
theorem isR_yes (n : Int) (L : List Int) (k : Nat) (h : n = 0 ∨ ∃ j, j < k ∧ (L.getD j 0 = n ∨ -(L.getD j 0) = n)) : isR n L k = true := by
  induction k with
  | zero =>
    rcases h with h | ⟨j, hj, _⟩
    · unfold isR; simp [h]
    · omega
  | succ k ih =>
    unfold isR
    rcases h with h | ⟨j, hj, h⟩
    · rw [ih (.inl h)]; rfl
    · by_cases e : j = k
      · rw [e] at h
        have h' : (L.getD k 0 == n || -(L.getD k 0) == n) = true := by
          rw [Bool.or_eq_true]
          rcases h with h | h
          · exact .inl (by rw [h]; exact beq_self_eq_true n)
          · exact .inr (by rw [h]; exact beq_self_eq_true n)
        rw [h', Bool.or_true]
      · rw [ih (.inr ⟨j, by omega, h⟩)]; rfl
theorem mapG_get (g : Bool → Int → Int → Int × Bool) (i : Bool) (a b : List Int) (n j : Nat) (h : j < n) : (mapG g i a b n).1.getD j 0 = (g (mapG g i a b j).2 (a.getD j 0) (b.getD j 0)).1 := by
  induction n with
  | zero => omega
  | succ n ih =>
    have hl := mapG_len g i a b n
    show ((mapG g i a b n).1 ++ [_]).getD j 0 = _
    by_cases e : j = n
    · subst e
      simp [List.getD, hl]
    · rw [← ih (by omega)]
      have hj : j < (mapG g i a b n).1.length := by omega
      simp [List.getD, List.getElem?_append_left hj]
theorem addW0 {x : Int} (hx : InI x) : fitV (addW 0 x) = hd x := by
  have h := hd_bd x hx.1 hx.2
  have e : addW 0 x = hd x := by unfold addW; rw [hd_0, Int.zero_add]
  rw [e, (fitV_in h).1]
theorem hd_hd {x : Int} (hx : InI x) : hd (hd x) = hd x := hd_in (hd_bd x hx.1 hx.2).1
theorem gSum_run (i : Bool) (x y : Int) : gSum i x y = ((opAdd (opAdd 0 x).1 y).1, (i || (opAdd 0 x).2) || (opAdd (opAdd 0 x).1 y).2) := by
  unfold gSum runL
  simp only [List.foldl_cons, List.foldl_nil, acc]
theorem gSum_val (i : Bool) {x y : Int} (hx : InI x) : (gSum i x y).1 = fitV (hd x + hd y) := by
  rw [gSum_run]
  unfold opAdd
  simp only
  rw [addW0 hx]
  unfold addW
  rw [hd_hd hx]
theorem gSum_flag (i : Bool) (x y : Int) : (gSum i x y).2 = ((i || cutW (addW 0 x) 0 x) || cutW (addW (fitV (addW 0 x)) y) (fitV (addW 0 x)) y) := by
  rw [gSum_run]
  unfold opAdd
  rfl
theorem bad_no {x : Int} (h : bad x = false) : -9223372036854775807 ≤ x := by unfold bad at h; simp at h; omega
theorem cut_no {x a b : Int} (h : cutW x a b = false) : fitC x = false ∧ -9223372036854775807 ≤ a ∧ -9223372036854775807 ≤ b := by
  unfold cutW at h
  simp only [Bool.or_eq_false_iff] at h
  exact ⟨h.1, bad_no h.2.1, bad_no h.2.2⟩
theorem gSum_back {i : Bool} {x y : Int} (hx : InI x) (hy : InI y) (h : (gSum i x y).2 = false) : i = false ∧ InF x ∧ InF y ∧ InF (x + y) ∧ (gSum i x y).1 = x + y ∧ gLess false (x + y) y = (x, false) := by
  rw [gSum_flag] at h
  simp only [Bool.or_eq_false_iff] at h
  obtain ⟨⟨h1, h2⟩, h3⟩ := h
  have fx : InF x := ⟨(cut_no h2).2.2, by have := hx.2; omega⟩
  have fy : InF y := ⟨(cut_no h3).2.2, by have := hy.2; omega⟩
  rw [addW0 hx, hd_in fx.1] at h3
  obtain ⟨e1, e2, e3, e4⟩ := back_sub fx fy h3
  refine ⟨h1, fx, fy, e2, ?_, ?_⟩
  · rw [gSum_val i hx, hd_in fx.1, hd_in fy.1]; exact (fitV_in e2).1
  · unfold gLess opSub
    simp only [Bool.false_or]
    rw [e3, e4]
theorem sum_comm (i j : Bool) {a b : List Int} (ha : AllI a) (hb : AllI b) (k : Nat) (h1 : k ≤ a.length) (h2 : k ≤ b.length) : (mapG gSum i a b k).1 = (mapG gSum j b a k).1 := by
  induction k with
  | zero => rfl
  | succ k ih =>
    show (mapG gSum i a b k).1 ++ [_] = (mapG gSum j b a k).1 ++ [_]
    rw [ih (by omega) (by omega), gSum_val _ (ha.get (by omega)), gSum_val _ (hb.get (by omega)), Int.add_comm]
theorem mapG_no {i : Bool} {a b : List Int} (n : Nat) (h : (mapG gSum i a b n).2 = false) : i = false ∧ ∀ k, k ≤ n → (mapG gSum i a b k).2 = false := by
  induction n with
  | zero => exact ⟨h, fun k hk => by have e : k = 0 := (by omega); rw [e]; exact h⟩
  | succ n ih =>
    have e : (gSum (mapG gSum i a b n).2 (a.getD n 0) (b.getD n 0)).2 = false := h
    rw [gSum_flag] at e
    simp only [Bool.or_eq_false_iff] at e
    obtain ⟨h1, h2⟩ := ih e.1.1
    refine ⟨h1, fun k hk => ?_⟩
    by_cases hkn : k = n + 1
    · subst hkn; exact h
    · exact h2 k (by omega)
theorem map_back {a b : List Int} (ha : AllI a) (hb : AllI b) (hab : a.length = b.length) (h : (mapG gSum false a b a.length).2 = false) (k : Nat) (hk : k ≤ a.length) : mapG gLess false (mapG gSum false a b a.length).1 b k = (a.take k, false) := by
  induction k with
  | zero => rfl
  | succ k ih =>
    have hf := (mapG_no a.length h).2 (k + 1) hk
    have e : (gSum (mapG gSum false a b k).2 (a.getD k 0) (b.getD k 0)).2 = false := hf
    obtain ⟨b1, b2, b3, b4, b5, b6⟩ := gSum_back (ha.get (by omega)) (hb.get (by omega)) e
    show ((mapG gLess false _ b k).1 ++ [(gLess (mapG gLess false _ b k).2 ((mapG gSum false a b a.length).1.getD k 0) (b.getD k 0)).1], (gLess (mapG gLess false _ b k).2 ((mapG gSum false a b a.length).1.getD k 0) (b.getD k 0)).2) = _
    rw [ih (by omega), mapG_get _ _ _ _ _ _ (show k < a.length by omega), b5]
    simp only
    rw [b6, take_next a k (by omega)]
theorem opMul_comm (x y : Int) : (opMul x y).1 = (opMul y x).1 := by unfold opMul; rw [same_mul]
theorem runD_comm (i j : Bool) (a b : List Int) (k : Nat) : (runD (0, i) a b k).1 = (runD (0, j) b a k).1 := by
  induction k with
  | zero => rfl
  | succ k ih =>
    show (opAdd (runD (0, i) a b k).1 (opMul _ _).1).1 = (opAdd (runD (0, j) b a k).1 (opMul _ _).1).1
    rw [ih, opMul_comm]
theorem runD_step (p : Int × Bool) (a b : List Int) (k : Nat) : runD p a b (k + 1) = ((opAdd (runD p a b k).1 (opMul (a.getD k 0) (b.getD k 0)).1).1, ((runD p a b k).2 || (opMul (a.getD k 0) (b.getD k 0)).2) || (opAdd (runD p a b k).1 (opMul (a.getD k 0) (b.getD k 0)).1).2) := rfl
theorem runD_no {i : Bool} {a b : List Int} (n : Nat) (h : (runD (0, i) a b n).2 = false) : i = false ∧ ∀ k, k ≤ n → (runD (0, i) a b k).2 = false := by
  induction n with
  | zero => exact ⟨h, fun k hk => by have e : k = 0 := (by omega); rw [e]; exact h⟩
  | succ n ih =>
    have e := h
    rw [runD_step] at e
    simp only [Bool.or_eq_false_iff] at e
    obtain ⟨h1, h2⟩ := ih e.1.1
    refine ⟨h1, fun k hk => ?_⟩
    by_cases hkn : k = n + 1
    · subst hkn; exact h
    · exact h2 k (by omega)
/-- A Dot of which nothing is cut, one number on. -/
theorem runD_in1 {i : Bool} {a b : List Int} {k : Nat} (hx : InI (a.getD k 0)) (hy : InI (b.getD k 0)) (hp : InF (runD (0, i) a b k).1) (h : (runD (0, i) a b (k + 1)).2 = false) :
    InF (a.getD k 0) ∧ InF (b.getD k 0) ∧ (runD (0, i) a b (k + 1)).1 = (runD (0, i) a b k).1 + rnd (a.getD k 0 * b.getD k 0) 4294967296 ∧ InF (runD (0, i) a b (k + 1)).1 := by
  rw [runD_step] at h ⊢
  simp only [Bool.or_eq_false_iff] at h ⊢
  obtain ⟨⟨h1, h2⟩, h3⟩ := h
  have c := cut_no h2
  have fx : InF (a.getD k 0) := ⟨c.2.1, by have := hx.2; omega⟩
  have fy : InF (b.getD k 0) := ⟨c.2.2, by have := hy.2; omega⟩
  have m := fitC_no c.1
  rw [mulW_in fx fy] at m
  have em : (opMul (a.getD k 0) (b.getD k 0)).1 = rnd (a.getD k 0 * b.getD k 0) 4294967296 := by unfold opMul; rw [mulW_in fx fy]; exact (fitV_in m).1
  rw [em] at h3 ⊢
  have d := cut_no h3
  have s := fitC_no d.1
  rw [addW_in hp m] at s
  refine ⟨fx, fy, ?_, ?_⟩
  · unfold opAdd; rw [addW_in hp m]; exact (fitV_in s).1
  · unfold opAdd; rw [addW_in hp m, (fitV_in s).1]; exact s
/-- The Dot of a sum, and the sum of Dots. -/
theorem dots {a b c : List Int} (ha : AllI a) (hb : AllI b) (hc : AllI c) (hab : a.length = b.length) (hac : a.length = c.length) {i j l : Bool} {s : List Int} (hs : s = (mapG gSum false a b a.length).1)
    (h0 : (mapG gSum false a b a.length).2 = false) (h1 : (runD (0, i) s c a.length).2 = false) (h2 : (runD (0, j) a c a.length).2 = false) (h3 : (runD (0, l) b c a.length).2 = false) (k : Nat) (hk : k ≤ a.length) :
    InF (runD (0, i) s c k).1 ∧ InF (runD (0, j) a c k).1 ∧ InF (runD (0, l) b c k).1 ∧
      -(k : Int) ≤ (runD (0, i) s c k).1 - ((runD (0, j) a c k).1 + (runD (0, l) b c k).1) ∧ (runD (0, i) s c k).1 - ((runD (0, j) a c k).1 + (runD (0, l) b c k).1) ≤ k := by
  induction k with
  | zero => exact ⟨⟨by show _ ≤ (0 : Int); omega, by show (0 : Int) ≤ _; omega⟩, ⟨by show _ ≤ (0 : Int); omega, by show (0 : Int) ≤ _; omega⟩, ⟨by show _ ≤ (0 : Int); omega, by show (0 : Int) ≤ _; omega⟩, by show _ ≤ (0 : Int) - (0 + 0); omega, by show (0 : Int) - (0 + 0) ≤ _; omega⟩
  | succ k ih =>
    obtain ⟨p1, p2, p3, p4, p5⟩ := ih (by omega)
    have hlen := mapG_len gSum false a b a.length
    have hall : AllI s := by rw [hs]; exact mapG_all gSum_in false a b a.length
    have hx := ha.get (k := k) (by omega)
    have hy := hb.get (k := k) (by omega)
    have hz := hc.get (k := k) (by omega)
    have hsk := hall.get (k := k) (by rw [hs, hlen]; omega)
    have f1 := (runD_no a.length h1).2 (k + 1) hk
    have f2 := (runD_no a.length h2).2 (k + 1) hk
    have f3 := (runD_no a.length h3).2 (k + 1) hk
    have f0 : (gSum (mapG gSum false a b k).2 (a.getD k 0) (b.getD k 0)).2 = false := (mapG_no a.length h0).2 (k + 1) hk
    obtain ⟨-, b2, b3, b4, b5, -⟩ := gSum_back hx hy f0
    have es : s.getD k 0 = a.getD k 0 + b.getD k 0 := by rw [hs, mapG_get _ _ _ _ _ _ (show k < a.length by omega), b5]
    obtain ⟨q1, q2, q3, q4⟩ := runD_in1 hsk hz p1 f1
    obtain ⟨r1, r2, r3, r4⟩ := runD_in1 hx hz p2 f2
    obtain ⟨t1, t2, t3, t4⟩ := runD_in1 hy hz p3 f3
    refine ⟨q4, r4, t4, ?_⟩
    rw [q3, r3, t3, es]
    have n1 := rnd_near ((a.getD k 0 + b.getD k 0) * c.getD k 0) 4294967296 (by omega)
    have n2 := rnd_near (a.getD k 0 * c.getD k 0) 4294967296 (by omega)
    have n3 := rnd_near (b.getD k 0 * c.getD k 0) 4294967296 (by omega)
    have ea : (a.getD k 0 + b.getD k 0) * c.getD k 0 = a.getD k 0 * c.getD k 0 + b.getD k 0 * c.getD k 0 := Int.add_mul _ _ _
    rw [ea] at n1 ⊢
    generalize a.getD k 0 * c.getD k 0 = P at *
    generalize b.getD k 0 * c.getD k 0 = Q at *
    generalize rnd (P + Q) 4294967296 = R1 at *
    generalize rnd P 4294967296 = R2 at *
    generalize rnd Q 4294967296 = R3 at *
    have ek : ((k + 1 : Nat) : Int) = (k : Int) + 1 := by omega
    rw [ek]
    omega
theorem cut2 {x y : Int} (hx : InF x) (hy : InF y) {i : Bool} (h : (gSum i x y).2 = false) : i = false ∧ (gSum i x y).1 = x + y :=
  ⟨(gSum_back ⟨by omega, by omega⟩ ⟨by omega, by omega⟩ h).1, (gSum_back ⟨by omega, by omega⟩ ⟨by omega, by omega⟩ h).2.2.2.2.1⟩
end Go.Proofs.Ytlhadociaekkhaa
