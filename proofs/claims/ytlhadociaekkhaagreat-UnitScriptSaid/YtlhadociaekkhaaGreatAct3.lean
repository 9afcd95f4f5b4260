/- An act of any kind; how long a row of acts is (printed by mk_act3.py). -/
import Derived.Test.YtlhadociaekkhaaGreatAct2
namespace Go.Proofs.YtlhadociaekkhaaGreat
set_option linter.unusedVariables false
set_option maxRecDepth 100000
open Go.RowKit
theorem aActS {U : Nat} {i : Bool} {c : Int} {w : World} (h : UA U i c w) (x : ActX) (ha : InI x.a) (hb' : InI x.b) (hL : AllI x.L) (hK : AllI x.K) (sL : SL w U (.slice x.l x.L.length x.cl) x.L) (sK : SL w U (.slice x.k x.K.length x.ck) x.K) (lL : x.L.length ≤ 20) (lK : x.K.length ≤ 20) (hc : 0 ≤ c ∧ c ≤ 1000000) :
    Calls Tryz.prog 9 #[UP U, x.val] w fun e w' => e = .returned (.tuple #[.int .i64 (actR x.kd x.a x.b x.L x.K x.is i c).1, .int .i64 (actR x.kd x.a x.b x.L x.K x.is i c).2.1]) ∧
      Below (put U (actR x.kd x.a x.b x.L x.K x.is i c).2.2.1 (actR x.kd x.a x.b x.L x.K x.is i c).2.2.2 w).heap.size (put U (actR x.kd x.a x.b x.L x.K x.is i c).2.2.1 (actR x.kd x.a x.b x.L x.K x.is i c).2.2.2 w) w' := by
  obtain ⟨kd, a, b, l, cl, L, k, ck, K, is⟩ := x
  simp only at *
  have hc' : 0 ≤ c ∧ c + 2 * (L.length : Int) + 1 ≤ 4611686018427387904 := ⟨by omega, by omega⟩
  by_cases h0 : kd = 0
  · subst h0
    have e : actR 0 a b L K is i c = ((runL opAdd (0, i) L).1, 0, (runL opAdd (0, i) L).2, c + L.length) := by unfold actR; simp
    rw [e]
    exact aAdd h a b ha hb' l k cl ck L K hL hK sL sK is hc'
  by_cases h1 : kd = 1
  · subst h1
    have e : actR 1 a b L K is i c = ((runL opMul (4294967296, i) L).1, 0, (runL opMul (4294967296, i) L).2, c + L.length) := by unfold actR; simp
    rw [e]
    exact aMul h a b ha hb' l k cl ck L K hL hK sL sK is hc'
  by_cases h2 : kd = 2
  · subst h2
    have e : actR 2 a b L K is i c = ((opSub a b).1, 0, i || (opSub a b).2, c + 1) := by unfold actR; simp
    rw [e]
    exact aSub h a b ha hb' l k cl ck L K hL hK sL sK is hc'
  by_cases h3 : kd = 3
  · subst h3
    have e : actR 3 a b L K is i c = ((opDiv a b).1, 0, i || (opDiv a b).2, c + 1) := by unfold actR; simp
    rw [e]
    exact aDiv h a b ha hb' l k cl ck L K hL hK sL sK is hc'
  by_cases h4 : kd = 4
  · subst h4
    have e : actR 4 a b L K is i c = ((opHalf a b).1, 0, i || (opHalf a b).2, c + 1) := by unfold actR; simp
    rw [e]
    exact aHalf h a b ha hb' l k cl ck L K hL hK sL sK is hc'
  by_cases h5 : kd = 5
  · subst h5
    have e : actR 5 a b L K is i c = ((opSqrt a 0).1, 0, i || (opSqrt a 0).2, c + 1) := by unfold actR; simp
    rw [e]
    exact aSqrt h a b ha hb' l k cl ck L K hL hK sL sK is hc'
  by_cases h6 : kd = 6
  · subst h6
    have e : actR 6 a b L K is i c = ((opWhole a 0).1, 0, i || (opWhole a 0).2, c + 1) := by unfold actR; simp
    rw [e]
    exact aWhole h a b ha hb' l k cl ck L K hL hK sL sK is hc'
  by_cases h7 : kd = 7
  · subst h7
    by_cases hlen : L.length = K.length
    · have e : actR 7 a b L K is i c = ((runD (0, i) L K L.length).1, 0, (runD (0, i) L K L.length).2, c + 2 * L.length) := by unfold actR; simp [hlen]
      rw [e]
      exact aDot h a b ha hb' l k cl ck L K hL hK sL sK is hc' hlen
    · have e : actR 7 a b L K is i c = (0, 3, i, c) := by unfold actR; simp [hlen]
      rw [e]
      simp only
      rw [put_self h]
      exact aDotNo h a b ha hb' l k cl ck L K hL hK sL sK is hc' hlen (by omega)
  by_cases h8 : kd = 8
  · subst h8
    have e : actR 8 a b L K is i c = (0, 0, i || is, c) := by unfold actR; simp
    rw [e]
    exact aSet h a b ha hb' l k cl ck L K hL hK sL sK is hc'
  by_cases h9 : kd = 9
  · subst h9
    have e : actR 9 a b L K is i c = (0, 0, false, c) := by unfold actR; simp
    rw [e]
    exact aClear h a b ha hb' l k cl ck L K hL hK sL sK is hc'
  have e : actR kd a b L K is i c = (0, 0, i, c) := by unfold actR; simp only [if_neg h0, if_neg h1, if_neg h2, if_neg h3, if_neg h4, if_neg h5, if_neg h6, if_neg h7, if_neg h8, if_neg h9]
  rw [e]
  simp only
  rw [put_self h]
  exact aElse (UP U) kd a b _ _ is (by omega) w
theorem aAct {U : Nat} {i : Bool} {c : Int} {w0 w : World} (hb : Below w0.heap.size w0 w) (hU : w0.heap.size ≤ U) (h : UA U i c w) (x : ActX) (ok : x.ok w0) (lL : x.L.length ≤ 20) (lK : x.K.length ≤ 20) (hc : 0 ≤ c ∧ c ≤ 1000000) :
    Calls Tryz.prog 9 #[UP U, x.val] w fun e w' => e = .returned (.tuple #[.int .i64 (actR x.kd x.a x.b x.L x.K x.is i c).1, .int .i64 (actR x.kd x.a x.b x.L x.K x.is i c).2.1]) ∧
      Below (put U (actR x.kd x.a x.b x.L x.K x.is i c).2.2.1 (actR x.kd x.a x.b x.L x.K x.is i c).2.2.2 w).heap.size (put U (actR x.kd x.a x.b x.L x.K x.is i c).2.2.1 (actR x.kd x.a x.b x.L x.K x.is i c).2.2.2 w) w' :=
  aActS h x ok.ha ok.hb ok.hL ok.hK (ok.rL.sl hb hU (by omega) x.cl) (ok.rK.sl hb hU (by omega) x.ck) lL lK hc
theorem actR_cnt (kd a b : Int) (L K : List Int) (is i : Bool) (c : Int) : c ≤ (actR kd a b L K is i c).2.2.2 ∧ (actR kd a b L K is i c).2.2.2 ≤ c + 2 * L.length + 1 := by
  unfold actR
  repeat' split
  all_goals (simp only []; omega)
theorem run_keeps (op : Int → Int → Int × Bool) (n : Int) (zs : List Int) : (runL op (n, true) zs).2 = true := by
  have k : ∀ (p : Int × Bool), p.2 = true → (runL op p zs).2 = true := by
    induction zs with
    | nil => intro p hp; exact hp
    | cons x zs ih => intro p hp; exact ih (acc op p x) (by unfold acc; simp [hp])
  exact k _ rfl
theorem runD_keeps (n : Int) (a b : List Int) (k : Nat) : (runD (n, true) a b k).2 = true := by
  induction k with
  | zero => rfl
  | succ k ih => unfold runD accD; simp [ih]
/-- A flag stays, but where it is cleared. -/
theorem actR_stays (kd a b : Int) (L K : List Int) (is : Bool) (c : Int) (h : kd ≠ 9) : (actR kd a b L K is true c).2.2.1 = true := by
  unfold actR
  repeat' split
  all_goals (first | exact run_keeps _ _ _ | exact runD_keeps _ _ _ _ | rfl | (exfalso; omega) | (simp; done))
theorem actR_9 (a b : Int) (L K : List Int) (is i : Bool) (c : Int) : (actR 9 a b L K is i c).2.2.1 = false := by
  unfold actR; simp
theorem actR_8 (a b : Int) (L K : List Int) (is i : Bool) (c : Int) : (actR 8 a b L K is i c).2.2.1 = (i || is) := by
  unfold actR; simp
set_option maxHeartbeats 4000000 in
theorem aLong {w : World} {A : Option Addr} {n c : Nat} {X : Nat → ActX} (hr : 0 < n → ∃ b o, A = some ⟨b, o, none⟩ ∧ b < w.heap.size ∧ ∀ i, i < n → ActAt w b (o + i * 6) (X i)) (hn : n ≤ 9223372036854775807) :
    Calls Tryz.prog 6 #[.slice A n c] w fun e w' => ∃ r, e = .returned (.bool r) ∧ (r = false → n ≤ 60 ∧ ∀ i, i < n → (X i).L.length ≤ 20 ∧ (X i).K.length ≤ 20) ∧ Below w.heap.size w w' := by
  go_enter Tryz.func6, Tryz.ntmps6
  go_wp2_with fail
  have HR := Lib.hid hr
  clear hr
  go_loopg [3] n (fun g s3 wr => ∃ k : Nat, k ≤ n ∧ k ≤ 61 ∧ n ≤ g + k ∧ s3 = .int .i64 k ∧ (∀ j, j < k → (X j).L.length ≤ 20 ∧ (X j).K.length ≤ 20) ∧ ∃ z, wr = past w z)
  case atStart => exact ⟨0, by omega, by omega, by omega, rfl, fun j hj => absurd hj (by omega), _, past_of (Below.refl _ _)⟩
  case round =>
    obtain ⟨k, hk, hk6, hg, rfl, hall, z, rfl⟩ := hrel
    have HA := Lib.hid hall
    clear hall
    by_cases hlt : k < n
    · have d1 : decide ((k : Int) < (n : Int)) = true := by simp; omega
      by_cases h61 : k < 61
      · have d2 : decide ((k : Int) < 61) = true := by simp; omega
        obtain ⟨b, o, rfl, hb, hx⟩ := HR.out (by omega)
        have hx3 := (hx k hlt).c3
        have hx4 := (hx k hlt).c4
        obtain ⟨Y, hY⟩ : ∃ Y, X k = Y := ⟨_, rfl⟩
        rw [hY] at hx3 hx4
        have HY := Lib.hid hY
        have HX := Lib.hid hx
        clear hx hY
        by_cases h1 : 20 < Y.L.length
        · have d3 : decide ((20 : Int) < (Y.L.length : Int)) = true := by simp; omega
          go_wp2_with fail
          go_ret
          exact ⟨true, rfl, fun e => (by cases e), past_below _ _⟩
        · have d3 : decide ((20 : Int) < (Y.L.length : Int)) = false := by simp; omega
          by_cases h2 : 20 < Y.K.length
          · have d4 : decide ((20 : Int) < (Y.K.length : Int)) = true := by simp; omega
            go_wp2_with fail
            go_ret
            exact ⟨true, rfl, fun e => (by cases e), past_below _ _⟩
          · have d4 : decide ((20 : Int) < (Y.K.length : Int)) = false := by simp; omega
            go_wp2_with fail
            go_roundg (n - (k + 1))
            case measure => omega
            case rel =>
              refine ⟨k + 1, by omega, by omega, by omega, by go_num, fun j hj => ?_, _, rfl⟩
              by_cases hj2 : j = k
              · subst hj2; rw [HY.out]; exact ⟨by omega, by omega⟩
              · exact HA.out j (by omega)
      · have d2 : decide ((k : Int) < 61) = false := by simp; omega
        have d5 : decide ((60 : Int) < (n : Int)) = true := by simp; omega
        go_wp2_with fail
        go_ret
        exact ⟨true, rfl, fun e => (by cases e), past_below _ _⟩
    · obtain rfl : k = n := by omega
      have d1 : decide ((k : Int) < (k : Int)) = false := by simp
      by_cases h60 : 60 < k
      · have d5 : decide ((60 : Int) < (k : Int)) = true := by simp; omega
        go_wp2_with fail
        go_ret
        exact ⟨true, rfl, fun e => (by cases e), past_below _ _⟩
      · have d5 : decide ((60 : Int) < (k : Int)) = false := by simp; omega
        go_wp2_with fail
        go_ret
        exact ⟨false, rfl, fun _ => ⟨by omega, HA.out⟩, past_below _ _⟩
end Go.Proofs.YtlhadociaekkhaaGreat
