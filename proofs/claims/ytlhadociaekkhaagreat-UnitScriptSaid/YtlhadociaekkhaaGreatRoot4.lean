/- The reference's root, nearest, Whole, Sqrt, Hypot. -/
import Derived.Test.YtlhadociaekkhaaGreatRoot3
namespace Go.Proofs.YtlhadociaekkhaaGreat
set_option linter.unusedVariables false
open Go.RowKit
/-- The bits of s from number m + 1 on. -/
def cutTo (s m : Int) : Int := s / 2 ^ (m + 1).toNat * 2 ^ (m + 1).toNat
theorem cutTo_step (s m : Int) (h0 : 0 ≤ s) (hm : 0 ≤ m) : cutTo s (m - 1) = if cutTo s m + 2 ^ m.toNat ≤ s then cutTo s m + 2 ^ m.toNat else cutTo s m := by
  unfold cutTo
  have e1 : (m - 1 + 1).toNat = m.toNat := by omega
  have e2 : (m + 1).toNat = m.toNat + 1 := by omega
  rw [e1, e2, Int.pow_succ]
  have p := pw_pos m.toNat
  generalize (2 : Int) ^ m.toNat = P at *
  have e3 : s / (P * 2) = s / P / 2 := by rw [Int.ediv_ediv_of_nonneg (by omega)]
  obtain ⟨d1, d2, d3⟩ := ediv_parts s P p
  rw [e3]
  generalize s / P = q at *
  generalize s % P = r at *
  have e4 : q / 2 * (P * 2) = (q / 2 * 2) * P := by rw [Int.mul_comm P 2, ← Int.mul_assoc]
  rw [e4]
  rcases Int.emod_two_eq q with h | h
  · have : q / 2 * 2 = q := by omega
    rw [this, if_neg (by omega)]
  · have : q / 2 * 2 = q - 1 := by omega
    rw [this, Int.sub_mul, Int.one_mul, if_pos (by omega)]; omega
theorem cutTo_end (s : Int) : cutTo s (-1) = s := by unfold cutTo; simp
theorem cutTo_top (s : Int) (h0 : 0 ≤ s) (h1 : s ≤ 18446744073709551615) : cutTo s 63 = 0 := by
  unfold cutTo
  have : s / 2 ^ (63 + 1 : Int).toNat = 0 := Int.ediv_eq_zero_of_lt h0 (by have : (2 : Int) ^ (63 + 1 : Int).toNat = 18446744073709551616 := by decide
                                                                           omega)
  rw [this]; simp
theorem cutTo_bd (s m : Int) (h0 : 0 ≤ s) : 0 ≤ cutTo s m ∧ cutTo s m ≤ s := by
  unfold cutTo
  obtain ⟨d1, d2, d3⟩ := ediv_parts s (2 ^ (m + 1).toNat) (pw_pos _)
  exact ⟨Int.mul_nonneg (Int.ediv_nonneg h0 (Int.le_of_lt (pw_pos _))) (Int.le_of_lt (pw_pos _)), by omega⟩
theorem cutTo_room (s m : Int) (h0 : 0 ≤ s) (h1 : s ≤ 18446744073709551615) (hm : 0 ≤ m) (hm1 : m ≤ 63) : cutTo s m + 2 ^ m.toNat ≤ 18446744073709551615 := by
  unfold cutTo
  have e : (2 : Int) ^ (63 - m).toNat * 2 ^ (m + 1).toNat = 18446744073709551616 := by
    rw [pw, show (63 - m).toNat + (m + 1).toNat = 64 from by omega]; decide
  have e2 : (2 : Int) ^ (m + 1).toNat = 2 ^ m.toNat * 2 := by rw [show (m + 1).toNat = m.toNat + 1 from by omega, Int.pow_succ]
  have p := pw_pos (m + 1).toNat
  have p1 := pw_pos m.toNat
  generalize (2 : Int) ^ (63 - m).toNat = D at *
  generalize (2 : Int) ^ (m + 1).toNat = Q at *
  have : s / Q < D := by apply Int.ediv_lt_of_lt_mul p; omega
  have : (s / Q + 1) * Q ≤ D * Q := Int.mul_le_mul_of_nonneg_right (by omega) (by omega)
  rw [Int.add_mul] at this
  omega
theorem pow_le63' {n : Int} (h0 : 0 ≤ n) (h : n ≤ 63) : 1 ≤ (2 : Int) ^ n.toNat ∧ (2 : Int) ^ n.toNat ≤ 9223372036854775808 :=
  ⟨by have := pw_pos n.toNat; omega, pow_le63 (by omega)⟩
set_option maxHeartbeats 2000000 in
theorem rRoot (a : Int) (w : World) (h0 : 0 ≤ a) (h1 : a < 170141183460469231731687303715884105728) :
    Calls Tryz.prog 90 #[WV a] w fun e w' => e = .returned (.int .u64 (isq a)) ∧ Below w.heap.size w w' := by
  obtain ⟨i0, i1, i2⟩ := isq_spec a h0
  have i3 := isq_up h0 h1
  have lei : ∀ t, 0 ≤ t → (t ≤ isq a ↔ t * t ≤ a) := fun t ht => le_isq h0 ht
  have c63 := cutTo_top (isq a) i0 (by omega)
  obtain ⟨s, hs⟩ : ∃ s, isq a = s := ⟨_, rfl⟩
  rw [hs] at i0 i1 i2 i3 c63 lei ⊢
  have LEI := Lib.hid lei
  have C63 := Lib.hid c63
  clear hs lei i1 i2 c63
  go_enter Tryz.func90, Tryz.ntmps90
  go_wp2_with fail
  go_loopg [3, 4, 5] 64 (fun g s3 s4 s5 wr => ∃ m : Int, -1 ≤ m ∧ m ≤ 63 ∧ m + 1 ≤ g ∧ s4 = .int .i64 m ∧ s3 = .int .u64 (cutTo s m) ∧ ∃ z, wr = past (w.alloc (Obj.cells #[.int .i64 (whi a), .int .u64 (wlo a)] 61)) z)
  case atStart => exact ⟨63, by omega, by omega, by omega, rfl, by rw [C63.out], _, past_of (Below.refl _ _)⟩
  case round =>
    obtain ⟨m, m0, m1, m2, rfl, rfl, z, rfl⟩ := hrel
    by_cases hm : 0 ≤ m
    · have st := cutTo_step s m i0 hm
      have cb := cutTo_bd s m i0
      have pb := pow_le63' hm m1
      have rm := cutTo_room s m i0 (by omega) hm m1
      obtain ⟨T, hT⟩ : ∃ T, cutTo s m = T := ⟨_, rfl⟩
      obtain ⟨P, hP⟩ : ∃ P, (2 : Int) ^ m.toNat = P := ⟨_, rfl⟩
      rw [hT, hP] at st
      rw [hT] at cb
      rw [hP] at pb
      rw [hT, hP] at rm
      have ST := Lib.hid st
      have hw1 : IntKind.u64.wrap P = P := by rw [u64w]; omega
      have hla : (decide (a < (T + P) * (T + P))) = !decide (T + P ≤ s) := by
        have := LEI.out (T + P) (by omega)
        by_cases h : T + P ≤ s
        · have h2 := this.1 h; simp [h]; omega
        · have h2 : ¬ (T + P) * (T + P) ≤ a := fun h3 => h (this.2 h3)
          simp [h]; omega
      rw [hT]
      have ra : ∀ w, Calls Tryz.prog 107 #[.int .u64 (T + P), WV a] w fun e w' => e = .returned (.bool (!decide (T + P ≤ s))) ∧ Below w.heap.size w w' := by
        intro w; rw [← hla]; exact rAbove (T + P) a w (by omega) (by omega) h0 h1
      clear st hT hla
      go_wp2_with (first | (go_at_call 107; first | (with_reducible refine Calls_past2 (ra _) (fun z => ?_)) | (with_reducible refine Calls_past (ra _) (fun z => ?_))))
      all_goals
        go_roundg m.toNat
        case measure => omega
        case rel => exact ⟨m - 1, by omega, by omega, by omega, rfl, by rw [ST.out]; first | rw [if_pos (by omega)] | rw [if_neg (by omega)], z, rfl⟩
    · obtain rfl : m = -1 := by omega
      rw [cutTo_end]
      go_wp2_with fail
      go_ret
      refine ⟨rfl, ?_⟩
      (repeat (first | assumption | exact Below.refl _ _ | with_reducible refine past_t _ ?_ | with_reducible refine below_a _ ?_ | with_reducible refine Below.drew ?_ | with_reducible refine below_d _ ?_ | (with_reducible refine Below.setCell ?_ (by (show _ ≤ _; repeat (first | exact Nat.le_refl _ | assumption | (omega; done) | with_reducible exact le_past (Nat.le_refl _) | with_reducible refine le_past ?_ | with_reducible refine le_al ?_ | with_reducible refine le_set ?_ | with_reducible refine le_p1 ?_))) _)))
theorem nrt_edge (a : Int) : nrt a = if isq a * isq a + isq a < a then isq a + 1 else isq a := by
  unfold nrt; split <;> split <;> omega
set_option maxHeartbeats 1000000 in
theorem rNear (a : Int) (w : World) (h0 : 0 ≤ a) (h1 : a < 170141183460469231722463931679029329921) :
    Calls Tryz.prog 74 #[WV a] w fun e w' => e = .returned (.int .u64 (nrt a)) ∧ Below w.heap.size w w' := by
  obtain ⟨i0, i1, i2⟩ := isq_spec a h0
  have i3 : isq a ≤ 13043817825332782211 := sq_le i0 (by omega) i1 (by omega)
  have i4 : 0 ≤ isq a * isq a := Int.mul_nonneg i0 i0
  have hn := nrt_edge a
  have hr := fun w => rRoot a w h0 (by omega)
  obtain ⟨s, hs⟩ : ∃ s, isq a = s := ⟨_, rfl⟩
  rw [hs] at i0 i1 i2 i3 i4 hn hr
  have i5 := (sq_up s i0 (by omega)).2
  have i6 : s * s ≤ 13043817825332782211 * 13043817825332782211 := Int.mul_le_mul i3 i3 i0 (by omega)
  have hc := cmp_pos a (s * s + s)
  have hq : ∀ w, Calls Tryz.prog 92 #[WV a, WV (s * s + s)] w fun e w' => e = .returned (.int .i64 (cmpI a (s * s + s))) ∧ Below w.heap.size w w' :=
    fun w => rCmp _ _ w (by omega) (by omega) (by omega) (by omega)
  obtain ⟨c, hcc⟩ : ∃ c, cmpI a (s * s + s) = c := ⟨_, rfl⟩
  rw [hcc] at hc hq
  have HC := Lib.hid hc
  have HN := Lib.hid hn
  clear hn hs hc hcc
  go_enter Tryz.func74, Tryz.ntmps74
  go_wp2_with (first | (go_at_call 90; first | (with_reducible refine Calls_past2 (hr _) (fun z => ?_)) | (with_reducible refine Calls_past (hr _) (fun z => ?_))) | (go_at_call 91; first | (with_reducible refine Calls_past2 (rSquare s _ i0 (by omega)) (fun z => ?_)) | (with_reducible refine Calls_past (rSquare s _ i0 (by omega)) (fun z => ?_))) | (go_at_call 68; first | (with_reducible refine Calls_past2 (rAddS (s * s) s _ i0 (by omega)) (fun z => ?_)) | (with_reducible refine Calls_past (rAddS (s * s) s _ i0 (by omega)) (fun z => ?_))) | (go_at_call 92; first | (with_reducible refine Calls_past2 (hq _) (fun z => ?_)) | (with_reducible refine Calls_past (hq _) (fun z => ?_))))
  all_goals
    go_ret
    refine ⟨ret_u ?_, ?_⟩
    · first | (rw [HN.out, if_pos (HC.out.1 (by omega))]) | (rw [HN.out, if_neg (fun h => absurd (HC.out.2 h) (by omega))])
    · (repeat (first | assumption | exact Below.refl _ _ | with_reducible refine past_t _ ?_ | with_reducible refine below_a _ ?_ | with_reducible refine Below.drew ?_ | with_reducible refine below_d _ ?_ | (with_reducible refine Below.setCell ?_ (by (show _ ≤ _; repeat (first | exact Nat.le_refl _ | assumption | (omega; done) | with_reducible exact le_past (Nat.le_refl _) | with_reducible refine le_past ?_ | with_reducible refine le_al ?_ | with_reducible refine le_set ?_ | with_reducible refine le_p1 ?_))) _)))
set_option maxHeartbeats 1000000 in
theorem rSqrt (a : Int) (w : World) (h1 : -9223372036854775808 ≤ a) (h2 : a ≤ 9223372036854775807) :
    Calls Tryz.prog 52 #[.int .i64 a] w fun e w' => e = .returned (.tuple #[.int .i64 (sqtV a), .bool (sqtC a)]) ∧ Below w.heap.size w w' := by
  by_cases hn : a < 0
  · go_enter Tryz.func52, Tryz.ntmps52
    go_wp2_with fail
    go_ret2
    exact ⟨by unfold sqtV sqtC; rw [if_pos hn, decide_eq_true hn]; rfl, Below.refl _ _⟩
  · have b := sqt_bd a (by omega) h2
    have e1 : sqtV a = nrt (a * 4294967296) := by unfold sqtV; rw [if_neg hn]
    have e2 : sqtC a = false := by unfold sqtC; simpa using hn
    rw [e1, e2]
    clear e1 e2
    go_enter Tryz.func52, Tryz.ntmps52
    go_wp2_with (first | (go_at_call 72; first | (with_reducible refine Calls_past2 (rMul a 4294967296 _ h1 h2 (by omega) (by omega)) (fun z => ?_)) | (with_reducible refine Calls_past (rMul a 4294967296 _ h1 h2 (by omega) (by omega)) (fun z => ?_))) | (go_at_call 74; first | (with_reducible refine Calls_past2 (rNear (a * 4294967296) _ (by omega) (by omega)) (fun z => ?_)) | (with_reducible refine Calls_past (rNear (a * 4294967296) _ (by omega) (by omega)) (fun z => ?_))))
    go_ret2
    refine ⟨rfl, ?_⟩
    (repeat (first | assumption | exact Below.refl _ _ | with_reducible refine past_t _ ?_ | with_reducible refine below_a _ ?_ | with_reducible refine Below.drew ?_ | with_reducible refine below_d _ ?_ | (with_reducible refine Below.setCell ?_ (by (show _ ≤ _; repeat (first | exact Nat.le_refl _ | assumption | (omega; done) | with_reducible exact le_past (Nat.le_refl _) | with_reducible refine le_past ?_ | with_reducible refine le_al ?_ | with_reducible refine le_set ?_ | with_reducible refine le_p1 ?_))) _)))
end Go.Proofs.YtlhadociaekkhaaGreat
