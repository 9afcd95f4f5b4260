/- root.quotient. -/
import Derived.Test.YtlhadociaekkhaaGreatRootM
import Derived.Test.YtlhadociaekkhaaGreatPast2
import Derived.Test.YtlhadociaekkhaaGreatRef2
import Derived.Test.YtlhadociaekkhaaGreatLen
import Derived.Deep.DeepCutAuto
import Derived.WalkMore
import Derived.Deep.LoopGhost
import Derived.Deep.RegionHeld3
import Derived.Deep.RegionWith
import Derived.Outline
namespace Go.Proofs.YtlhadociaekkhaaGreat
set_option linter.unusedVariables false
open Go.RowKit
set_option maxHeartbeats 400000 in
theorem tQuo (hi lo x : Int) (w : World) (h1 : 0 ≤ hi) (h2 : hi < x) (h3 : 0 ≤ lo) (h4 : lo ≤ 18446744073709551615) (h5 : x ≤ 18446744073709551615) :
    Calls Tryz.prog 102 #[.int .u64 hi, .int .u64 lo, .int .u64 x] w fun e w' => e = .returned (.int .u64 ((hi * 18446744073709551616 + lo) / x)) ∧ Below w.heap.size w w' := by
  have hz : (x == 0) = false := by simp; omega
  go_enter Tryz.func102, Tryz.ntmps102
  go_wp2_with fail
  refine (bDiv hi lo x _ h1 h2 h3 h4 h5).mono ?_
  rintro e w1 ⟨rfl, n, rfl⟩
  go_wp2_with fail
  go_ret
  exact ⟨rfl, Below.draws _ n⟩
theorem isq_0 : isq 0 = 0 := isq_uniq (by omega) (by omega) (by omega)
set_option maxHeartbeats 4000000 in
theorem tRoot0 (w : World) :
    Calls Tryz.prog 81 #[WV 0] w fun e w' => e = .returned (.tuple #[.int .u64 0, WV 0]) ∧ Below w.heap.size w w' := by
  have z1 := whi_0
  have z2 := wlo_0
  have l1 : Lib.bitLen 0 = 0 := by decide
  have l2 : Lib.bitLen (Int.toNat 0) = 0 := by decide
  go_enter Tryz.func81, Tryz.ntmps81
  go_wp2_with fail
  go_step3
  go_wp2_with (go_at_call 101; (with_reducible refine (bLen 0 _ (by omega) (by omega)).mono ?_); rintro e w1 ⟨rfl, rfl⟩)
  go_region
  all_goals
    go_wp2_with fail
    rw [Exit.noGoto_ret]
    go_wp2_with fail
    exact bodyPost_ret (v := .tuple #[.int .u64 0, WV 0]) (by simp [results, Tryz.results81, go_sem, z1, z2]) rfl ⟨rfl, (b2 _ _ _).drew⟩
set_option maxHeartbeats 4000000 in
theorem tRoot (a : Int) (w : World) (h0 : 0 ≤ a) (h1 : a < 170141183460469231731687303715884105728) :
    Calls Tryz.prog 81 #[WV a] w fun e w' => e = .returned (.tuple #[.int .u64 (isq a), WV (a - isq a * isq a)]) ∧ Below w.heap.size w w' := by
  by_cases hz : a = 0
  · subst hz
    rw [isq_0]
    exact tRoot0 w
  have ha0 : 0 < a := by omega
  obtain ⟨i0, i1, i2⟩ := isq_spec a h0
  have i3 := isq_up h0 h1
  have e1 : whi a * 18446744073709551616 + wlo a = a := by unfold whi wlo; omega
  have b1' : 0 ≤ whi a := by unfold whi; omega
  have b2' : whi a ≤ 9223372036854775807 := by unfold whi; omega
  have b3' : 0 ≤ wlo a := by unfold wlo; omega
  have b4' : wlo a ≤ 18446744073709551615 := by unfold wlo; omega
  have l1 : Lib.bitLen (whi a).toNat ≤ 63 := Lib.bitLen_le _ 63 (by omega) (by omega)
  have l2 : Lib.bitLen (wlo a).toNat ≤ 64 := Lib.bitLen_le _ 64 (by omega) (by omega)
  have g1 := bl_lt (whi a).toNat (by omega)
  have g2 := bl_lt (wlo a).toNat (by omega)
  obtain ⟨X1, hX1⟩ : ∃ X, IntKind.u64.wrap (2 ^ ((Lib.bitLen (wlo a).toNat + 1) / 2)) = X := ⟨_, rfl⟩
  obtain ⟨X3, hX3⟩ : ∃ X, IntKind.u64.wrap (2 ^ ((Lib.bitLen (whi a).toNat + 64 + 1) / 2)) = X := ⟨_, rfl⟩
  have p1 : Hid (whi a = 0 → isq a ≤ X1 ∧ 0 < X1 ∧ X1 ≤ 18446744073709551615) := by
    intro hz
    have := start_le (n := Lib.bitLen (wlo a).toNat) h0 (by
      have := Int.ofNat_lt.2 g2
      rw [Int.natCast_pow] at this
      have k : ((wlo a).toNat : Int) = a := by omega
      rw [k] at this; exact this)
    have q : (2 : Int) ^ ((Lib.bitLen (wlo a).toNat + 1) / 2) ≤ 4294967296 := pow_le32 (by omega)
    have q0 : (0 : Int) < 2 ^ ((Lib.bitLen (wlo a).toNat + 1) / 2) := Int.pow_pos (by omega)
    rw [← hX1, u64w]
    omega
  have p3 : Hid (Lib.bitLen (whi a).toNat ≤ 62 → isq a ≤ X3 ∧ 0 < X3 ∧ X3 ≤ 18446744073709551615) := by
    intro hz
    have := start_le (n := Lib.bitLen (whi a).toNat + 64) h0 (by
      have := Int.ofNat_lt.2 g1
      rw [Int.natCast_pow] at this
      rw [Int.pow_add]
      have k : ((whi a).toNat : Int) = whi a := by omega
      rw [k] at this
      generalize (2 : Int) ^ Lib.bitLen (whi a).toNat = Q at *
      have : ((2 : Nat) : Int) ^ Lib.bitLen (whi a).toNat = (2 : Int) ^ Lib.bitLen (whi a).toNat := rfl
      omega)
    have q : (2 : Int) ^ ((Lib.bitLen (whi a).toNat + 64 + 1) / 2) ≤ 9223372036854775808 := pow_le63 (by omega)
    have q0 : (0 : Int) < 2 ^ ((Lib.bitLen (whi a).toNat + 64 + 1) / 2) := Int.pow_pos (by omega)
    rw [← hX3, u64w]
    omega
  have k1 : IntKind.u64.wrap (whi a) = whi a := by rw [u64w]; omega
  have HX1 := Lib.hid hX1
  have HX3 := Lib.hid hX3
  clear g1 g2 hX1 hX3
  have ha1 : ¬ (whi a = 0 ∧ wlo a = 0) := by unfold whi wlo; omega
  clear hz
  have hi1 : 1 ≤ isq a := (le_isq (by omega) (by omega)).2 (by omega)
  have hcase : (whi a == 0) = true ∧ ¬ wlo a = 0 ∨ (whi a == 0) = false ∧ ((Lib.bitLen (whi a).toNat : Int) + 64 == 127) = true ∨ (whi a == 0) = false ∧ ((Lib.bitLen (whi a).toNat : Int) + 64 == 127) = false ∧ Lib.bitLen (whi a).toNat ≤ 62 := by
    by_cases c1 : whi a = 0
    · exact .inl ⟨by simpa using c1, fun h => ha1 ⟨c1, h⟩⟩
    · by_cases c2 : Lib.bitLen (whi a).toNat = 63
      · exact .inr (.inl ⟨by simpa using c1, by simp; omega⟩)
      · exact .inr (.inr ⟨by simpa using c1, by simp; omega, by omega⟩)
  rcases hcase with ⟨c1, c2⟩ | ⟨c1, c2⟩ | ⟨c1, c2, c3⟩
  case' inl => have P := p1.out (by simpa using c1)
  case' inr.inr => have P := p3.out c3
  all_goals
    go_enter Tryz.func81, Tryz.ntmps81
    go_wp2_with fail
    go_step3
    go_wp2_with (go_at_call 101; (first | (with_reducible refine (bLen (whi a) _ (by omega) (by omega)).mono ?_) | (with_reducible refine (bLen (wlo a) _ (by omega) (by omega)).mono ?_)); rintro e w1 ⟨rfl, rfl⟩)
    go_step3
    go_wp2_with fail
    go_loopg [2, 6, 7] (18446744073709551615 : Nat) (fun g s2 s6 s7 wr => ∃ x : Int, x ≤ g ∧ s2 = .int .u64 x ∧ isq a ≤ x ∧ 0 < x ∧ x ≤ 18446744073709551615 ∧ ∃ z, wr = past ((w.alloc (Obj.cells #[.int .i64 (whi a), .int .u64 (wlo a)] 61)).alloc (Obj.cells #[.int .i64 0, .int .u64 0] 61)) z)
    case atStart =>
      first
        | exact ⟨X1, by omega, by rw [HX1.out], P.1, P.2.1, P.2.2, _, past_of (Below.refl _ _)⟩
        | exact ⟨X3, by omega, by rw [HX3.out], P.1, P.2.1, P.2.2, _, past_of (Below.refl _ _)⟩
        | exact ⟨18446744073709551615, by omega, rfl, by omega, by omega, by omega, _, past_of (Below.refl _ _)⟩
    case round =>
      obtain ⟨x, hg, rfl, x0, x1, x2, z, rfl⟩ := hrel
      have hl : whi a < x := by
        have := hi_lt ha0 h1 x0
        unfold whi; omega
      obtain ⟨q, hq⟩ : ∃ q, a / x = q := ⟨_, rfl⟩
      have hq0 : 0 ≤ q := by rw [← hq]; exact Int.ediv_nonneg h0 (by omega)
      have hq1 : q ≤ 18446744073709551615 := by
        have : a / x < 18446744073709551616 := by
          apply Int.ediv_lt_of_lt_mul x1
          have : 18446744073709551616 * (whi a + 1) ≤ 18446744073709551616 * x := by omega
          omega
        omega
      have hav := avg x q (by omega) x2 hq0 hq1
      have hge := newton_ge h0 x1
      have hend := newton_end h0 x1 x0
      rw [hq] at hge hend
      obtain ⟨s, hs⟩ : ∃ s, bits .and .u64 (bits .and .u64 x q) 1 = s := ⟨_, rfl⟩
      rw [hs] at hav
      have s0 : 0 ≤ s ∧ s ≤ 1 := by omega
      have HQ := Lib.hid hq
      clear hq
      have hsq0 : 0 ≤ x * x := Int.mul_nonneg (by omega) (by omega)
      have hsq1 : x * x ≤ 18446744073709551615 * 18446744073709551615 := Int.mul_le_mul x2 x2 (by omega) (by omega)
      have hsg := sg_hi (x * x) hsq0 (by omega)
      have hsg' : IntKind.i64.wrap (shi (x * x)) = whi (x * x) := by rw [IntKind.wrap_i64]; unfold wrap64 at hsg; exact hsg
      go_wp2_with (first | (go_at_call 102; (with_reducible refine Calls_past2 (tQuo (whi a) (wlo a) x _ b1' hl b3' b4' x2) (fun z => ?_)); rw [e1, HQ.out]) | (go_at_call 83; (with_reducible refine (bMul x x _ (by omega) x2 (by omega) x2).mono ?_); rintro e w1 ⟨rfl, rfl⟩))
      · refine region_past2_tail 9 (by kernel_rfl) (by kernel_rfl) ?_
        simp only [List.take_succ_cons, List.take_zero, List.drop_succ_cons, List.drop_zero]
        repeat (go_big_quiet_step ((first | (go_at_call 103; exact Calls_pastq (wNeg (x * x) _)) | (go_at_call 77; exact Calls_pastq (wAdd a (-(x * x)) _)))))
        refine wpQuiet_nil ?_
        rintro _ ⟨y, rfl⟩
        go_wp2_with fail
        rw [Exit.noGoto_ret]
        have hx : isq a = x := hend (by omega)
        exact bodyPost_ret (v := .tuple #[.int .u64 x, WV (a + -(x * x))]) (by (first | (simp [results, Tryz.results81, go_sem]; done) | (simp [results, Tryz.results81, go_sem, ↓IntWalk.iteOmega]; done))) rfl ⟨by rw [hx, Int.sub_eq_add_neg], by (repeat (first | assumption | exact Below.refl _ _ | with_reducible refine past_t _ ?_ | with_reducible refine below_a _ ?_ | with_reducible refine Below.drew ?_ | with_reducible refine below_d _ ?_ | (with_reducible refine Below.setCell ?_ (by (show _ ≤ _; repeat (first | exact Nat.le_refl _ | assumption | (omega; done) | with_reducible exact le_past (Nat.le_refl _) | with_reducible refine le_past ?_ | with_reducible refine le_al ?_ | with_reducible refine le_set ?_ | with_reducible refine le_p1 ?_))) _)))⟩
      · go_roundg ((x + q) / 2).toNat
        case measure => omega
        case rel => exact ⟨_, by omega, rfl, hge, by omega, by omega, z, rfl⟩
end Go.Proofs.YtlhadociaekkhaaGreat
