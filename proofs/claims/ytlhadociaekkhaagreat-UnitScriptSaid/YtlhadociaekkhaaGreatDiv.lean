
import Derived.Test.YtlhadociaekkhaaGreatDiv0
import Derived.Test.YtlhadociaekkhaaGreatDivM
namespace Go.Proofs.YtlhadociaekkhaaGreat
set_option linter.unusedVariables false
open Go.RowKit
theorem lenAux : ∀ f x : Nat, x < 2 ^ f → x < 2 ^ Lib.bitLenAux f x ∧ (x ≠ 0 → 2 ^ Lib.bitLenAux f x ≤ 2 * x)
  | 0, x, h => by simp at h; subst h; simp [Lib.bitLenAux]
  | f + 1, x, h => by
    simp only [Lib.bitLenAux]
    by_cases hx : x = 0
    · simp [hx]
    · rw [if_neg hx]
      obtain ⟨h1, h2⟩ := lenAux f (x / 2) (by rw [Nat.pow_succ] at h; omega)
      rw [Nat.add_comm 1, Nat.pow_succ]
      refine ⟨by omega, fun _ => ?_⟩
      by_cases h3 : x / 2 = 0
      · have : x = 1 := by omega
        subst this
        simp only [show (1 : Nat) / 2 = 0 from rfl] at h2 ⊢
        have : ∀ f, Lib.bitLenAux f 0 = 0 := by intro f; cases f <;> simp [Lib.bitLenAux]
        rw [this]
        decide
      · have := h2 h3; omega
theorem lz_spec (y : Int) (h0 : 0 < y) (h1 : y ≤ 18446744073709551615) : 0 ≤ lz y ∧ lz y ≤ 63 ∧ 9223372036854775808 ≤ y * 2 ^ (lz y).toNat ∧ y * 2 ^ (lz y).toNat ≤ 18446744073709551615 := by
  obtain ⟨y, rfl⟩ := Int.eq_ofNat_of_zero_le (Int.le_of_lt h0)
  obtain ⟨a, b⟩ := lenAux 64 y (by omega)
  have c := b (by omega)
  have d := Lib.bitLen_le y 64 (by omega) (by omega)
  unfold lz Lib.bitLen at *
  simp only [Int.toNat_natCast] at *
  generalize Lib.bitLenAux 64 y = n at *
  have hn : n ≠ 0 := by rintro rfl; simp at a; omega
  refine ⟨by omega, by omega, ?_⟩
  rw [show ((64 : Int) - (n : Int)).toNat = 64 - n from by omega]
  have e : (2 : Nat) ^ n * 2 ^ (64 - n) = 18446744073709551616 := by rw [← Nat.pow_add, show n + (64 - n) = 64 from by omega]
  have p : 0 < 2 ^ (64 - n) := Nat.pow_pos (by omega)
  have c2 : 2 ^ n * 2 ^ (64 - n) ≤ 2 * y * 2 ^ (64 - n) := Nat.mul_le_mul_right _ c
  have a2 : (y + 1) * 2 ^ (64 - n) ≤ 2 ^ n * 2 ^ (64 - n) := Nat.mul_le_mul_right _ a
  rw [Nat.mul_assoc] at c2
  rw [Nat.add_mul] at a2
  have : ((y : Int) * 2 ^ (64 - n)) = ((y * 2 ^ (64 - n) : Nat) : Int) := by push_cast; rfl
  rw [this]
  generalize y * 2 ^ (64 - n) = z at *
  omega
theorem i64_in {z : Int} (h0 : 0 ≤ z) (h1 : z ≤ 18446744073709551615) : IntKind.u64.wrap z = z := by rw [u64w]; omega
set_option maxHeartbeats 2000000 in
theorem bDiv_core (hi lo y s Y y1 y0 u32 u10 u1 u0 qa ra Q1 u21 qb rb Q0 qq rr : Int) (w : World) (hhi : 0 ≤ hi) (hhi2 : ¬ y ≤ hi) (hz : (hi == 0) = false) (hy0 : (y == 0) = false) (hlo : 0 ≤ lo) (hlo2 : lo ≤ 18446744073709551615) (hy2 : y ≤ 18446744073709551615) (hyp : 0 ≤ y)
   (es : lz y = s) (hs0 : 0 ≤ s) (hs : s ≤ 63) (hs' : 0 ≤ 64 - s)
   (eY : IntKind.u64.wrap (y * 2 ^ s.toNat) = Y) (e1 : Y / 4294967296 = y1) (e0 : bits .and .u64 Y 4294967295 = y0)
   (eu : bits .or .u64 (IntKind.u64.wrap (hi * 2 ^ s.toNat)) (lo / 2 ^ (64 - s).toNat) = u32) (eu2 : IntKind.u64.wrap (lo * 2 ^ s.toNat) = u10) (eu1 : u10 / 4294967296 = u1) (eu0 : bits .and .u64 u10 4294967295 = u0)
   (hY0 : 0 < Y) (hY1 : Y ≤ 18446744073709551615) (hu0 : 0 ≤ u10) (hu1 : u10 ≤ 18446744073709551615) (hy1 : 2147483648 ≤ y1) (hy1b : y1 ≤ 4294967295) (hy1' : ¬ y1 = 0) (hy0a : 0 ≤ y0) (hy0b : y0 ≤ 4294967295)
   (hu32 : 0 ≤ u32) (hu32' : u32 < Y) (hu1a : 0 ≤ u1) (hu1b : u1 ≤ 4294967295) (hu0a : 0 ≤ u0) (hu0b : u0 ≤ 4294967295) (hYs : Hid (Y = y1 * 4294967296 + y0))
   (eqa : IntKind.u64.wrap (u32.tdiv y1) = qa) (era : IntKind.u64.wrap (u32 - IntKind.u64.wrap (qa * y1)) = ra)
   (ia : Hid (u32 = qa * y1 + ra ∧ 0 ≤ ra ∧ ra < y1 ∧ Q1 ≤ qa ∧ qa ≤ 4294967297 ∧ 0 ≤ qa)) (eQ1 : Hid (Q1 = (u32 * 4294967296 + u1) / Y)) (hQ1b : Q1 ≤ 4294967295) (hQ1a : 0 ≤ Q1)
   (e21 : IntKind.u64.wrap (IntKind.u64.wrap (IntKind.u64.wrap (u32 * 4294967296) + u1) - IntKind.u64.wrap (Q1 * Y)) = u21) (hu21 : 0 ≤ u21) (hu21' : u21 < Y)
   (eqb : IntKind.u64.wrap (u21.tdiv y1) = qb) (erb : IntKind.u64.wrap (u21 - IntKind.u64.wrap (qb * y1)) = rb)
   (ib : Hid (u21 = qb * y1 + rb ∧ 0 ≤ rb ∧ rb < y1 ∧ Q0 ≤ qb ∧ qb ≤ 4294967297 ∧ 0 ≤ qb)) (eQ0 : Hid (Q0 = (u21 * 4294967296 + u0) / Y)) (hQ0b : Q0 ≤ 4294967295) (hQ0a : 0 ≤ Q0)
   (eqq : Hid (Q1 * 4294967296 + Q0 = qq)) (err : IntKind.u64.wrap (IntKind.u64.wrap (IntKind.u64.wrap (u21 * 4294967296) + u0) - IntKind.u64.wrap (Q0 * Y)) = rr) (hrr : 0 ≤ rr) (hrr' : rr ≤ 18446744073709551615) :
    Calls Tryz.prog 100 #[.int .u64 hi, .int .u64 lo, .int .u64 y] w fun e w' => e = .returned (.tuple #[.int .u64 qq, .int .u64 (rr / 2 ^ s.toNat)]) ∧ w = w' := by
  have ja := ia.out.2.1
  have jb := ia.out.2.2.1
  have jc := ia.out.2.2.2.2.1
  have jd := ia.out.2.2.2.2.2
  go_enter Tryz.func100, Tryz.ntmps100
  go_wp2_with (go_at_call 110; refine (bLz _ _ hyp hy2).mono ?_; rintro e w' ⟨rfl, rfl⟩)
  go_loop [15, 16] (fun q r => ∃ a c : Int, 0 ≤ a ∧ a ≤ 4294967297 ∧ 0 ≤ c ∧ c ≤ 4294967295 ∧ Hid (u32 = a * y1 + c ∧ Q1 ≤ a) ∧ q = .int .u64 a ∧ r = .int .u64 c) (fun q _ => (intOf q).toNat)
  case atStart => exact ⟨qa, ra, jd, jc, ja, by omega, ⟨ia.out.1, ia.out.2.2.2.1⟩, rfl, rfl⟩
  case round =>
    obtain ⟨a, c, a0, a1, c0, c1, hI, rfl, rfl⟩ := hrel
    have HI1 := hI.out.1
    have HI2 := hI.out.2
    by_cases hk : Q1 = a
    · have hc : a * y0 ≤ 4294967296 * c + u1 := (dg_le hY0 hYs.out HI1).1 (by rw [← hk, eQ1.out]; exact Int.le_refl _)
      subst hk
      have hp := pr_bd a0 (by omega) hy0a hy0b
      have p1 := i64_in hp.1 (by omega)
      have p2 : IntKind.u64.wrap (4294967296 * c) = 4294967296 * c := i64_in (by omega) (by omega)
      have p3 : IntKind.u64.wrap (4294967296 * c + u1) = 4294967296 * c + u1 := i64_in (by omega) (by omega)
      have ht : ¬ (4294967296 * c + u1 < Q1 * y0) := by omega
      have hb : ¬ (4294967296 ≤ Q1) := by omega
      clear hp hc HI1 HI2 hI
      go_wp2_with fail
      clear p1 p2 p3 ht hb a0 a1 c0 c1
      have ka := ib.out.2.1
      have kb := ib.out.2.2.1
      have kc := ib.out.2.2.2.2.1
      have kd := ib.out.2.2.2.2.2
      go_loop [18, 16] (fun q r => ∃ a c : Int, 0 ≤ a ∧ a ≤ 4294967297 ∧ 0 ≤ c ∧ c ≤ 4294967295 ∧ Hid (u21 = a * y1 + c ∧ Q0 ≤ a) ∧ q = .int .u64 a ∧ r = .int .u64 c) (fun q _ => (intOf q).toNat)
      case atStart => exact ⟨qb, rb, kd, kc, ka, by omega, ⟨ib.out.1, ib.out.2.2.2.1⟩, rfl, rfl⟩
      case round =>
        clear ka kb kc kd ja jb jc jd
        obtain ⟨a, c, a0, a1, c0, c1, hI, rfl, rfl⟩ := hrel
        have HI1 := hI.out.1
        have HI2 := hI.out.2
        by_cases hk : Q0 = a
        · have hc : a * y0 ≤ 4294967296 * c + u0 := (dg_le hY0 hYs.out HI1).1 (by rw [← hk, eQ0.out]; exact Int.le_refl _)
          subst hk
          have hp := pr_bd a0 (by omega) hy0a hy0b
          have p1 := i64_in hp.1 (by omega)
          have p2 : IntKind.u64.wrap (4294967296 * c) = 4294967296 * c := i64_in (by omega) (by omega)
          have p3 : IntKind.u64.wrap (4294967296 * c + u0) = 4294967296 * c + u0 := i64_in (by omega) (by omega)
          have ht : ¬ (4294967296 * c + u0 < Q0 * y0) := by omega
          have hb : ¬ (4294967296 ≤ Q0) := by omega
          clear hp hc HI1 HI2 hI
          go_wp2_with fail
          clear p1 p2 p3 ht hb a0 a1 c0 c1
          go_ret2
          exact ⟨ret_ii eqq.out rfl, rfl⟩
        · have hlt : Q0 + 1 ≤ a := by omega
          have hc : ¬ (a * y0 ≤ 4294967296 * c + u0) := fun h => by have h2 := (dg_le hY0 hYs.out HI1).2 h; rw [← eQ0.out] at h2; omega
          by_cases hx : 4294967296 ≤ c + y1
          · obtain rfl : a = Q0 + 1 := by
              have h := dg_break (v := u0) hY0 hYs.out HI1 hu21' a1 (by omega) c0 hy0a hy0b (by assumption) (by rw [← eQ0.out]; exact hlt) hx
              rw [← eQ0.out] at h; exact h
            clear HI1 HI2 hI hlt
            by_cases hb : 4294967296 ≤ (Q0 + 1)
            · go_wp2_with fail
              clear hx hb a0 a1 c0 c1
              go_ret2
              exact ⟨ret_ii eqq.out rfl, rfl⟩
            · have hp := pr_bd a0 (by omega) hy0a hy0b
              have p1 := i64_in hp.1 (by omega)
              have p2 : IntKind.u64.wrap (4294967296 * c) = 4294967296 * c := i64_in (by omega) (by omega)
              have p3 : IntKind.u64.wrap (4294967296 * c + u0) = 4294967296 * c + u0 := i64_in (by omega) (by omega)
              have ht : 4294967296 * c + u0 < (Q0 + 1) * y0 := by omega
              clear hp hc
              go_wp2_with fail
              clear hx hb a0 a1 c0 c1
              go_ret2
              exact ⟨ret_ii eqq.out rfl, rfl⟩
          · have hI2 : Hid (u21 = (a - 1) * y1 + (c + y1) ∧ Q0 ≤ a - 1) := ⟨by rw [HI1, Int.sub_mul]; omega, by omega⟩
            have am : 0 ≤ a - 1 := by omega
            have ae : IntKind.u64.wrap (a - 1) = a - 1 := i64_in (by omega) (by omega)
            clear HI1 HI2 hI
            by_cases hb : 4294967296 ≤ a
            · go_wp2_with fail
              go_round
              case rel => exact ⟨a - 1, c + y1, am, by omega, by omega, by omega, hI2, rfl, rfl⟩
              case measure => simp [intOf]; omega
            · have hp := pr_bd a0 (by omega) hy0a hy0b
              have p1 := i64_in hp.1 (by omega)
              have p2 : IntKind.u64.wrap (4294967296 * c) = 4294967296 * c := i64_in (by omega) (by omega)
              have p3 : IntKind.u64.wrap (4294967296 * c + u0) = 4294967296 * c + u0 := i64_in (by omega) (by omega)
              have ht : 4294967296 * c + u0 < a * y0 := by omega
              clear hp hc
              go_wp2_with fail
              go_round
              case rel => exact ⟨a - 1, c + y1, am, by omega, by omega, by omega, hI2, rfl, rfl⟩
              case measure => simp [intOf]; omega
    · have hlt : Q1 + 1 ≤ a := by omega
      have hc : ¬ (a * y0 ≤ 4294967296 * c + u1) := fun h => by have h2 := (dg_le hY0 hYs.out HI1).2 h; rw [← eQ1.out] at h2; omega
      by_cases hx : 4294967296 ≤ c + y1
      · obtain rfl : a = Q1 + 1 := by
          have h := dg_break (v := u1) hY0 hYs.out HI1 hu32' a1 (by omega) c0 hy0a hy0b (by assumption) (by rw [← eQ1.out]; exact hlt) hx
          rw [← eQ1.out] at h; exact h
        clear HI1 HI2 hI hlt
        by_cases hb : 4294967296 ≤ (Q1 + 1)
        · go_wp2_with fail
          clear hx hb a0 a1 c0 c1
          have ka := ib.out.2.1
          have kb := ib.out.2.2.1
          have kc := ib.out.2.2.2.2.1
          have kd := ib.out.2.2.2.2.2
          go_loop [18, 16] (fun q r => ∃ a c : Int, 0 ≤ a ∧ a ≤ 4294967297 ∧ 0 ≤ c ∧ c ≤ 4294967295 ∧ Hid (u21 = a * y1 + c ∧ Q0 ≤ a) ∧ q = .int .u64 a ∧ r = .int .u64 c) (fun q _ => (intOf q).toNat)
          case atStart => exact ⟨qb, rb, kd, kc, ka, by omega, ⟨ib.out.1, ib.out.2.2.2.1⟩, rfl, rfl⟩
          case round =>
            clear ka kb kc kd ja jb jc jd
            obtain ⟨a, c, a0, a1, c0, c1, hI, rfl, rfl⟩ := hrel
            have HI1 := hI.out.1
            have HI2 := hI.out.2
            by_cases hk : Q0 = a
            · have hc : a * y0 ≤ 4294967296 * c + u0 := (dg_le hY0 hYs.out HI1).1 (by rw [← hk, eQ0.out]; exact Int.le_refl _)
              subst hk
              have hp := pr_bd a0 (by omega) hy0a hy0b
              have p1 := i64_in hp.1 (by omega)
              have p2 : IntKind.u64.wrap (4294967296 * c) = 4294967296 * c := i64_in (by omega) (by omega)
              have p3 : IntKind.u64.wrap (4294967296 * c + u0) = 4294967296 * c + u0 := i64_in (by omega) (by omega)
              have ht : ¬ (4294967296 * c + u0 < Q0 * y0) := by omega
              have hb : ¬ (4294967296 ≤ Q0) := by omega
              clear hp hc HI1 HI2 hI
              go_wp2_with fail
              clear p1 p2 p3 ht hb a0 a1 c0 c1
              go_ret2
              exact ⟨ret_ii eqq.out rfl, rfl⟩
            · have hlt : Q0 + 1 ≤ a := by omega
              have hc : ¬ (a * y0 ≤ 4294967296 * c + u0) := fun h => by have h2 := (dg_le hY0 hYs.out HI1).2 h; rw [← eQ0.out] at h2; omega
              by_cases hx : 4294967296 ≤ c + y1
              · obtain rfl : a = Q0 + 1 := by
                  have h := dg_break (v := u0) hY0 hYs.out HI1 hu21' a1 (by omega) c0 hy0a hy0b (by assumption) (by rw [← eQ0.out]; exact hlt) hx
                  rw [← eQ0.out] at h; exact h
                clear HI1 HI2 hI hlt
                by_cases hb : 4294967296 ≤ (Q0 + 1)
                · go_wp2_with fail
                  clear hx hb a0 a1 c0 c1
                  go_ret2
                  exact ⟨ret_ii eqq.out rfl, rfl⟩
                · have hp := pr_bd a0 (by omega) hy0a hy0b
                  have p1 := i64_in hp.1 (by omega)
                  have p2 : IntKind.u64.wrap (4294967296 * c) = 4294967296 * c := i64_in (by omega) (by omega)
                  have p3 : IntKind.u64.wrap (4294967296 * c + u0) = 4294967296 * c + u0 := i64_in (by omega) (by omega)
                  have ht : 4294967296 * c + u0 < (Q0 + 1) * y0 := by omega
                  clear hp hc
                  go_wp2_with fail
                  clear hx hb a0 a1 c0 c1
                  go_ret2
                  exact ⟨ret_ii eqq.out rfl, rfl⟩
              · have hI2 : Hid (u21 = (a - 1) * y1 + (c + y1) ∧ Q0 ≤ a - 1) := ⟨by rw [HI1, Int.sub_mul]; omega, by omega⟩
                have am : 0 ≤ a - 1 := by omega
                have ae : IntKind.u64.wrap (a - 1) = a - 1 := i64_in (by omega) (by omega)
                clear HI1 HI2 hI
                by_cases hb : 4294967296 ≤ a
                · go_wp2_with fail
                  go_round
                  case rel => exact ⟨a - 1, c + y1, am, by omega, by omega, by omega, hI2, rfl, rfl⟩
                  case measure => simp [intOf]; omega
                · have hp := pr_bd a0 (by omega) hy0a hy0b
                  have p1 := i64_in hp.1 (by omega)
                  have p2 : IntKind.u64.wrap (4294967296 * c) = 4294967296 * c := i64_in (by omega) (by omega)
                  have p3 : IntKind.u64.wrap (4294967296 * c + u0) = 4294967296 * c + u0 := i64_in (by omega) (by omega)
                  have ht : 4294967296 * c + u0 < a * y0 := by omega
                  clear hp hc
                  go_wp2_with fail
                  go_round
                  case rel => exact ⟨a - 1, c + y1, am, by omega, by omega, by omega, hI2, rfl, rfl⟩
                  case measure => simp [intOf]; omega
        · have hp := pr_bd a0 (by omega) hy0a hy0b
          have p1 := i64_in hp.1 (by omega)
          have p2 : IntKind.u64.wrap (4294967296 * c) = 4294967296 * c := i64_in (by omega) (by omega)
          have p3 : IntKind.u64.wrap (4294967296 * c + u1) = 4294967296 * c + u1 := i64_in (by omega) (by omega)
          have ht : 4294967296 * c + u1 < (Q1 + 1) * y0 := by omega
          clear hp hc
          go_wp2_with fail
          clear hx hb a0 a1 c0 c1
          have ka := ib.out.2.1
          have kb := ib.out.2.2.1
          have kc := ib.out.2.2.2.2.1
          have kd := ib.out.2.2.2.2.2
          go_loop [18, 16] (fun q r => ∃ a c : Int, 0 ≤ a ∧ a ≤ 4294967297 ∧ 0 ≤ c ∧ c ≤ 4294967295 ∧ Hid (u21 = a * y1 + c ∧ Q0 ≤ a) ∧ q = .int .u64 a ∧ r = .int .u64 c) (fun q _ => (intOf q).toNat)
          case atStart => exact ⟨qb, rb, kd, kc, ka, by omega, ⟨ib.out.1, ib.out.2.2.2.1⟩, rfl, rfl⟩
          case round =>
            clear ka kb kc kd ja jb jc jd
            obtain ⟨a, c, a0, a1, c0, c1, hI, rfl, rfl⟩ := hrel
            have HI1 := hI.out.1
            have HI2 := hI.out.2
            by_cases hk : Q0 = a
            · have hc : a * y0 ≤ 4294967296 * c + u0 := (dg_le hY0 hYs.out HI1).1 (by rw [← hk, eQ0.out]; exact Int.le_refl _)
              subst hk
              have hp := pr_bd a0 (by omega) hy0a hy0b
              have p1 := i64_in hp.1 (by omega)
              have p2 : IntKind.u64.wrap (4294967296 * c) = 4294967296 * c := i64_in (by omega) (by omega)
              have p3 : IntKind.u64.wrap (4294967296 * c + u0) = 4294967296 * c + u0 := i64_in (by omega) (by omega)
              have ht : ¬ (4294967296 * c + u0 < Q0 * y0) := by omega
              have hb : ¬ (4294967296 ≤ Q0) := by omega
              clear hp hc HI1 HI2 hI
              go_wp2_with fail
              clear p1 p2 p3 ht hb a0 a1 c0 c1
              go_ret2
              exact ⟨ret_ii eqq.out rfl, rfl⟩
            · have hlt : Q0 + 1 ≤ a := by omega
              have hc : ¬ (a * y0 ≤ 4294967296 * c + u0) := fun h => by have h2 := (dg_le hY0 hYs.out HI1).2 h; rw [← eQ0.out] at h2; omega
              by_cases hx : 4294967296 ≤ c + y1
              · obtain rfl : a = Q0 + 1 := by
                  have h := dg_break (v := u0) hY0 hYs.out HI1 hu21' a1 (by omega) c0 hy0a hy0b (by assumption) (by rw [← eQ0.out]; exact hlt) hx
                  rw [← eQ0.out] at h; exact h
                clear HI1 HI2 hI hlt
                by_cases hb : 4294967296 ≤ (Q0 + 1)
                · go_wp2_with fail
                  clear hx hb a0 a1 c0 c1
                  go_ret2
                  exact ⟨ret_ii eqq.out rfl, rfl⟩
                · have hp := pr_bd a0 (by omega) hy0a hy0b
                  have p1 := i64_in hp.1 (by omega)
                  have p2 : IntKind.u64.wrap (4294967296 * c) = 4294967296 * c := i64_in (by omega) (by omega)
                  have p3 : IntKind.u64.wrap (4294967296 * c + u0) = 4294967296 * c + u0 := i64_in (by omega) (by omega)
                  have ht : 4294967296 * c + u0 < (Q0 + 1) * y0 := by omega
                  clear hp hc
                  go_wp2_with fail
                  clear hx hb a0 a1 c0 c1
                  go_ret2
                  exact ⟨ret_ii eqq.out rfl, rfl⟩
              · have hI2 : Hid (u21 = (a - 1) * y1 + (c + y1) ∧ Q0 ≤ a - 1) := ⟨by rw [HI1, Int.sub_mul]; omega, by omega⟩
                have am : 0 ≤ a - 1 := by omega
                have ae : IntKind.u64.wrap (a - 1) = a - 1 := i64_in (by omega) (by omega)
                clear HI1 HI2 hI
                by_cases hb : 4294967296 ≤ a
                · go_wp2_with fail
                  go_round
                  case rel => exact ⟨a - 1, c + y1, am, by omega, by omega, by omega, hI2, rfl, rfl⟩
                  case measure => simp [intOf]; omega
                · have hp := pr_bd a0 (by omega) hy0a hy0b
                  have p1 := i64_in hp.1 (by omega)
                  have p2 : IntKind.u64.wrap (4294967296 * c) = 4294967296 * c := i64_in (by omega) (by omega)
                  have p3 : IntKind.u64.wrap (4294967296 * c + u0) = 4294967296 * c + u0 := i64_in (by omega) (by omega)
                  have ht : 4294967296 * c + u0 < a * y0 := by omega
                  clear hp hc
                  go_wp2_with fail
                  go_round
                  case rel => exact ⟨a - 1, c + y1, am, by omega, by omega, by omega, hI2, rfl, rfl⟩
                  case measure => simp [intOf]; omega
      · have hI2 : Hid (u32 = (a - 1) * y1 + (c + y1) ∧ Q1 ≤ a - 1) := ⟨by rw [HI1, Int.sub_mul]; omega, by omega⟩
        have am : 0 ≤ a - 1 := by omega
        have ae : IntKind.u64.wrap (a - 1) = a - 1 := i64_in (by omega) (by omega)
        clear HI1 HI2 hI
        by_cases hb : 4294967296 ≤ a
        · go_wp2_with fail
          go_round
          case rel => exact ⟨a - 1, c + y1, am, by omega, by omega, by omega, hI2, rfl, rfl⟩
          case measure => simp [intOf]; omega
        · have hp := pr_bd a0 (by omega) hy0a hy0b
          have p1 := i64_in hp.1 (by omega)
          have p2 : IntKind.u64.wrap (4294967296 * c) = 4294967296 * c := i64_in (by omega) (by omega)
          have p3 : IntKind.u64.wrap (4294967296 * c + u1) = 4294967296 * c + u1 := i64_in (by omega) (by omega)
          have ht : 4294967296 * c + u1 < a * y0 := by omega
          clear hp hc
          go_wp2_with fail
          go_round
          case rel => exact ⟨a - 1, c + y1, am, by omega, by omega, by omega, hI2, rfl, rfl⟩
          case measure => simp [intOf]; omega
end Go.Proofs.YtlhadociaekkhaaGreat
