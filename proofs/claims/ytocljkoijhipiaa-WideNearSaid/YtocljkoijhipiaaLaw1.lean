/- The statements of layer 1. -/
import Derived.Test.YtocljkoijhipiaaDiv3
import Derived.Test.YtocljkoijhipiaaFit
namespace Go.Proofs.Ytocljkoijhipiaa
set_option linter.unusedVariables false
open Go.RowKit
set_option maxHeartbeats 1000000 in
theorem lRounds (n b want : Int) (w : World) (h1 : -9223372036854775808 ≤ n) (h2 : n ≤ 9223372036854775807) (b0 : 0 ≤ b) (b1 : b ≤ 127) (w0 : -9223372036854775808 ≤ want) (w1 : want ≤ 9223372036854775807) (h : Hid (rnd n (2 ^ b.toNat) = want)) :
    Calls Try.prog 40 #[.int .i64 n, .int .i64 b, .int .i64 want] w fun e w' => e = .returned (.bool true) ∧ Below w.heap.size w w' := by
  go_enter Try.func40, Try.ntmps40
  go_wp2_with fail
  refine (wOf n _ h1 h2).mono ?_
  rintro e wa ⟨rfl, hb1⟩
  go_wp2_with fail
  refine (wRound n b _ (by omega) (by omega) b0 b1).mono ?_
  rintro e wb ⟨rfl, hb2⟩
  rw [h.out]
  have B1 := Below.next hb1 hb2 hb1.size
  have z1 := B1.size
  go_wp2_with fail
  go_region_held3 (fun w' => Below w.heap.size w w' ∧ wb.heap.size < w'.heap.size ∧ w'.cell? ⟨wb.heap.size, 0, none⟩ = some (.int .i64 (whi want)) ∧ w'.cell? ⟨wb.heap.size, 1, none⟩ = some (.int .u64 (wlo want)))
    (first | exact ⟨(B1.alloc (by have := B1.size; omega) _).drew, by simp, by simp [go_sem], by simp [go_sem]⟩ | (go_split_ands; refine ⟨?_, ?_, ?_, ?_⟩ <;> (first | exact Below.next (by assumption) hbz (by omega) | exact cell_keep (by assumption) hbz | exact Slot.keep (by assumption) hbz | exact Nat.lt_of_lt_of_le (by assumption) hbz.size)))
    (first | (go_at_call 14; refine (wOf want _ w0 w1).mono ?_; rintro e wc ⟨rfl, hbz⟩))
  have BS := (by assumption : Below w.heap.size w _ ∧ _).1
  go_wp2_with fail
  go_ret
  exact ⟨rfl, BS⟩
set_option maxHeartbeats 1000000 in
theorem lDivides (n d want : Int) (w : World) (h1 : -9223372036854775808 ≤ n) (h2 : n ≤ 9223372036854775807) (b0 : -9223372036854775808 ≤ d) (b1 : d ≤ 9223372036854775807) (hd : Hid (¬ d = 0)) (w0 : -9223372036854775808 ≤ want) (w1 : want ≤ 9223372036854775807) (h : Hid (dvr n d = want)) :
    Calls Try.prog 41 #[.int .i64 n, .int .i64 d, .int .i64 want] w fun e w' => e = .returned (.bool true) ∧ Below w.heap.size w w' := by
  go_enter Try.func41, Try.ntmps41
  go_wp2_with fail
  refine (wOf n _ h1 h2).mono ?_
  rintro e wa ⟨rfl, hb1⟩
  go_wp2_with fail
  refine (wDiv n d _ (by omega) (by omega) b0 b1 hd.out).mono ?_
  rintro e wb ⟨rfl, hb2⟩
  rw [h.out]
  have B1 := Below.next hb1 hb2 hb1.size
  have z1 := B1.size
  go_wp2_with fail
  go_region_held3 (fun w' => Below w.heap.size w w' ∧ wb.heap.size < w'.heap.size ∧ w'.cell? ⟨wb.heap.size, 0, none⟩ = some (.int .i64 (whi want)) ∧ w'.cell? ⟨wb.heap.size, 1, none⟩ = some (.int .u64 (wlo want)))
    (first | exact ⟨(B1.alloc (by have := B1.size; omega) _).drew, by simp, by simp [go_sem], by simp [go_sem]⟩ | (go_split_ands; refine ⟨?_, ?_, ?_, ?_⟩ <;> (first | exact Below.next (by assumption) hbz (by omega) | exact cell_keep (by assumption) hbz | exact Slot.keep (by assumption) hbz | exact Nat.lt_of_lt_of_le (by assumption) hbz.size)))
    (first | (go_at_call 14; refine (wOf want _ w0 w1).mono ?_; rintro e wc ⟨rfl, hbz⟩))
  have BS := (by assumption : Below w.heap.size w _ ∧ _).1
  go_wp2_with fail
  go_ret
  exact ⟨rfl, BS⟩
theorem aw_1 : whi (4611686018427387904 * 8) = 2 ∧ wlo (4611686018427387904 * 8) = 0 ∧ whi (-1) = -1 ∧ wlo (-1) = 18446744073709551615 := by unfold whi wlo; omega
set_option maxHeartbeats 1000000 in
theorem lAwake (w : World) :
    Calls Try.prog 24 #[] w fun e w' => e = .returned (.bool true) ∧ Below w.heap.size w w' := by
  obtain ⟨c1, c2, c3, c4⟩ := aw_1
  go_enter Try.func24, Try.ntmps24
  go_wp2_with fail
  refine (wMul _ _ _ (by omega) (by omega) (by omega) (by omega)).mono ?_
  rintro e wa ⟨rfl, hb1⟩
  go_wp2_with fail
  refine (wOf (-1) _ (by omega) (by omega)).mono ?_
  rintro e wb ⟨rfl, hb2⟩
  have B1 := Below.next hb1 hb2 hb1.size
  go_wp2_with fail
  refine (lRounds 5 1 2 _ (by omega) (by omega) (by omega) (by omega) (by omega) (by omega) (by show rnd 5 (2 ^ (1 : Int).toNat) = 2; decide)).mono ?_
  rintro e wc ⟨rfl, hb3⟩
  have B2 := Below.next B1 hb3 B1.size
  go_wp2_with fail
  refine (lDivides 7 2 4 _ (by omega) (by omega) (by omega) (by omega) (by show ¬ (2 : Int) = 0; omega) (by omega) (by omega) (by show dvr 7 2 = 4; decide)).mono ?_
  rintro e wd ⟨rfl, hb4⟩
  have B3 := Below.next B2 hb4 B2.size
  go_wp2_with fail
  go_ret
  exact ⟨rfl, B3⟩
end Go.Proofs.Ytocljkoijhipiaa
