/- RFit -/
import Derived.Test.YtlhadociaekkhaaQRef1
namespace Go.Proofs.Ytlhadociaekkhaa
set_option linter.unusedVariables false
open Go.RowKit
set_option maxHeartbeats 1000000 in
theorem rFit_hi (x : Int) (w : World) (hx0 : -170141183460469231731687303715884105728 ≤ x) (hx : x < 170141183460469231731687303715884105728) (hx1 : 9223372036854775807 < x) :
    Calls Try.prog 99 #[WV x] w fun e w' => e = .returned (.tuple #[.int .i64 9223372036854775807, .bool true]) ∧ Below w.heap.size w w' := by
  have c1 : cmpI x 9223372036854775807 = 1 := by unfold cmpI; repeat (first | omega | split)
  have c2 : cmpI x (-9223372036854775807) = 1 := by unfold cmpI; repeat (first | omega | split)
  have HX := Lib.hid hx1; clear hx1
  go_enter Try.func99, Try.ntmps99
  go_wp2_with fail
  go_region_held3 (fun w' => Below w.heap.size w w' ∧ w.heap.size < w'.heap.size ∧ w'.cell? ⟨w.heap.size, 0, none⟩ = some (.int .i64 (whi x)) ∧ w'.cell? ⟨w.heap.size, 1, none⟩ = some (.int .u64 (wlo x)))
    (first | exact ⟨((Below.one _ _)).drew, by simp, by simp [go_sem], by simp [go_sem]⟩ | (go_split_ands; refine ⟨?_, ?_, ?_, ?_⟩ <;> (first | exact Below.next (by assumption) hbz (by omega) | exact cell_keep (by assumption) hbz | exact Slot.keep (by assumption) hbz | exact Nat.lt_of_lt_of_le (by assumption) hbz.size)))
    (first | (go_at_call 87; refine (rOf _ _ (by omega) (by omega)).mono ?_; rintro e wa ⟨rfl, hbz⟩) | (go_at_call 115; refine (rCmp _ _ _ hx0 hx (by omega) (by omega)).mono ?_; rintro e wb ⟨rfl, hbz⟩))
  have HS1 := (by assumption : Below w.heap.size w wb ∧ _)
  obtain ⟨HB1, HZ1, HC1, HC2⟩ := HS1
  go_wp2_with fail
  go_ret2; exact ⟨rfl, by assumption⟩
set_option maxHeartbeats 1000000 in
theorem rFit_eq (x : Int) (w : World) (hx0 : -170141183460469231731687303715884105728 ≤ x) (hx : x < 170141183460469231731687303715884105728) (hx1 : x = 9223372036854775807) :
    Calls Try.prog 99 #[WV x] w fun e w' => e = .returned (.tuple #[.int .i64 x, .bool false]) ∧ Below w.heap.size w w' := by
  have c1 : cmpI x 9223372036854775807 = 0 := by unfold cmpI; repeat (first | omega | split)
  have c2 : cmpI x (-9223372036854775807) = 1 := by unfold cmpI; repeat (first | omega | split)
  have HX := Lib.hid hx1; clear hx1
  go_enter Try.func99, Try.ntmps99
  go_wp2_with fail
  go_region_held3 (fun w' => Below w.heap.size w w' ∧ w.heap.size < w'.heap.size ∧ w'.cell? ⟨w.heap.size, 0, none⟩ = some (.int .i64 (whi x)) ∧ w'.cell? ⟨w.heap.size, 1, none⟩ = some (.int .u64 (wlo x)))
    (first | exact ⟨((Below.one _ _)).drew, by simp, by simp [go_sem], by simp [go_sem]⟩ | (go_split_ands; refine ⟨?_, ?_, ?_, ?_⟩ <;> (first | exact Below.next (by assumption) hbz (by omega) | exact cell_keep (by assumption) hbz | exact Slot.keep (by assumption) hbz | exact Nat.lt_of_lt_of_le (by assumption) hbz.size)))
    (first | (go_at_call 87; refine (rOf _ _ (by omega) (by omega)).mono ?_; rintro e wa ⟨rfl, hbz⟩) | (go_at_call 115; refine (rCmp _ _ _ hx0 hx (by omega) (by omega)).mono ?_; rintro e wb ⟨rfl, hbz⟩))
  have HS1 := (by assumption : Below w.heap.size w wb ∧ _)
  obtain ⟨HB1, HZ1, HC1, HC2⟩ := HS1
  go_wp2_with fail
  go_region_held3 (fun w' => Below w.heap.size w w' ∧ w.heap.size < w'.heap.size ∧ w'.cell? ⟨w.heap.size, 0, none⟩ = some (.int .i64 (whi x)) ∧ w'.cell? ⟨w.heap.size, 1, none⟩ = some (.int .u64 (wlo x)))
    (first | exact ⟨HB1.drew, HZ1, HC1, HC2⟩ | (go_split_ands; refine ⟨?_, ?_, ?_, ?_⟩ <;> (first | exact Below.next (by assumption) hbz (by omega) | exact cell_keep (by assumption) hbz | exact Slot.keep (by assumption) hbz | exact Nat.lt_of_lt_of_le (by assumption) hbz.size)))
    (first | (go_at_call 87; refine (rOf _ _ (by omega) (by omega)).mono ?_; rintro e wc ⟨rfl, hbz⟩) | (go_at_call 115; refine (rCmp _ _ _ hx0 hx (by omega) (by omega)).mono ?_; rintro e wd ⟨rfl, hbz⟩))
  have HS2 := (by assumption : Below w.heap.size w wd ∧ _)
  obtain ⟨HB3, HZ3, HC3, HC4⟩ := HS2
  clear HB1 HZ1 HC1 HC2
  go_wp2_with fail
  go_ret2; exact ⟨by rw [fit_in x (by have := HX.out; omega) (by have := HX.out; omega)]; rfl, by assumption⟩
set_option maxHeartbeats 1000000 in
theorem rFit_in (x : Int) (w : World) (hx0 : -170141183460469231731687303715884105728 ≤ x) (hx : x < 170141183460469231731687303715884105728) (hx1 : x < 9223372036854775807 ∧ -9223372036854775807 < x) :
    Calls Try.prog 99 #[WV x] w fun e w' => e = .returned (.tuple #[.int .i64 x, .bool false]) ∧ Below w.heap.size w w' := by
  have c1 : cmpI x 9223372036854775807 = -1 := by unfold cmpI; repeat (first | omega | split)
  have c2 : cmpI x (-9223372036854775807) = 1 := by unfold cmpI; repeat (first | omega | split)
  have HX := Lib.hid hx1; clear hx1
  go_enter Try.func99, Try.ntmps99
  go_wp2_with fail
  go_region_held3 (fun w' => Below w.heap.size w w' ∧ w.heap.size < w'.heap.size ∧ w'.cell? ⟨w.heap.size, 0, none⟩ = some (.int .i64 (whi x)) ∧ w'.cell? ⟨w.heap.size, 1, none⟩ = some (.int .u64 (wlo x)))
    (first | exact ⟨((Below.one _ _)).drew, by simp, by simp [go_sem], by simp [go_sem]⟩ | (go_split_ands; refine ⟨?_, ?_, ?_, ?_⟩ <;> (first | exact Below.next (by assumption) hbz (by omega) | exact cell_keep (by assumption) hbz | exact Slot.keep (by assumption) hbz | exact Nat.lt_of_lt_of_le (by assumption) hbz.size)))
    (first | (go_at_call 87; refine (rOf _ _ (by omega) (by omega)).mono ?_; rintro e wa ⟨rfl, hbz⟩) | (go_at_call 115; refine (rCmp _ _ _ hx0 hx (by omega) (by omega)).mono ?_; rintro e wb ⟨rfl, hbz⟩))
  have HS1 := (by assumption : Below w.heap.size w wb ∧ _)
  obtain ⟨HB1, HZ1, HC1, HC2⟩ := HS1
  go_wp2_with fail
  go_region_held3 (fun w' => Below w.heap.size w w' ∧ w.heap.size < w'.heap.size ∧ w'.cell? ⟨w.heap.size, 0, none⟩ = some (.int .i64 (whi x)) ∧ w'.cell? ⟨w.heap.size, 1, none⟩ = some (.int .u64 (wlo x)))
    (first | exact ⟨HB1.drew, HZ1, HC1, HC2⟩ | (go_split_ands; refine ⟨?_, ?_, ?_, ?_⟩ <;> (first | exact Below.next (by assumption) hbz (by omega) | exact cell_keep (by assumption) hbz | exact Slot.keep (by assumption) hbz | exact Nat.lt_of_lt_of_le (by assumption) hbz.size)))
    (first | (go_at_call 87; refine (rOf _ _ (by omega) (by omega)).mono ?_; rintro e wc ⟨rfl, hbz⟩) | (go_at_call 115; refine (rCmp _ _ _ hx0 hx (by omega) (by omega)).mono ?_; rintro e wd ⟨rfl, hbz⟩))
  have HS2 := (by assumption : Below w.heap.size w wd ∧ _)
  obtain ⟨HB3, HZ3, HC3, HC4⟩ := HS2
  clear HB1 HZ1 HC1 HC2
  go_wp2_with fail
  go_ret2; exact ⟨by rw [fit_in x (by have := HX.out; omega) (by have := HX.out; omega)]; rfl, by assumption⟩
set_option maxHeartbeats 1000000 in
theorem rFit_ql (x : Int) (w : World) (hx0 : -170141183460469231731687303715884105728 ≤ x) (hx : x < 170141183460469231731687303715884105728) (hx1 : x = -9223372036854775807) :
    Calls Try.prog 99 #[WV x] w fun e w' => e = .returned (.tuple #[.int .i64 x, .bool false]) ∧ Below w.heap.size w w' := by
  have c1 : cmpI x 9223372036854775807 = -1 := by unfold cmpI; repeat (first | omega | split)
  have c2 : cmpI x (-9223372036854775807) = 0 := by unfold cmpI; repeat (first | omega | split)
  have HX := Lib.hid hx1; clear hx1
  go_enter Try.func99, Try.ntmps99
  go_wp2_with fail
  go_region_held3 (fun w' => Below w.heap.size w w' ∧ w.heap.size < w'.heap.size ∧ w'.cell? ⟨w.heap.size, 0, none⟩ = some (.int .i64 (whi x)) ∧ w'.cell? ⟨w.heap.size, 1, none⟩ = some (.int .u64 (wlo x)))
    (first | exact ⟨((Below.one _ _)).drew, by simp, by simp [go_sem], by simp [go_sem]⟩ | (go_split_ands; refine ⟨?_, ?_, ?_, ?_⟩ <;> (first | exact Below.next (by assumption) hbz (by omega) | exact cell_keep (by assumption) hbz | exact Slot.keep (by assumption) hbz | exact Nat.lt_of_lt_of_le (by assumption) hbz.size)))
    (first | (go_at_call 87; refine (rOf _ _ (by omega) (by omega)).mono ?_; rintro e wa ⟨rfl, hbz⟩) | (go_at_call 115; refine (rCmp _ _ _ hx0 hx (by omega) (by omega)).mono ?_; rintro e wb ⟨rfl, hbz⟩))
  have HS1 := (by assumption : Below w.heap.size w wb ∧ _)
  obtain ⟨HB1, HZ1, HC1, HC2⟩ := HS1
  go_wp2_with fail
  go_region_held3 (fun w' => Below w.heap.size w w' ∧ w.heap.size < w'.heap.size ∧ w'.cell? ⟨w.heap.size, 0, none⟩ = some (.int .i64 (whi x)) ∧ w'.cell? ⟨w.heap.size, 1, none⟩ = some (.int .u64 (wlo x)))
    (first | exact ⟨HB1.drew, HZ1, HC1, HC2⟩ | (go_split_ands; refine ⟨?_, ?_, ?_, ?_⟩ <;> (first | exact Below.next (by assumption) hbz (by omega) | exact cell_keep (by assumption) hbz | exact Slot.keep (by assumption) hbz | exact Nat.lt_of_lt_of_le (by assumption) hbz.size)))
    (first | (go_at_call 87; refine (rOf _ _ (by omega) (by omega)).mono ?_; rintro e wc ⟨rfl, hbz⟩) | (go_at_call 115; refine (rCmp _ _ _ hx0 hx (by omega) (by omega)).mono ?_; rintro e wd ⟨rfl, hbz⟩))
  have HS2 := (by assumption : Below w.heap.size w wd ∧ _)
  obtain ⟨HB3, HZ3, HC3, HC4⟩ := HS2
  clear HB1 HZ1 HC1 HC2
  go_wp2_with fail
  go_ret2; exact ⟨by rw [fit_in x (by have := HX.out; omega) (by have := HX.out; omega)]; rfl, by assumption⟩
set_option maxHeartbeats 1000000 in
theorem rFit_lo (x : Int) (w : World) (hx0 : -170141183460469231731687303715884105728 ≤ x) (hx : x < 170141183460469231731687303715884105728) (hx1 : x < -9223372036854775807) :
    Calls Try.prog 99 #[WV x] w fun e w' => e = .returned (.tuple #[.int .i64 (-9223372036854775807), .bool true]) ∧ Below w.heap.size w w' := by
  have c1 : cmpI x 9223372036854775807 = -1 := by unfold cmpI; repeat (first | omega | split)
  have c2 : cmpI x (-9223372036854775807) = -1 := by unfold cmpI; repeat (first | omega | split)
  have HX := Lib.hid hx1; clear hx1
  go_enter Try.func99, Try.ntmps99
  go_wp2_with fail
  go_region_held3 (fun w' => Below w.heap.size w w' ∧ w.heap.size < w'.heap.size ∧ w'.cell? ⟨w.heap.size, 0, none⟩ = some (.int .i64 (whi x)) ∧ w'.cell? ⟨w.heap.size, 1, none⟩ = some (.int .u64 (wlo x)))
    (first | exact ⟨((Below.one _ _)).drew, by simp, by simp [go_sem], by simp [go_sem]⟩ | (go_split_ands; refine ⟨?_, ?_, ?_, ?_⟩ <;> (first | exact Below.next (by assumption) hbz (by omega) | exact cell_keep (by assumption) hbz | exact Slot.keep (by assumption) hbz | exact Nat.lt_of_lt_of_le (by assumption) hbz.size)))
    (first | (go_at_call 87; refine (rOf _ _ (by omega) (by omega)).mono ?_; rintro e wa ⟨rfl, hbz⟩) | (go_at_call 115; refine (rCmp _ _ _ hx0 hx (by omega) (by omega)).mono ?_; rintro e wb ⟨rfl, hbz⟩))
  have HS1 := (by assumption : Below w.heap.size w wb ∧ _)
  obtain ⟨HB1, HZ1, HC1, HC2⟩ := HS1
  go_wp2_with fail
  go_region_held3 (fun w' => Below w.heap.size w w' ∧ w.heap.size < w'.heap.size ∧ w'.cell? ⟨w.heap.size, 0, none⟩ = some (.int .i64 (whi x)) ∧ w'.cell? ⟨w.heap.size, 1, none⟩ = some (.int .u64 (wlo x)))
    (first | exact ⟨HB1.drew, HZ1, HC1, HC2⟩ | (go_split_ands; refine ⟨?_, ?_, ?_, ?_⟩ <;> (first | exact Below.next (by assumption) hbz (by omega) | exact cell_keep (by assumption) hbz | exact Slot.keep (by assumption) hbz | exact Nat.lt_of_lt_of_le (by assumption) hbz.size)))
    (first | (go_at_call 87; refine (rOf _ _ (by omega) (by omega)).mono ?_; rintro e wc ⟨rfl, hbz⟩) | (go_at_call 115; refine (rCmp _ _ _ hx0 hx (by omega) (by omega)).mono ?_; rintro e wd ⟨rfl, hbz⟩))
  have HS2 := (by assumption : Below w.heap.size w wd ∧ _)
  obtain ⟨HB3, HZ3, HC3, HC4⟩ := HS2
  clear HB1 HZ1 HC1 HC2
  go_wp2_with fail
  go_ret2; exact ⟨rfl, by assumption⟩
theorem rFit (x : Int) (w : World) (hx0 : -170141183460469231731687303715884105728 ≤ x) (hx : x < 170141183460469231731687303715884105728) :
    Calls Try.prog 99 #[WV x] w fun e w' => e = .returned (.tuple #[.int .i64 (fitV x), .bool (fitC x)]) ∧ Below w.heap.size w w' := by
  rcases Int.lt_trichotomy x 9223372036854775807 with h | h | h
  · rcases Int.lt_trichotomy x (-9223372036854775807) with g | g | g
    · exact fit_way (by unfold fitV; rw [if_neg (by omega), if_pos g]) (by unfold fitC; simp; omega) (rFit_lo x w hx0 hx g)
    · exact fit_way (by unfold fitV; rw [if_neg (by omega), if_neg (by omega)]) (by unfold fitC; simp; omega) (rFit_ql x w hx0 hx g)
    · exact fit_way (by unfold fitV; rw [if_neg (by omega), if_neg (by omega)]) (by unfold fitC; simp; omega) (rFit_in x w hx0 hx ⟨h, g⟩)
  · exact fit_way (by unfold fitV; rw [if_neg (by omega), if_neg (by omega)]) (by unfold fitC; simp; omega) (rFit_eq x w hx0 hx h)
  · exact fit_way (by unfold fitV; rw [if_pos h]) (by unfold fitC; simp; omega) (rFit_hi x w hx0 hx h)
end Go.Proofs.Ytlhadociaekkhaa
