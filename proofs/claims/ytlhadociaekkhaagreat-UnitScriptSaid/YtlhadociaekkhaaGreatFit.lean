
import Derived.Test.YtlhadociaekkhaaGreatWide5
namespace Go.Proofs.YtlhadociaekkhaaGreat
set_option linter.unusedVariables false
open Go.RowKit
theorem fit_in (x : Int) (h0 : -9223372036854775808 ≤ x) (h : x ≤ 9223372036854775807) : wrap64 (wlo x) = x := by unfold wrap64 wlo; omega
set_option maxHeartbeats 1000000 in
theorem wFit_hi (x : Int) (w : World) (hx0 : -170141183460469231731687303715884105728 ≤ x) (hx : x < 170141183460469231731687303715884105728) (hx1 : 9223372036854775807 < x) :
    Calls Tryz.prog 63 #[WV x] w fun e w' => e = .returned (.tuple #[.int .i64 9223372036854775807, .bool true]) ∧ Below w.heap.size w w' := by
  have i0 : ∀ w, (Instr.index 81 (.agg #[.int .i64 9223372036854775807, .int .i64 (-9223372036854775807)]) (.int .i64 0)).run Tryz.prog w = .ok (.int .i64 9223372036854775807) w := fun _ => by kernel_rfl
  have i1 : ∀ w, (Instr.index 81 (.agg #[.int .i64 9223372036854775807, .int .i64 (-9223372036854775807)]) (.int .i64 1)).run Tryz.prog w = .ok (.int .i64 (-9223372036854775807)) w := fun _ => by kernel_rfl
  have c1 : cmpI x 9223372036854775807 = 1 := by unfold cmpI; repeat (first | omega | split)
  have c2 : cmpI x (-9223372036854775807) = 1 := by unfold cmpI; repeat (first | omega | split)
  have HX := Lib.hid hx1; clear hx1
  go_enter Tryz.func63, Tryz.ntmps63
  go_wp2_with fail
  refine wp_loop_rounds 3 ?_; rw [rounds_succ]
  go_wp2_with fail
  go_region_held3 (fun w' => Below w.heap.size w w' ∧ w.heap.size < w'.heap.size ∧ w'.cell? ⟨w.heap.size, 0, none⟩ = some (.int .i64 (whi x)) ∧ w'.cell? ⟨w.heap.size, 1, none⟩ = some (.int .u64 (wlo x)))
    (first | exact ⟨((Below.one _ _)).drew, by simp, by simp [go_sem], by simp [go_sem]⟩ | (go_split_ands; refine ⟨?_, ?_, ?_, ?_⟩ <;> (first | exact Below.next (by assumption) hbz (by omega) | exact cell_keep (by assumption) hbz | exact Slot.keep (by assumption) hbz | exact Nat.lt_of_lt_of_le (by assumption) hbz.size)))
    (first | (go_at_call 78; refine (wOf _ _ (by omega) (by omega)).mono ?_; rintro e wa ⟨rfl, hbz⟩) | (go_at_call 82; refine (wCmp _ _ _ hx0 hx (by omega) (by omega)).mono ?_; rintro e wb ⟨rfl, hbz⟩))
  have HS1 := (by assumption : Below w.heap.size w wb ∧ _)
  obtain ⟨HB1, HZ1, HC1, HC2⟩ := HS1
  go_wp2_with fail
  go_ret2; exact ⟨rfl, by assumption⟩
set_option maxHeartbeats 1000000 in
theorem wFit_eq (x : Int) (w : World) (hx0 : -170141183460469231731687303715884105728 ≤ x) (hx : x < 170141183460469231731687303715884105728) (hx1 : x = 9223372036854775807) :
    Calls Tryz.prog 63 #[WV x] w fun e w' => e = .returned (.tuple #[.int .i64 x, .bool false]) ∧ Below w.heap.size w w' := by
  have i0 : ∀ w, (Instr.index 81 (.agg #[.int .i64 9223372036854775807, .int .i64 (-9223372036854775807)]) (.int .i64 0)).run Tryz.prog w = .ok (.int .i64 9223372036854775807) w := fun _ => by kernel_rfl
  have i1 : ∀ w, (Instr.index 81 (.agg #[.int .i64 9223372036854775807, .int .i64 (-9223372036854775807)]) (.int .i64 1)).run Tryz.prog w = .ok (.int .i64 (-9223372036854775807)) w := fun _ => by kernel_rfl
  have c1 : cmpI x 9223372036854775807 = 0 := by unfold cmpI; repeat (first | omega | split)
  have c2 : cmpI x (-9223372036854775807) = 1 := by unfold cmpI; repeat (first | omega | split)
  have HX := Lib.hid hx1; clear hx1
  go_enter Tryz.func63, Tryz.ntmps63
  go_wp2_with fail
  refine wp_loop_rounds 3 ?_; rw [rounds_succ]
  go_wp2_with fail
  go_region_held3 (fun w' => Below w.heap.size w w' ∧ w.heap.size < w'.heap.size ∧ w'.cell? ⟨w.heap.size, 0, none⟩ = some (.int .i64 (whi x)) ∧ w'.cell? ⟨w.heap.size, 1, none⟩ = some (.int .u64 (wlo x)))
    (first | exact ⟨((Below.one _ _)).drew, by simp, by simp [go_sem], by simp [go_sem]⟩ | (go_split_ands; refine ⟨?_, ?_, ?_, ?_⟩ <;> (first | exact Below.next (by assumption) hbz (by omega) | exact cell_keep (by assumption) hbz | exact Slot.keep (by assumption) hbz | exact Nat.lt_of_lt_of_le (by assumption) hbz.size)))
    (first | (go_at_call 78; refine (wOf _ _ (by omega) (by omega)).mono ?_; rintro e wa ⟨rfl, hbz⟩) | (go_at_call 82; refine (wCmp _ _ _ hx0 hx (by omega) (by omega)).mono ?_; rintro e wb ⟨rfl, hbz⟩))
  have HS1 := (by assumption : Below w.heap.size w wb ∧ _)
  obtain ⟨HB1, HZ1, HC1, HC2⟩ := HS1
  go_wp2_with fail
  rw [rounds_succ]
  go_wp2_with fail
  go_region_held3 (fun w' => Below w.heap.size w w' ∧ w.heap.size < w'.heap.size ∧ w'.cell? ⟨w.heap.size, 0, none⟩ = some (.int .i64 (whi x)) ∧ w'.cell? ⟨w.heap.size, 1, none⟩ = some (.int .u64 (wlo x)))
    (first | exact ⟨HB1.drew, HZ1, HC1, HC2⟩ | (go_split_ands; refine ⟨?_, ?_, ?_, ?_⟩ <;> (first | exact Below.next (by assumption) hbz (by omega) | exact cell_keep (by assumption) hbz | exact Slot.keep (by assumption) hbz | exact Nat.lt_of_lt_of_le (by assumption) hbz.size)))
    (first | (go_at_call 78; refine (wOf _ _ (by omega) (by omega)).mono ?_; rintro e wc ⟨rfl, hbz⟩) | (go_at_call 82; refine (wCmp _ _ _ hx0 hx (by omega) (by omega)).mono ?_; rintro e wd ⟨rfl, hbz⟩))
  have HS2 := (by assumption : Below w.heap.size w wd ∧ _)
  obtain ⟨HB3, HZ3, HC3, HC4⟩ := HS2
  clear HB1 HZ1 HC1 HC2
  go_wp2_with fail
  rw [rounds_succ]
  go_wp2_with fail
  go_ret2; exact ⟨by rw [fit_in x (by have := HX.out; omega) (by have := HX.out; omega)]; rfl, by assumption⟩
set_option maxHeartbeats 1000000 in
theorem wFit_in (x : Int) (w : World) (hx0 : -170141183460469231731687303715884105728 ≤ x) (hx : x < 170141183460469231731687303715884105728) (hx1 : x < 9223372036854775807 ∧ -9223372036854775807 < x) :
    Calls Tryz.prog 63 #[WV x] w fun e w' => e = .returned (.tuple #[.int .i64 x, .bool false]) ∧ Below w.heap.size w w' := by
  have i0 : ∀ w, (Instr.index 81 (.agg #[.int .i64 9223372036854775807, .int .i64 (-9223372036854775807)]) (.int .i64 0)).run Tryz.prog w = .ok (.int .i64 9223372036854775807) w := fun _ => by kernel_rfl
  have i1 : ∀ w, (Instr.index 81 (.agg #[.int .i64 9223372036854775807, .int .i64 (-9223372036854775807)]) (.int .i64 1)).run Tryz.prog w = .ok (.int .i64 (-9223372036854775807)) w := fun _ => by kernel_rfl
  have c1 : cmpI x 9223372036854775807 = -1 := by unfold cmpI; repeat (first | omega | split)
  have c2 : cmpI x (-9223372036854775807) = 1 := by unfold cmpI; repeat (first | omega | split)
  have HX := Lib.hid hx1; clear hx1
  go_enter Tryz.func63, Tryz.ntmps63
  go_wp2_with fail
  refine wp_loop_rounds 3 ?_; rw [rounds_succ]
  go_wp2_with fail
  go_region_held3 (fun w' => Below w.heap.size w w' ∧ w.heap.size < w'.heap.size ∧ w'.cell? ⟨w.heap.size, 0, none⟩ = some (.int .i64 (whi x)) ∧ w'.cell? ⟨w.heap.size, 1, none⟩ = some (.int .u64 (wlo x)))
    (first | exact ⟨((Below.one _ _)).drew, by simp, by simp [go_sem], by simp [go_sem]⟩ | (go_split_ands; refine ⟨?_, ?_, ?_, ?_⟩ <;> (first | exact Below.next (by assumption) hbz (by omega) | exact cell_keep (by assumption) hbz | exact Slot.keep (by assumption) hbz | exact Nat.lt_of_lt_of_le (by assumption) hbz.size)))
    (first | (go_at_call 78; refine (wOf _ _ (by omega) (by omega)).mono ?_; rintro e wa ⟨rfl, hbz⟩) | (go_at_call 82; refine (wCmp _ _ _ hx0 hx (by omega) (by omega)).mono ?_; rintro e wb ⟨rfl, hbz⟩))
  have HS1 := (by assumption : Below w.heap.size w wb ∧ _)
  obtain ⟨HB1, HZ1, HC1, HC2⟩ := HS1
  go_wp2_with fail
  rw [rounds_succ]
  go_wp2_with fail
  go_region_held3 (fun w' => Below w.heap.size w w' ∧ w.heap.size < w'.heap.size ∧ w'.cell? ⟨w.heap.size, 0, none⟩ = some (.int .i64 (whi x)) ∧ w'.cell? ⟨w.heap.size, 1, none⟩ = some (.int .u64 (wlo x)))
    (first | exact ⟨HB1.drew, HZ1, HC1, HC2⟩ | (go_split_ands; refine ⟨?_, ?_, ?_, ?_⟩ <;> (first | exact Below.next (by assumption) hbz (by omega) | exact cell_keep (by assumption) hbz | exact Slot.keep (by assumption) hbz | exact Nat.lt_of_lt_of_le (by assumption) hbz.size)))
    (first | (go_at_call 78; refine (wOf _ _ (by omega) (by omega)).mono ?_; rintro e wc ⟨rfl, hbz⟩) | (go_at_call 82; refine (wCmp _ _ _ hx0 hx (by omega) (by omega)).mono ?_; rintro e wd ⟨rfl, hbz⟩))
  have HS2 := (by assumption : Below w.heap.size w wd ∧ _)
  obtain ⟨HB3, HZ3, HC3, HC4⟩ := HS2
  clear HB1 HZ1 HC1 HC2
  go_wp2_with fail
  rw [rounds_succ]
  go_wp2_with fail
  go_ret2; exact ⟨by rw [fit_in x (by have := HX.out; omega) (by have := HX.out; omega)]; rfl, by assumption⟩
set_option maxHeartbeats 1000000 in
theorem wFit_ql (x : Int) (w : World) (hx0 : -170141183460469231731687303715884105728 ≤ x) (hx : x < 170141183460469231731687303715884105728) (hx1 : x = -9223372036854775807) :
    Calls Tryz.prog 63 #[WV x] w fun e w' => e = .returned (.tuple #[.int .i64 x, .bool false]) ∧ Below w.heap.size w w' := by
  have i0 : ∀ w, (Instr.index 81 (.agg #[.int .i64 9223372036854775807, .int .i64 (-9223372036854775807)]) (.int .i64 0)).run Tryz.prog w = .ok (.int .i64 9223372036854775807) w := fun _ => by kernel_rfl
  have i1 : ∀ w, (Instr.index 81 (.agg #[.int .i64 9223372036854775807, .int .i64 (-9223372036854775807)]) (.int .i64 1)).run Tryz.prog w = .ok (.int .i64 (-9223372036854775807)) w := fun _ => by kernel_rfl
  have c1 : cmpI x 9223372036854775807 = -1 := by unfold cmpI; repeat (first | omega | split)
  have c2 : cmpI x (-9223372036854775807) = 0 := by unfold cmpI; repeat (first | omega | split)
  have HX := Lib.hid hx1; clear hx1
  go_enter Tryz.func63, Tryz.ntmps63
  go_wp2_with fail
  refine wp_loop_rounds 3 ?_; rw [rounds_succ]
  go_wp2_with fail
  go_region_held3 (fun w' => Below w.heap.size w w' ∧ w.heap.size < w'.heap.size ∧ w'.cell? ⟨w.heap.size, 0, none⟩ = some (.int .i64 (whi x)) ∧ w'.cell? ⟨w.heap.size, 1, none⟩ = some (.int .u64 (wlo x)))
    (first | exact ⟨((Below.one _ _)).drew, by simp, by simp [go_sem], by simp [go_sem]⟩ | (go_split_ands; refine ⟨?_, ?_, ?_, ?_⟩ <;> (first | exact Below.next (by assumption) hbz (by omega) | exact cell_keep (by assumption) hbz | exact Slot.keep (by assumption) hbz | exact Nat.lt_of_lt_of_le (by assumption) hbz.size)))
    (first | (go_at_call 78; refine (wOf _ _ (by omega) (by omega)).mono ?_; rintro e wa ⟨rfl, hbz⟩) | (go_at_call 82; refine (wCmp _ _ _ hx0 hx (by omega) (by omega)).mono ?_; rintro e wb ⟨rfl, hbz⟩))
  have HS1 := (by assumption : Below w.heap.size w wb ∧ _)
  obtain ⟨HB1, HZ1, HC1, HC2⟩ := HS1
  go_wp2_with fail
  rw [rounds_succ]
  go_wp2_with fail
  go_region_held3 (fun w' => Below w.heap.size w w' ∧ w.heap.size < w'.heap.size ∧ w'.cell? ⟨w.heap.size, 0, none⟩ = some (.int .i64 (whi x)) ∧ w'.cell? ⟨w.heap.size, 1, none⟩ = some (.int .u64 (wlo x)))
    (first | exact ⟨HB1.drew, HZ1, HC1, HC2⟩ | (go_split_ands; refine ⟨?_, ?_, ?_, ?_⟩ <;> (first | exact Below.next (by assumption) hbz (by omega) | exact cell_keep (by assumption) hbz | exact Slot.keep (by assumption) hbz | exact Nat.lt_of_lt_of_le (by assumption) hbz.size)))
    (first | (go_at_call 78; refine (wOf _ _ (by omega) (by omega)).mono ?_; rintro e wc ⟨rfl, hbz⟩) | (go_at_call 82; refine (wCmp _ _ _ hx0 hx (by omega) (by omega)).mono ?_; rintro e wd ⟨rfl, hbz⟩))
  have HS2 := (by assumption : Below w.heap.size w wd ∧ _)
  obtain ⟨HB3, HZ3, HC3, HC4⟩ := HS2
  clear HB1 HZ1 HC1 HC2
  go_wp2_with fail
  rw [rounds_succ]
  go_wp2_with fail
  go_ret2; exact ⟨by rw [fit_in x (by have := HX.out; omega) (by have := HX.out; omega)]; rfl, by assumption⟩
set_option maxHeartbeats 1000000 in
theorem wFit_lo (x : Int) (w : World) (hx0 : -170141183460469231731687303715884105728 ≤ x) (hx : x < 170141183460469231731687303715884105728) (hx1 : x < -9223372036854775807) :
    Calls Tryz.prog 63 #[WV x] w fun e w' => e = .returned (.tuple #[.int .i64 (-9223372036854775807), .bool true]) ∧ Below w.heap.size w w' := by
  have i0 : ∀ w, (Instr.index 81 (.agg #[.int .i64 9223372036854775807, .int .i64 (-9223372036854775807)]) (.int .i64 0)).run Tryz.prog w = .ok (.int .i64 9223372036854775807) w := fun _ => by kernel_rfl
  have i1 : ∀ w, (Instr.index 81 (.agg #[.int .i64 9223372036854775807, .int .i64 (-9223372036854775807)]) (.int .i64 1)).run Tryz.prog w = .ok (.int .i64 (-9223372036854775807)) w := fun _ => by kernel_rfl
  have c1 : cmpI x 9223372036854775807 = -1 := by unfold cmpI; repeat (first | omega | split)
  have c2 : cmpI x (-9223372036854775807) = -1 := by unfold cmpI; repeat (first | omega | split)
  have HX := Lib.hid hx1; clear hx1
  go_enter Tryz.func63, Tryz.ntmps63
  go_wp2_with fail
  refine wp_loop_rounds 3 ?_; rw [rounds_succ]
  go_wp2_with fail
  go_region_held3 (fun w' => Below w.heap.size w w' ∧ w.heap.size < w'.heap.size ∧ w'.cell? ⟨w.heap.size, 0, none⟩ = some (.int .i64 (whi x)) ∧ w'.cell? ⟨w.heap.size, 1, none⟩ = some (.int .u64 (wlo x)))
    (first | exact ⟨((Below.one _ _)).drew, by simp, by simp [go_sem], by simp [go_sem]⟩ | (go_split_ands; refine ⟨?_, ?_, ?_, ?_⟩ <;> (first | exact Below.next (by assumption) hbz (by omega) | exact cell_keep (by assumption) hbz | exact Slot.keep (by assumption) hbz | exact Nat.lt_of_lt_of_le (by assumption) hbz.size)))
    (first | (go_at_call 78; refine (wOf _ _ (by omega) (by omega)).mono ?_; rintro e wa ⟨rfl, hbz⟩) | (go_at_call 82; refine (wCmp _ _ _ hx0 hx (by omega) (by omega)).mono ?_; rintro e wb ⟨rfl, hbz⟩))
  have HS1 := (by assumption : Below w.heap.size w wb ∧ _)
  obtain ⟨HB1, HZ1, HC1, HC2⟩ := HS1
  go_wp2_with fail
  rw [rounds_succ]
  go_wp2_with fail
  go_region_held3 (fun w' => Below w.heap.size w w' ∧ w.heap.size < w'.heap.size ∧ w'.cell? ⟨w.heap.size, 0, none⟩ = some (.int .i64 (whi x)) ∧ w'.cell? ⟨w.heap.size, 1, none⟩ = some (.int .u64 (wlo x)))
    (first | exact ⟨HB1.drew, HZ1, HC1, HC2⟩ | (go_split_ands; refine ⟨?_, ?_, ?_, ?_⟩ <;> (first | exact Below.next (by assumption) hbz (by omega) | exact cell_keep (by assumption) hbz | exact Slot.keep (by assumption) hbz | exact Nat.lt_of_lt_of_le (by assumption) hbz.size)))
    (first | (go_at_call 78; refine (wOf _ _ (by omega) (by omega)).mono ?_; rintro e wc ⟨rfl, hbz⟩) | (go_at_call 82; refine (wCmp _ _ _ hx0 hx (by omega) (by omega)).mono ?_; rintro e wd ⟨rfl, hbz⟩))
  have HS2 := (by assumption : Below w.heap.size w wd ∧ _)
  obtain ⟨HB3, HZ3, HC3, HC4⟩ := HS2
  clear HB1 HZ1 HC1 HC2
  go_wp2_with fail
  go_ret2; exact ⟨rfl, by assumption⟩
def fitV (x : Int) : Int := if 9223372036854775807 < x then 9223372036854775807 else if x < -9223372036854775807 then -9223372036854775807 else x
def fitC (x : Int) : Bool := decide (9223372036854775807 < x ∨ x < -9223372036854775807)
theorem fit_way {x v : Int} {c : Bool} (h1 : fitV x = v) (h2 : fitC x = c) {w : World} {N : FuncId}
    (h : Calls Tryz.prog N #[WV x] w fun e w' => e = .returned (.tuple #[.int .i64 v, .bool c]) ∧ Below w.heap.size w w') :
    Calls Tryz.prog N #[WV x] w fun e w' => e = .returned (.tuple #[.int .i64 (fitV x), .bool (fitC x)]) ∧ Below w.heap.size w w' := by rw [h1, h2]; exact h
theorem wFit (x : Int) (w : World) (hx0 : -170141183460469231731687303715884105728 ≤ x) (hx : x < 170141183460469231731687303715884105728) :
    Calls Tryz.prog 63 #[WV x] w fun e w' => e = .returned (.tuple #[.int .i64 (fitV x), .bool (fitC x)]) ∧ Below w.heap.size w w' := by
  rcases Int.lt_trichotomy x 9223372036854775807 with h | h | h
  · rcases Int.lt_trichotomy x (-9223372036854775807) with g | g | g
    · exact fit_way (by unfold fitV; rw [if_neg (by omega), if_pos g]) (by unfold fitC; simp; omega) (wFit_lo x w hx0 hx g)
    · exact fit_way (by unfold fitV; rw [if_neg (by omega), if_neg (by omega)]) (by unfold fitC; simp; omega) (wFit_ql x w hx0 hx g)
    · exact fit_way (by unfold fitV; rw [if_neg (by omega), if_neg (by omega)]) (by unfold fitC; simp; omega) (wFit_in x w hx0 hx ⟨h, g⟩)
  · exact fit_way (by unfold fitV; rw [if_neg (by omega), if_neg (by omega)]) (by unfold fitC; simp; omega) (wFit_eq x w hx0 hx h)
  · exact fit_way (by unfold fitV; rw [if_pos h]) (by unfold fitC; simp; omega) (wFit_hi x w hx0 hx h)
end Go.Proofs.YtlhadociaekkhaaGreat
