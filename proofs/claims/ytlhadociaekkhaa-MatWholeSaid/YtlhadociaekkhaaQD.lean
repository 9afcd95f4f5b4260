/- The document's matrices: what is checked, columns, rows. -/
import Derived.Test.YtlhadociaekkhaaQMat8
import Derived.Test.YtlhadociaekkhaaQOver
import Derived.Test.YtlhadociaekkhaaQC
import Derived.Test.YtlhadociaekkhaaQRVec3
import Derived.Test.YtlhadociaekkhaaQPast2
import Derived.Deep.RegionHeld
set_option linter.unusedSimpArgs false
set_option linter.unusedVariables false
namespace Go.Proofs.Ytlhadociaekkhaa
set_option linter.unusedVariables false
set_option maxRecDepth 100000
open Go.RowKit Go.Shelf
set_option maxHeartbeats 2000000 in
theorem r7Check (R C : Int) (A : Option Addr) (n cap : Nat) (w : World) : Calls Try.prog 33 #[.agg #[.int .i64 R, .int .i64 C, .slice A n cap]] w fun e w' => e = .returned (.int .i64 (chk R C n)) ∧ Below w.heap.size w w' := by
  by_cases h1 : R < 1
  · have e0 : chk R C n = 3 := by unfold chk; rw [if_neg (fun h => by omega)]
    rw [e0]
    clear e0
    go_enter Try.func33, Try.ntmps33
    go_wp2_with fail
    go_ret
    exact ⟨rfl, by (repeat (first | assumption | exact Below.refl _ _ | with_reducible refine past_t _ ?_ | with_reducible refine below_a _ ?_ | with_reducible refine Below.drew ?_ | with_reducible refine below_d _ ?_ | (with_reducible refine Below.setCell ?_ (by (show _ ≤ _; repeat (first | exact Nat.le_refl _ | assumption | (omega; done) | with_reducible exact le_past (Nat.le_refl _) | with_reducible refine le_past ?_ | with_reducible refine le_al ?_ | with_reducible refine le_set ?_ | with_reducible refine le_p1 ?_))) _)))⟩
  by_cases h2 : 12 < R
  · have e0 : chk R C n = 3 := by unfold chk; rw [if_neg (fun h => by omega)]
    rw [e0]
    clear e0
    go_enter Try.func33, Try.ntmps33
    go_wp2_with fail
    go_ret
    exact ⟨rfl, by (repeat (first | assumption | exact Below.refl _ _ | with_reducible refine past_t _ ?_ | with_reducible refine below_a _ ?_ | with_reducible refine Below.drew ?_ | with_reducible refine below_d _ ?_ | (with_reducible refine Below.setCell ?_ (by (show _ ≤ _; repeat (first | exact Nat.le_refl _ | assumption | (omega; done) | with_reducible exact le_past (Nat.le_refl _) | with_reducible refine le_past ?_ | with_reducible refine le_al ?_ | with_reducible refine le_set ?_ | with_reducible refine le_p1 ?_))) _)))⟩
  by_cases h3 : C < 1
  · have e0 : chk R C n = 3 := by unfold chk; rw [if_neg (fun h => by omega)]
    rw [e0]
    clear e0
    go_enter Try.func33, Try.ntmps33
    go_wp2_with fail
    go_ret
    exact ⟨rfl, by (repeat (first | assumption | exact Below.refl _ _ | with_reducible refine past_t _ ?_ | with_reducible refine below_a _ ?_ | with_reducible refine Below.drew ?_ | with_reducible refine below_d _ ?_ | (with_reducible refine Below.setCell ?_ (by (show _ ≤ _; repeat (first | exact Nat.le_refl _ | assumption | (omega; done) | with_reducible exact le_past (Nat.le_refl _) | with_reducible refine le_past ?_ | with_reducible refine le_al ?_ | with_reducible refine le_set ?_ | with_reducible refine le_p1 ?_))) _)))⟩
  by_cases h4 : 12 < C
  · have e0 : chk R C n = 3 := by unfold chk; rw [if_neg (fun h => by omega)]
    rw [e0]
    clear e0
    go_enter Try.func33, Try.ntmps33
    go_wp2_with fail
    go_ret
    exact ⟨rfl, by (repeat (first | assumption | exact Below.refl _ _ | with_reducible refine past_t _ ?_ | with_reducible refine below_a _ ?_ | with_reducible refine Below.drew ?_ | with_reducible refine below_d _ ?_ | (with_reducible refine Below.setCell ?_ (by (show _ ≤ _; repeat (first | exact Nat.le_refl _ | assumption | (omega; done) | with_reducible exact le_past (Nat.le_refl _) | with_reducible refine le_past ?_ | with_reducible refine le_al ?_ | with_reducible refine le_set ?_ | with_reducible refine le_p1 ?_))) _)))⟩
  have hbd : -9223372036854775808 ≤ R * C ∧ R * C ≤ 9223372036854775807 := by
    have := Int.mul_le_mul (show R ≤ 12 by omega) (show C ≤ 12 by omega) (by omega) (by omega)
    have := Int.mul_nonneg (show 0 ≤ R by omega) (show 0 ≤ C by omega)
    omega
  have hw : wrap64 (R * C) = R * C := IntWalk.wrap64_in (R * C) hbd
  by_cases h5 : (n : Int) = R * C
  · have e0 : chk R C n = 0 := by unfold chk; rw [if_pos ⟨⟨by omega, by omega⟩, ⟨by omega, by omega⟩, h5⟩]
    have h6 : ((n : Int) != wrap64 (R * C)) = false := by rw [hw]; simpa using h5
    rw [e0]
    clear e0 h5 hbd hw
    go_enter Try.func33, Try.ntmps33
    go_wp2_with fail
    go_ret
    exact ⟨rfl, by (repeat (first | assumption | exact Below.refl _ _ | with_reducible refine past_t _ ?_ | with_reducible refine below_a _ ?_ | with_reducible refine Below.drew ?_ | with_reducible refine below_d _ ?_ | (with_reducible refine Below.setCell ?_ (by (show _ ≤ _; repeat (first | exact Nat.le_refl _ | assumption | (omega; done) | with_reducible exact le_past (Nat.le_refl _) | with_reducible refine le_past ?_ | with_reducible refine le_al ?_ | with_reducible refine le_set ?_ | with_reducible refine le_p1 ?_))) _)))⟩
  · have e0 : chk R C n = 3 := by unfold chk; rw [if_neg (fun h => h5 h.2.2)]
    have h6 : ((n : Int) != wrap64 (R * C)) = true := by rw [hw]; simpa using h5
    rw [e0]
    clear e0 h5 hbd hw
    go_enter Try.func33, Try.ntmps33
    go_wp2_with fail
    go_ret
    exact ⟨rfl, by (repeat (first | assumption | exact Below.refl _ _ | with_reducible refine past_t _ ?_ | with_reducible refine below_a _ ?_ | with_reducible refine Below.drew ?_ | with_reducible refine below_d _ ?_ | (with_reducible refine Below.setCell ?_ (by (show _ ≤ _; repeat (first | exact Nat.le_refl _ | assumption | (omega; done) | with_reducible exact le_past (Nat.le_refl _) | with_reducible refine le_past ?_ | with_reducible refine le_al ?_ | with_reducible refine le_set ?_ | with_reducible refine le_p1 ?_))) _)))⟩
end Go.Proofs.Ytlhadociaekkhaa
/- The document's matrices: columns, rows. -/
namespace Go.Proofs.Ytlhadociaekkhaa
set_option linter.unusedVariables false
set_option maxRecDepth 100000
open Go.RowKit Go.Shelf
/-- A column. -/
def colL (R C k : Nat) (zs : List Int) : List Int := (List.range R).map fun r => zs.getD (r * C + k) 0
theorem colL_len (R C k : Nat) (zs : List Int) : (colL R C k zs).length = R := by simp [colL]
set_option maxHeartbeats 2000000 in
theorem r7column {R C k c : Nat} {A : Option Addr} {zs : List Int} {w : World} (hv : RS .i64 w A zs.length c zs) (hR : 1 ≤ R ∧ R ≤ 12) (hC : 1 ≤ C ∧ C ≤ 12) (hz : zs.length = R * C) (hk : k < C) :
    Calls Try.prog 49 #[.agg #[.int .i64 R, .int .i64 C, .slice A zs.length c], .int .i64 k] w fun e w' => ∃ A' c', e = .returned (.slice A' R c') ∧ OwnI w w' (.slice A' R c') (colL R C k zs) ∧ Below w.heap.size w w' := by
  have hN : R * C ≤ 144 := Nat.mul_le_mul hR.2 hC.2
  have hRC : 1 ≤ R * C := Nat.mul_le_mul hR.1 hC.1
  obtain ⟨b, o, rfl, hbw, hrow⟩ := hv.at_ (Nat.lt_of_lt_of_le Nat.zero_lt_one (Nat.le_trans hRC (Nat.le_of_eq hz.symm)))
  have hcap := hv.cap
  have htop := hv.top
  have HW := Lib.hid hrow
  have HZ := Lib.hid hz
  have hlen : zs.length ≤ 144 := Nat.le_trans (Nat.le_of_eq hz) hN
  clear hv hrow hz hRC hN
  go_enter Try.func49, Try.ntmps49
  go_wp2_with fail
  go_loopg [5, 6] R (fun g s5 s6 wr => ∃ (j : Nat) (A' : Option Addr) (cp : Nat), j ≤ R ∧ R ≤ g + j ∧ s6 = .int .i64 j ∧ s5 = .slice A' j cp ∧ OwnI (w.alloc (.cells #[.int .i64 R, .int .i64 C, .slice (some ⟨b, o, none⟩) zs.length c] 24)) wr (.slice A' j cp) (colL j C k zs) ∧ ∃ z, wr = past (w.alloc (.cells #[.int .i64 R, .int .i64 C, .slice (some ⟨b, o, none⟩) zs.length c] 24)) z)
  case atStart => exact ⟨0, none, 0, by omega, by omega, rfl, rfl, OwnK.nil _ _ _ _, ex_past (by (repeat (first | assumption | exact Below.refl _ _ | with_reducible refine past_t _ ?_ | with_reducible refine below_a _ ?_ | with_reducible refine Below.drew ?_ | with_reducible refine below_d _ ?_ | (with_reducible refine Below.setCell ?_ (by (show _ ≤ _; repeat (first | exact Nat.le_refl _ | assumption | (omega; done) | with_reducible exact le_past (Nat.le_refl _) | with_reducible refine le_past ?_ | with_reducible refine le_al ?_ | with_reducible refine le_set ?_ | with_reducible refine le_p1 ?_))) _))))⟩
  case round =>
    obtain ⟨j, A', cp, hj, hg, rfl, rfl, hown, z, rfl⟩ := hrel
    by_cases hlt : j < R
    · have hle : j * C + k < zs.length := by
        have : (j + 1) * C ≤ R * C := Nat.mul_le_mul_right _ hlt
        rw [Nat.succ_mul] at this
        rw [HZ.out]
        exact Nat.lt_of_lt_of_le (Nat.add_lt_add_left hk _) this
      have hx := HW.out _ hle
      have hnx : colL (j + 1) C k zs = colL j C k zs ++ [zs.getD (j * C + k) 0] := by unfold colL; rw [List.range_succ, List.map_append]; rfl
      have hl0 := colL_len j C k zs
      have e1 : ((j * C : Nat) : Int) = (j : Int) * (C : Int) := by simp
      have hw : wrap64 ((j : Int) * (C : Int)) = ((j * C : Nat) : Int) := by
        rw [← e1]
        generalize j * C = q at *
        exact IntWalk.wrap64_in _ ⟨by omega, by omega⟩
      generalize zs.getD (j * C + k) 0 = x at *
      generalize j * C = p at *
      have HX := Lib.hid hnx
      have HO := Lib.hid hown
      clear hnx hown e1
      have hwv : Value.int .i64 (wrap64 ((j : Int) * (C : Int))) = Value.int .i64 (p : Int) := by rw [hw]
      clear hw
      go_wp2_with (first | (at_builtin; refine append_i (by rfl) _ _ (by rfl) (w.alloc (.cells #[.int .i64 R, .int .i64 C, .slice (some ⟨b, o, none⟩) zs.length c] 24)) (by rfl) (by rfl) ?_ (HO.out.keep ?_) (RS.lit .i64 _ [x] _ _ ?_ 1 ?_ ?_ 1 ?_ _ ?_) ?_ ?_; (focus ((first | ((repeat (first | assumption | exact Below.refl _ _ | with_reducible refine past_t _ ?_ | with_reducible refine below_a _ ?_ | with_reducible refine Below.drew ?_ | with_reducible refine below_d _ ?_ | (with_reducible refine Below.setCell ?_ (by (show _ ≤ _; repeat (first | exact Nat.le_refl _ | assumption | (omega; done) | with_reducible exact le_past (Nat.le_refl _) | with_reducible refine le_past ?_ | with_reducible refine le_al ?_ | with_reducible refine le_set ?_ | with_reducible refine le_p1 ?_))) _))); done) | (with_reducible rfl; done) | omega | (rfl; done) | (simp; done) | (simp [go_sem]; done) | (simp; omega) | (simp [go_sem]; omega)); done)); (focus ((first | ((repeat (first | assumption | exact Below.refl _ _ | with_reducible refine past_t _ ?_ | with_reducible refine below_a _ ?_ | with_reducible refine Below.drew ?_ | with_reducible refine below_d _ ?_ | (with_reducible refine Below.setCell ?_ (by (show _ ≤ _; repeat (first | exact Nat.le_refl _ | assumption | (omega; done) | with_reducible exact le_past (Nat.le_refl _) | with_reducible refine le_past ?_ | with_reducible refine le_al ?_ | with_reducible refine le_set ?_ | with_reducible refine le_p1 ?_))) _))); done) | (with_reducible rfl; done) | omega | (rfl; done) | (simp; done) | (simp [go_sem]; done) | (simp; omega) | (simp [go_sem]; omega)); done)); (focus ((first | ((repeat (first | assumption | exact Below.refl _ _ | with_reducible refine past_t _ ?_ | with_reducible refine below_a _ ?_ | with_reducible refine Below.drew ?_ | with_reducible refine below_d _ ?_ | (with_reducible refine Below.setCell ?_ (by (show _ ≤ _; repeat (first | exact Nat.le_refl _ | assumption | (omega; done) | with_reducible exact le_past (Nat.le_refl _) | with_reducible refine le_past ?_ | with_reducible refine le_al ?_ | with_reducible refine le_set ?_ | with_reducible refine le_p1 ?_))) _))); done) | (with_reducible rfl; done) | omega | (rfl; done) | (simp; done) | (simp [go_sem]; done) | (simp; omega) | (simp [go_sem]; omega)); done)); (focus ((first | ((repeat (first | assumption | exact Below.refl _ _ | with_reducible refine past_t _ ?_ | with_reducible refine below_a _ ?_ | with_reducible refine Below.drew ?_ | with_reducible refine below_d _ ?_ | (with_reducible refine Below.setCell ?_ (by (show _ ≤ _; repeat (first | exact Nat.le_refl _ | assumption | (omega; done) | with_reducible exact le_past (Nat.le_refl _) | with_reducible refine le_past ?_ | with_reducible refine le_al ?_ | with_reducible refine le_set ?_ | with_reducible refine le_p1 ?_))) _))); done) | (with_reducible rfl; done) | omega | (rfl; done) | (simp; done) | (simp [go_sem]; done) | (simp; omega) | (simp [go_sem]; omega)); done)); (focus ((first | ((repeat (first | assumption | exact Below.refl _ _ | with_reducible refine past_t _ ?_ | with_reducible refine below_a _ ?_ | with_reducible refine Below.drew ?_ | with_reducible refine below_d _ ?_ | (with_reducible refine Below.setCell ?_ (by (show _ ≤ _; repeat (first | exact Nat.le_refl _ | assumption | (omega; done) | with_reducible exact le_past (Nat.le_refl _) | with_reducible refine le_past ?_ | with_reducible refine le_al ?_ | with_reducible refine le_set ?_ | with_reducible refine le_p1 ?_))) _))); done) | (with_reducible rfl; done) | omega | (rfl; done) | (simp; done) | (simp [go_sem]; done) | (simp; omega) | (simp [go_sem]; omega)); done)); (focus ((first | ((repeat (first | assumption | exact Below.refl _ _ | with_reducible refine past_t _ ?_ | with_reducible refine below_a _ ?_ | with_reducible refine Below.drew ?_ | with_reducible refine below_d _ ?_ | (with_reducible refine Below.setCell ?_ (by (show _ ≤ _; repeat (first | exact Nat.le_refl _ | assumption | (omega; done) | with_reducible exact le_past (Nat.le_refl _) | with_reducible refine le_past ?_ | with_reducible refine le_al ?_ | with_reducible refine le_set ?_ | with_reducible refine le_p1 ?_))) _))); done) | (with_reducible rfl; done) | omega | (rfl; done) | (simp; done) | (simp [go_sem]; done) | (simp; omega) | (simp [go_sem]; omega)); done)); (focus ((first | ((repeat (first | assumption | exact Below.refl _ _ | with_reducible refine past_t _ ?_ | with_reducible refine below_a _ ?_ | with_reducible refine Below.drew ?_ | with_reducible refine below_d _ ?_ | (with_reducible refine Below.setCell ?_ (by (show _ ≤ _; repeat (first | exact Nat.le_refl _ | assumption | (omega; done) | with_reducible exact le_past (Nat.le_refl _) | with_reducible refine le_past ?_ | with_reducible refine le_al ?_ | with_reducible refine le_set ?_ | with_reducible refine le_p1 ?_))) _))); done) | (with_reducible rfl; done) | omega | (rfl; done) | (simp; done) | (simp [go_sem]; done) | (simp; omega) | (simp [go_sem]; omega)); done)); (focus ((first | ((repeat (first | assumption | exact Below.refl _ _ | with_reducible refine past_t _ ?_ | with_reducible refine below_a _ ?_ | with_reducible refine Below.drew ?_ | with_reducible refine below_d _ ?_ | (with_reducible refine Below.setCell ?_ (by (show _ ≤ _; repeat (first | exact Nat.le_refl _ | assumption | (omega; done) | with_reducible exact le_past (Nat.le_refl _) | with_reducible refine le_past ?_ | with_reducible refine le_al ?_ | with_reducible refine le_set ?_ | with_reducible refine le_p1 ?_))) _))); done) | (with_reducible rfl; done) | omega | (rfl; done) | (simp; done) | (simp [go_sem]; done) | (simp; omega) | (simp [go_sem]; omega)); done)); intro A3 c3 z3 ho3; (try simp only [hl0, List.length_cons, List.length_nil, Nat.zero_add] at ho3 ⊢)))
      go_roundg (R - (j + 1))
      case measure => omega
      case rel => exact ⟨j + 1, A3, c3, by omega, by omega, by go_num, by simp, by rw [HX.out]; exact ho3, ex_past (by (repeat (first | assumption | exact Below.refl _ _ | with_reducible refine past_t _ ?_ | with_reducible refine below_a _ ?_ | with_reducible refine Below.drew ?_ | with_reducible refine below_d _ ?_ | (with_reducible refine Below.setCell ?_ (by (show _ ≤ _; repeat (first | exact Nat.le_refl _ | assumption | (omega; done) | with_reducible exact le_past (Nat.le_refl _) | with_reducible refine le_past ?_ | with_reducible refine le_al ?_ | with_reducible refine le_set ?_ | with_reducible refine le_p1 ?_))) _))))⟩
    · obtain rfl : j = R := by omega
      have HO := Lib.hid hown
      go_wp2_with fail
      go_ret
      exact ⟨_, _, rfl, HO.out.base (U := w) (by simp only [World.size_alloc]; omega), by (repeat (first | assumption | exact Below.refl _ _ | with_reducible refine past_t _ ?_ | with_reducible refine below_a _ ?_ | with_reducible refine Below.drew ?_ | with_reducible refine below_d _ ?_ | (with_reducible refine Below.setCell ?_ (by (show _ ≤ _; repeat (first | exact Nat.le_refl _ | assumption | (omega; done) | with_reducible exact le_past (Nat.le_refl _) | with_reducible refine le_past ?_ | with_reducible refine le_al ?_ | with_reducible refine le_set ?_ | with_reducible refine le_p1 ?_))) _)))⟩
end Go.Proofs.Ytlhadociaekkhaa
/- The document's matrices: who are alike; rows. -/
namespace Go.Proofs.Ytlhadociaekkhaa
set_option linter.unusedVariables false
set_option maxRecDepth 100000
open Go.RowKit Go.Shelf
set_option maxHeartbeats 2000000 in
theorem r7alikeY {R C : Int} {A1 A2 : Option Addr} {n1 c1 n2 c2 : Nat} {w : World} (h1 : chk R C n1 = 0) (h2 : chk R C n2 = 0) :
    Calls Try.prog 56 #[.agg #[.int .i64 R, .int .i64 C, .slice A1 n1 c1], .agg #[.int .i64 R, .int .i64 C, .slice A2 n2 c2]] w fun e w' => e = .returned (.bool true) ∧ Below w.heap.size w w' := by
  have k1 := fun W => r7Check R C A1 n1 c1 W
  have k2 := fun W => r7Check R C A2 n2 c2 W
  rw [h1] at k1
  rw [h2] at k2
  clear h1 h2
  go_enter Try.func56, Try.ntmps56
  go_wp2_with (first | (go_at_call 33; first | (with_reducible refine Calls_past2 (k1 _) (fun z => ?_)) | (with_reducible refine Calls_past (k1 _) (fun z => ?_))) | (go_at_call 33; first | (with_reducible refine Calls_past2 (k2 _) (fun z => ?_)) | (with_reducible refine Calls_past (k2 _) (fun z => ?_))))
  go_ret
  exact ⟨rfl, by (repeat (first | assumption | exact Below.refl _ _ | with_reducible refine past_t _ ?_ | with_reducible refine below_a _ ?_ | with_reducible refine Below.drew ?_ | with_reducible refine below_d _ ?_ | (with_reducible refine Below.setCell ?_ (by (show _ ≤ _; repeat (first | exact Nat.le_refl _ | assumption | (omega; done) | with_reducible exact le_past (Nat.le_refl _) | with_reducible refine le_past ?_ | with_reducible refine le_al ?_ | with_reducible refine le_set ?_ | with_reducible refine le_p1 ?_))) _)))⟩
set_option maxHeartbeats 2000000 in
theorem r7alikeN {R1 C1 R2 C2 : Int} {A1 A2 : Option Addr} {n1 c1 n2 c2 : Nat} {w : World} (hno : ¬(R1 = R2 ∧ C1 = C2 ∧ chk R1 C1 n1 = 0 ∧ chk R2 C2 n2 = 0)) :
    Calls Try.prog 56 #[.agg #[.int .i64 R1, .int .i64 C1, .slice A1 n1 c1], .agg #[.int .i64 R2, .int .i64 C2, .slice A2 n2 c2]] w fun e w' => e = .returned (.bool false) ∧ Below w.heap.size w w' := by
  have k1 := fun W => r7Check R1 C1 A1 n1 c1 W
  have k2 := fun W => r7Check R2 C2 A2 n2 c2 W
  rcases chk_or R1 C1 n1 with h1 | h1
  · rcases chk_or R2 C2 n2 with h2 | h2
    · rw [h1] at k1
      rw [h2] at k2
      by_cases h3 : R1 = R2
      · have h4 : ¬ C1 = C2 := fun x => hno ⟨h3, x, h1, h2⟩
        subst h3
        have e4 : (C1 == C2) = false := by simpa using h4
        clear hno h1 h2
        go_enter Try.func56, Try.ntmps56
        go_wp2_with (first | (go_at_call 33; first | (with_reducible refine Calls_past2 (k1 _) (fun z => ?_)) | (with_reducible refine Calls_past (k1 _) (fun z => ?_))) | (go_at_call 33; first | (with_reducible refine Calls_past2 (k2 _) (fun z => ?_)) | (with_reducible refine Calls_past (k2 _) (fun z => ?_))))
        go_ret
        exact ⟨rfl, by (repeat (first | assumption | exact Below.refl _ _ | with_reducible refine past_t _ ?_ | with_reducible refine below_a _ ?_ | with_reducible refine Below.drew ?_ | with_reducible refine below_d _ ?_ | (with_reducible refine Below.setCell ?_ (by (show _ ≤ _; repeat (first | exact Nat.le_refl _ | assumption | (omega; done) | with_reducible exact le_past (Nat.le_refl _) | with_reducible refine le_past ?_ | with_reducible refine le_al ?_ | with_reducible refine le_set ?_ | with_reducible refine le_p1 ?_))) _)))⟩
      · have e3 : (R1 == R2) = false := by simpa using h3
        clear hno h1 h2
        go_enter Try.func56, Try.ntmps56
        go_wp2_with (first | (go_at_call 33; first | (with_reducible refine Calls_past2 (k1 _) (fun z => ?_)) | (with_reducible refine Calls_past (k1 _) (fun z => ?_))) | (go_at_call 33; first | (with_reducible refine Calls_past2 (k2 _) (fun z => ?_)) | (with_reducible refine Calls_past (k2 _) (fun z => ?_))))
        go_ret
        exact ⟨rfl, by (repeat (first | assumption | exact Below.refl _ _ | with_reducible refine past_t _ ?_ | with_reducible refine below_a _ ?_ | with_reducible refine Below.drew ?_ | with_reducible refine below_d _ ?_ | (with_reducible refine Below.setCell ?_ (by (show _ ≤ _; repeat (first | exact Nat.le_refl _ | assumption | (omega; done) | with_reducible exact le_past (Nat.le_refl _) | with_reducible refine le_past ?_ | with_reducible refine le_al ?_ | with_reducible refine le_set ?_ | with_reducible refine le_p1 ?_))) _)))⟩
    · rw [h1] at k1
      rw [h2] at k2
      clear hno h1 h2
      go_enter Try.func56, Try.ntmps56
      go_wp2_with (first | (go_at_call 33; first | (with_reducible refine Calls_past2 (k1 _) (fun z => ?_)) | (with_reducible refine Calls_past (k1 _) (fun z => ?_))) | (go_at_call 33; first | (with_reducible refine Calls_past2 (k2 _) (fun z => ?_)) | (with_reducible refine Calls_past (k2 _) (fun z => ?_))))
      go_ret
      exact ⟨rfl, by (repeat (first | assumption | exact Below.refl _ _ | with_reducible refine past_t _ ?_ | with_reducible refine below_a _ ?_ | with_reducible refine Below.drew ?_ | with_reducible refine below_d _ ?_ | (with_reducible refine Below.setCell ?_ (by (show _ ≤ _; repeat (first | exact Nat.le_refl _ | assumption | (omega; done) | with_reducible exact le_past (Nat.le_refl _) | with_reducible refine le_past ?_ | with_reducible refine le_al ?_ | with_reducible refine le_set ?_ | with_reducible refine le_p1 ?_))) _)))⟩
  · rw [h1] at k1
    clear hno h1 k2
    go_enter Try.func56, Try.ntmps56
    go_wp2_with (first | (go_at_call 33; first | (with_reducible refine Calls_past2 (k1 _) (fun z => ?_)) | (with_reducible refine Calls_past (k1 _) (fun z => ?_))))
    go_ret
    exact ⟨rfl, by (repeat (first | assumption | exact Below.refl _ _ | with_reducible refine past_t _ ?_ | with_reducible refine below_a _ ?_ | with_reducible refine Below.drew ?_ | with_reducible refine below_d _ ?_ | (with_reducible refine Below.setCell ?_ (by (show _ ≤ _; repeat (first | exact Nat.le_refl _ | assumption | (omega; done) | with_reducible exact le_past (Nat.le_refl _) | with_reducible refine le_past ?_ | with_reducible refine le_al ?_ | with_reducible refine le_set ?_ | with_reducible refine le_p1 ?_))) _)))⟩
set_option maxHeartbeats 2000000 in
theorem r7RowNo {R C : Int} {A : Option Addr} {n c : Nat} {i : Int} {w : World} (h : ¬(chk R C n = 0 ∧ 0 ≤ i ∧ i < R)) : Calls Try.prog 32 #[.agg #[.int .i64 R, .int .i64 C, .slice A n c], .int .i64 i] w fun e w' => e = .returned (.tuple #[.slice none 0 0, .int .i64 3]) ∧ Below w.heap.size w w' := by
  have hs := fun W => r7Check R C A n c W
  by_cases hc0 : chk R C n = 0
  · rw [hc0] at hs
    by_cases hi : i < 0
    · clear h
      go_enter Try.func32, Try.ntmps32
      go_wp2_with ((go_at_call 33; first | (with_reducible refine Calls_past2 (hs _) (fun z => ?_)) | (with_reducible refine Calls_past (hs _) (fun z => ?_))))
      go_ret2
      exact ⟨rfl, by (repeat (first | assumption | exact Below.refl _ _ | with_reducible refine past_t _ ?_ | with_reducible refine below_a _ ?_ | with_reducible refine Below.drew ?_ | with_reducible refine below_d _ ?_ | (with_reducible refine Below.setCell ?_ (by (show _ ≤ _; repeat (first | exact Nat.le_refl _ | assumption | (omega; done) | with_reducible exact le_past (Nat.le_refl _) | with_reducible refine le_past ?_ | with_reducible refine le_al ?_ | with_reducible refine le_set ?_ | with_reducible refine le_p1 ?_))) _)))⟩
    · have hi2 : R ≤ i := by omega
      clear h
      go_enter Try.func32, Try.ntmps32
      go_wp2_with ((go_at_call 33; first | (with_reducible refine Calls_past2 (hs _) (fun z => ?_)) | (with_reducible refine Calls_past (hs _) (fun z => ?_))))
      go_ret2
      exact ⟨rfl, by (repeat (first | assumption | exact Below.refl _ _ | with_reducible refine past_t _ ?_ | with_reducible refine below_a _ ?_ | with_reducible refine Below.drew ?_ | with_reducible refine below_d _ ?_ | (with_reducible refine Below.setCell ?_ (by (show _ ≤ _; repeat (first | exact Nat.le_refl _ | assumption | (omega; done) | with_reducible exact le_past (Nat.le_refl _) | with_reducible refine le_past ?_ | with_reducible refine le_al ?_ | with_reducible refine le_set ?_ | with_reducible refine le_p1 ?_))) _)))⟩
  · have h3 : chk R C n = 3 := by rcases chk_or R C n with h | h; exact absurd h hc0; exact h
    rw [h3] at hs
    go_enter Try.func32, Try.ntmps32
    go_wp2_with ((go_at_call 33; first | (with_reducible refine Calls_past2 (hs _) (fun z => ?_)) | (with_reducible refine Calls_past (hs _) (fun z => ?_))))
    go_ret2
    exact ⟨rfl, by (repeat (first | assumption | exact Below.refl _ _ | with_reducible refine past_t _ ?_ | with_reducible refine below_a _ ?_ | with_reducible refine Below.drew ?_ | with_reducible refine below_d _ ?_ | (with_reducible refine Below.setCell ?_ (by (show _ ≤ _; repeat (first | exact Nat.le_refl _ | assumption | (omega; done) | with_reducible exact le_past (Nat.le_refl _) | with_reducible refine le_past ?_ | with_reducible refine le_al ?_ | with_reducible refine le_set ?_ | with_reducible refine le_p1 ?_))) _)))⟩
set_option maxHeartbeats 2000000 in
theorem r7Row {R C i c : Nat} {A : Option Addr} {zs : List Int} {w : World} (hv : RS .i64 w A zs.length c zs) (hR : 1 ≤ R ∧ R ≤ 12) (hC : 1 ≤ C ∧ C ≤ 12) (hz : zs.length = R * C) (hi : i < R) : Calls Try.prog 32 #[.agg #[.int .i64 R, .int .i64 C, .slice A zs.length c], .int .i64 i] w fun e w' =>
    ∃ A' c', e = .returned (.tuple #[.slice A' C c', .int .i64 0]) ∧ OwnI w w' (.slice A' C c') (rowL zs C i) ∧ Below w.heap.size w w' := by
  have hck : chk R C zs.length = 0 := by unfold chk; rw [if_pos ⟨by omega, by omega, by rw [hz]; simp⟩]
  have hs := fun W => r7Check R C A zs.length c W
  rw [hck] at hs
  obtain ⟨hll, hle⟩ := rowL_len hz hi
  have hN : R * C ≤ 144 := Nat.mul_le_mul hR.2 hC.2
  have hlen : zs.length ≤ 144 := Nat.le_trans (Nat.le_of_eq hz) hN
  have hnz : ¬ zs.length = 0 := Nat.ne_of_gt (Nat.lt_of_lt_of_le hC.1 (Nat.le_trans (Nat.le_add_left C (i * C)) hle))
  obtain ⟨b, o, rfl, _, _⟩ := hv.at_ (Nat.pos_of_ne_zero hnz)
  have hrs := hv.cut (i * C) (i * C + C) (Nat.le_add_right _ _) hle
  have hcp := hv.cap
  have HR := Lib.hid hrs
  have b1 : i * C + C ≤ 144 := Nat.le_trans hle hlen
  have wv : Value.int .i64 (wrap64 ((i : Int) * (C : Int))) = Value.int .i64 ((i * C : Nat) : Int) := by rw [wrap_mul i C (Nat.le_trans (Nat.le_add_right _ C) (Nat.le_trans b1 (by decide)))]
  have hiR : ¬ (R : Int) ≤ (i : Int) := by omega
  unfold rowL at hll ⊢
  generalize i * C = p at *
  clear hrs hv hck hz hN
  go_enter Try.func32, Try.ntmps32
  go_wp2_with (first | (go_at_call 33; first | (with_reducible refine Calls_past2 (hs _) (fun z => ?_)) | (with_reducible refine Calls_past (hs _) (fun z => ?_))) | (at_builtin; refine append_i (by rfl) _ _ (by rfl) w (by rfl) (by rfl) ?_ ((ownI_empty _ _ ?_).base (U := w) ?_) (HR.out.keep ?_) ?_ ?_; (focus ((first | ((repeat (first | assumption | exact Below.refl _ _ | with_reducible refine past_t _ ?_ | with_reducible refine below_a _ ?_ | with_reducible refine Below.drew ?_ | with_reducible refine below_d _ ?_ | (with_reducible refine Below.setCell ?_ (by (show _ ≤ _; repeat (first | exact Nat.le_refl _ | assumption | (omega; done) | with_reducible exact le_past (Nat.le_refl _) | with_reducible refine le_past ?_ | with_reducible refine le_al ?_ | with_reducible refine le_set ?_ | with_reducible refine le_p1 ?_))) _))); done) | (with_reducible rfl; done) | omega | (rfl; done) | (simp; done) | (simp [go_sem]; done) | (simp; omega) | (simp [go_sem]; omega)); done)); (focus ((first | ((repeat (first | assumption | exact Below.refl _ _ | with_reducible refine past_t _ ?_ | with_reducible refine below_a _ ?_ | with_reducible refine Below.drew ?_ | with_reducible refine below_d _ ?_ | (with_reducible refine Below.setCell ?_ (by (show _ ≤ _; repeat (first | exact Nat.le_refl _ | assumption | (omega; done) | with_reducible exact le_past (Nat.le_refl _) | with_reducible refine le_past ?_ | with_reducible refine le_al ?_ | with_reducible refine le_set ?_ | with_reducible refine le_p1 ?_))) _))); done) | (with_reducible rfl; done) | omega | (rfl; done) | (simp; done) | (simp [go_sem]; done) | (simp; omega) | (simp [go_sem]; omega)); done)); (focus ((first | ((repeat (first | assumption | exact Below.refl _ _ | with_reducible refine past_t _ ?_ | with_reducible refine below_a _ ?_ | with_reducible refine Below.drew ?_ | with_reducible refine below_d _ ?_ | (with_reducible refine Below.setCell ?_ (by (show _ ≤ _; repeat (first | exact Nat.le_refl _ | assumption | (omega; done) | with_reducible exact le_past (Nat.le_refl _) | with_reducible refine le_past ?_ | with_reducible refine le_al ?_ | with_reducible refine le_set ?_ | with_reducible refine le_p1 ?_))) _))); done) | (with_reducible rfl; done) | omega | (rfl; done) | (simp; done) | (simp [go_sem]; done) | (simp; omega) | (simp [go_sem]; omega)); done)); (focus ((first | ((repeat (first | assumption | exact Below.refl _ _ | with_reducible refine past_t _ ?_ | with_reducible refine below_a _ ?_ | with_reducible refine Below.drew ?_ | with_reducible refine below_d _ ?_ | (with_reducible refine Below.setCell ?_ (by (show _ ≤ _; repeat (first | exact Nat.le_refl _ | assumption | (omega; done) | with_reducible exact le_past (Nat.le_refl _) | with_reducible refine le_past ?_ | with_reducible refine le_al ?_ | with_reducible refine le_set ?_ | with_reducible refine le_p1 ?_))) _))); done) | (with_reducible rfl; done) | omega | (rfl; done) | (simp; done) | (simp [go_sem]; done) | (simp; omega) | (simp [go_sem]; omega)); done)); (focus ((first | ((repeat (first | assumption | exact Below.refl _ _ | with_reducible refine past_t _ ?_ | with_reducible refine below_a _ ?_ | with_reducible refine Below.drew ?_ | with_reducible refine below_d _ ?_ | (with_reducible refine Below.setCell ?_ (by (show _ ≤ _; repeat (first | exact Nat.le_refl _ | assumption | (omega; done) | with_reducible exact le_past (Nat.le_refl _) | with_reducible refine le_past ?_ | with_reducible refine le_al ?_ | with_reducible refine le_set ?_ | with_reducible refine le_p1 ?_))) _))); done) | (with_reducible rfl; done) | omega | (rfl; done) | (simp; done) | (simp [go_sem]; done) | (simp; omega) | (simp [go_sem]; omega)); done)); intro A1 c1 z1 ho1; (try simp only [List.nil_append, List.length_nil, Nat.zero_add, Nat.add_sub_cancel_left] at ho1 ⊢)))
  all_goals go_ret2
  all_goals (rw [hll] at ho1; exact ⟨A1, c1, rfl, ho1, past_below _ _⟩)
set_option maxHeartbeats 2000000 in
theorem r7TurnNo {R C : Int} {A : Option Addr} {n c : Nat} {w : World} (h : chk R C n = 3) : Calls Try.prog 30 #[.agg #[.int .i64 R, .int .i64 C, .slice A n c]] w fun e w' => e = .returned (.tuple #[M0, .int .i64 3]) ∧ Below w.heap.size w w' := by
  have hs := fun W => r7Check R C A n c W
  rw [h] at hs
  go_enter Try.func30, Try.ntmps30
  go_wp2_with ((go_at_call 33; first | (with_reducible refine Calls_past2 (hs _) (fun z => ?_)) | (with_reducible refine Calls_past (hs _) (fun z => ?_))))
  refine bodyPost_ret (results_cm (T := 0) (x0 := .int .i64 0) (x1 := .int .i64 0) (x2 := .slice none 0 0) rfl rfl (by (first | (simp [go_sem]; done) | (simp [go_sem, ↓IntWalk.iteOmega]; done))) (by (first | (simp [go_sem]; done) | (simp [go_sem, ↓IntWalk.iteOmega]; done))) (by (first | (simp [go_sem]; done) | (simp [go_sem, ↓IntWalk.iteOmega]; done)))) rfl ?_
  exact ⟨rfl, by (repeat (first | assumption | exact Below.refl _ _ | with_reducible refine past_t _ ?_ | with_reducible refine below_a _ ?_ | with_reducible refine Below.drew ?_ | with_reducible refine below_d _ ?_ | (with_reducible refine Below.setCell ?_ (by (show _ ≤ _; repeat (first | exact Nat.le_refl _ | assumption | (omega; done) | with_reducible exact le_past (Nat.le_refl _) | with_reducible refine le_past ?_ | with_reducible refine le_al ?_ | with_reducible refine le_set ?_ | with_reducible refine le_p1 ?_))) _)))⟩
set_option maxHeartbeats 2000000 in
theorem r7DiagNo {A : Option Addr} {n c : Nat} {w : World} (hn : ¬(1 ≤ n ∧ n ≤ 12)) (hn2 : n ≤ 9223372036854775807) : Calls Try.prog 29 #[.slice A n c] w fun e w' => e = .returned (.tuple #[M0, .int .i64 3]) ∧ Below w.heap.size w w' := by
  by_cases h1 : (n : Int) < 1
  · go_enter Try.func29, Try.ntmps29
    go_wp2_with fail
    refine bodyPost_ret (results_cm (T := 0) (x0 := .int .i64 0) (x1 := .int .i64 0) (x2 := .slice none 0 0) rfl rfl (by (first | (simp [go_sem]; done) | (simp [go_sem, ↓IntWalk.iteOmega]; done))) (by (first | (simp [go_sem]; done) | (simp [go_sem, ↓IntWalk.iteOmega]; done))) (by (first | (simp [go_sem]; done) | (simp [go_sem, ↓IntWalk.iteOmega]; done)))) rfl ?_
    exact ⟨rfl, by (repeat (first | assumption | exact Below.refl _ _ | with_reducible refine past_t _ ?_ | with_reducible refine below_a _ ?_ | with_reducible refine Below.drew ?_ | with_reducible refine below_d _ ?_ | (with_reducible refine Below.setCell ?_ (by (show _ ≤ _; repeat (first | exact Nat.le_refl _ | assumption | (omega; done) | with_reducible exact le_past (Nat.le_refl _) | with_reducible refine le_past ?_ | with_reducible refine le_al ?_ | with_reducible refine le_set ?_ | with_reducible refine le_p1 ?_))) _)))⟩
  · have h2 : 12 < (n : Int) := by omega
    go_enter Try.func29, Try.ntmps29
    go_wp2_with fail
    refine bodyPost_ret (results_cm (T := 0) (x0 := .int .i64 0) (x1 := .int .i64 0) (x2 := .slice none 0 0) rfl rfl (by (first | (simp [go_sem]; done) | (simp [go_sem, ↓IntWalk.iteOmega]; done))) (by (first | (simp [go_sem]; done) | (simp [go_sem, ↓IntWalk.iteOmega]; done))) (by (first | (simp [go_sem]; done) | (simp [go_sem, ↓IntWalk.iteOmega]; done)))) rfl ?_
    exact ⟨rfl, by (repeat (first | assumption | exact Below.refl _ _ | with_reducible refine past_t _ ?_ | with_reducible refine below_a _ ?_ | with_reducible refine Below.drew ?_ | with_reducible refine below_d _ ?_ | (with_reducible refine Below.setCell ?_ (by (show _ ≤ _; repeat (first | exact Nat.le_refl _ | assumption | (omega; done) | with_reducible exact le_past (Nat.le_refl _) | with_reducible refine le_past ?_ | with_reducible refine le_al ?_ | with_reducible refine le_set ?_ | with_reducible refine le_p1 ?_))) _)))⟩
set_option maxHeartbeats 2000000 in
theorem r7EyeNo {n : Int} {w : World} (hn : ¬(1 ≤ n ∧ n ≤ 12)) : Calls Try.prog 27 #[.int .i64 n] w fun e w' => e = .returned (.tuple #[M0, .int .i64 3]) ∧ Below w.heap.size w w' := by
  by_cases h1 : n < 1
  · go_enter Try.func27, Try.ntmps27
    go_wp2_with fail
    refine bodyPost_ret (results_cm (T := 0) (x0 := .int .i64 0) (x1 := .int .i64 0) (x2 := .slice none 0 0) rfl rfl (by (first | (simp [go_sem]; done) | (simp [go_sem, ↓IntWalk.iteOmega]; done))) (by (first | (simp [go_sem]; done) | (simp [go_sem, ↓IntWalk.iteOmega]; done))) (by (first | (simp [go_sem]; done) | (simp [go_sem, ↓IntWalk.iteOmega]; done)))) rfl ?_
    exact ⟨rfl, by (repeat (first | assumption | exact Below.refl _ _ | with_reducible refine past_t _ ?_ | with_reducible refine below_a _ ?_ | with_reducible refine Below.drew ?_ | with_reducible refine below_d _ ?_ | (with_reducible refine Below.setCell ?_ (by (show _ ≤ _; repeat (first | exact Nat.le_refl _ | assumption | (omega; done) | with_reducible exact le_past (Nat.le_refl _) | with_reducible refine le_past ?_ | with_reducible refine le_al ?_ | with_reducible refine le_set ?_ | with_reducible refine le_p1 ?_))) _)))⟩
  · have h2 : 12 < n := by omega
    go_enter Try.func27, Try.ntmps27
    go_wp2_with fail
    refine bodyPost_ret (results_cm (T := 0) (x0 := .int .i64 0) (x1 := .int .i64 0) (x2 := .slice none 0 0) rfl rfl (by (first | (simp [go_sem]; done) | (simp [go_sem, ↓IntWalk.iteOmega]; done))) (by (first | (simp [go_sem]; done) | (simp [go_sem, ↓IntWalk.iteOmega]; done))) (by (first | (simp [go_sem]; done) | (simp [go_sem, ↓IntWalk.iteOmega]; done)))) rfl ?_
    exact ⟨rfl, by (repeat (first | assumption | exact Below.refl _ _ | with_reducible refine past_t _ ?_ | with_reducible refine below_a _ ?_ | with_reducible refine Below.drew ?_ | with_reducible refine below_d _ ?_ | (with_reducible refine Below.setCell ?_ (by (show _ ≤ _; repeat (first | exact Nat.le_refl _ | assumption | (omega; done) | with_reducible exact le_past (Nat.le_refl _) | with_reducible refine le_past ?_ | with_reducible refine le_al ?_ | with_reducible refine le_set ?_ | with_reducible refine le_p1 ?_))) _)))⟩
end Go.Proofs.Ytlhadociaekkhaa
/- Boxes whose third cell is a list that grows. -/
namespace Go.Proofs.Ytlhadociaekkhaa
set_option linter.unusedVariables false
set_option maxRecDepth 100000
open Go.RowKit Go.Shelf
/-- A box's third cell anew. -/
abbrev bx (X : Nat) (s : Value) (V : World) : World := V.setCell ⟨X, 2, none⟩ s
theorem bx_size (X : Nat) (s : Value) (V : World) : (bx X s V).heap.size = V.heap.size := by simp [World.setCell]
theorem bx_self {X : Nat} {s : Value} {V : World} (h : V.cell? ⟨X, 2, none⟩ = some s) : bx X s V = V := set_self _ _ _ _ h
theorem bx_next {V w : World} {X : Nat} {s s' : Value} (h : Below (bx X s V).heap.size (bx X s V) w) : Below (bx X s' V).heap.size (bx X s' V) (w.setCell ⟨X, 2, none⟩ s') := by
  have := below_set h ⟨X, 2, none⟩ s'
  rwa [set_set] at this
theorem put_bx {B X : Nat} (h : X ≠ B) (f : Bool) (c : Int) (s s' : Value) (V : World) : (put B f c (bx X s V)).setCell ⟨X, 2, none⟩ s' = put B f c (bx X s' V) := by
  unfold put
  rw [set_far _ B X 1 2 _ _ (Ne.symm h), set_far _ B X 0 2 _ _ (Ne.symm h), set_set]
theorem bxp_next {B : Nat} {f : Bool} {c : Int} {V w : World} {X : Nat} (hX : X ≠ B) {s s' : Value} (h : Below (put B f c (bx X s V)).heap.size (put B f c (bx X s V)) w) :
    Below (put B f c (bx X s' V)).heap.size (put B f c (bx X s' V)) (w.setCell ⟨X, 2, none⟩ s') := by
  have := below_set h ⟨X, 2, none⟩ s'
  rwa [put_bx hX] at this
theorem bx_cell {V w : World} {X : Nat} {s u : Value} (hV : V.cell? ⟨X, 2, none⟩ = some u) (h : Below (bx X s V).heap.size (bx X s V) w) : w.cell? ⟨X, 2, none⟩ = some s :=
  (h.cell (p := ⟨X, 2, none⟩) (by rw [bx_size]; exact World.block_lt_of_cell? V _ hV)).trans (World.cell?_setCell_same _ _ _ hV)
theorem bxp_cell {B : Nat} {f : Bool} {c : Int} {V w : World} {X : Nat} (hX : X ≠ B) {s u : Value} (hV : V.cell? ⟨X, 2, none⟩ = some u) (h : Below (put B f c (bx X s V)).heap.size (put B f c (bx X s V)) w) : w.cell? ⟨X, 2, none⟩ = some s :=
  (h.cell (p := ⟨X, 2, none⟩) (by rw [put_size, bx_size]; exact World.block_lt_of_cell? V _ hV)).trans ((put_cell _ _ _ _ _ hX).trans (World.cell?_setCell_same _ _ _ hV))
theorem bx_far {V w : World} {X b o : Nat} {s u : Value} (hb : b ≠ X) (hV : V.cell? ⟨b, o, none⟩ = some u) (h : Below (bx X s V).heap.size (bx X s V) w) : w.cell? ⟨b, o, none⟩ = some u :=
  (h.cell (p := ⟨b, o, none⟩) (by rw [bx_size]; exact World.block_lt_of_cell? V _ hV)).trans ((World.cell?_setCell_far _ _ _ _ (by show X ≠ b; exact Ne.symm hb)).trans hV)
theorem bxp_far {B : Nat} {f : Bool} {c : Int} {V w : World} {X b o : Nat} (hB : b ≠ B) {s u : Value} (hb : b ≠ X) (hV : V.cell? ⟨b, o, none⟩ = some u) (h : Below (put B f c (bx X s V)).heap.size (put B f c (bx X s V)) w) : w.cell? ⟨b, o, none⟩ = some u :=
  (h.cell (p := ⟨b, o, none⟩) (by rw [put_size, bx_size]; exact World.block_lt_of_cell? V _ hV)).trans ((put_cell _ _ _ _ _ hB).trans ((World.cell?_setCell_far _ _ _ _ (by show X ≠ b; exact Ne.symm hb)).trans hV))
theorem bx_mark {V w : World} {X b o : Nat} {s u : Value} (hV : V.cell? ⟨b, o, none⟩ = some u) (hm : V.frozen? ⟨b, o, none⟩ = false) (h : Below (bx X s V).heap.size (bx X s V) w) : w.frozen? ⟨b, o, none⟩ = false :=
  (h.frozen (p := ⟨b, o, none⟩) (by rw [bx_size]; exact World.block_lt_of_cell? V _ hV)).trans ((World.frozen?_setCell _ _ _ _).trans hm)
theorem bxp_mark {B : Nat} {f : Bool} {c : Int} {V w : World} {X b o : Nat} {s u : Value} (hV : V.cell? ⟨b, o, none⟩ = some u) (hm : V.frozen? ⟨b, o, none⟩ = false) (h : Below (put B f c (bx X s V)).heap.size (put B f c (bx X s V)) w) : w.frozen? ⟨b, o, none⟩ = false :=
  (h.frozen (p := ⟨b, o, none⟩) (by rw [put_size, bx_size]; exact World.block_lt_of_cell? V _ hV)).trans ((put_mark _ _ _ _ _).trans ((World.frozen?_setCell _ _ _ _).trans hm))
theorem RA.bx {B : Nat} {i : Bool} {c : Int} {w : World} (h : RA B i c w) {X : Nat} (hX : X ≠ B) (s : Value) : RA B i c (bx X s w) :=
  ⟨(World.cell?_setCell_far _ _ _ _ hX).trans h.c0, (World.cell?_setCell_far _ _ _ _ hX).trans h.c1, (World.frozen?_setCell _ _ _ _).trans h.f0, (World.frozen?_setCell _ _ _ _).trans h.f1⟩
theorem step_append_w {ops : Array Oper} {o : Oper} {a : Act} {K : Act → World → Prop} {Q : Exit → Act → World → Prop} {E : Prop} (hgd : o.guard = none) (s x : Operand)
    (ho : o.op = .call { callee := .builtin .append, args := #[s, x], argTypes := #[22, 22] })
    (V : World) {W : World} {v : Value} {zs news : List Int} {A : Option Addr} {n c : Nat} (hs : a.eval s = v) (hx : a.eval x = .slice A n c) (hV : Below V.heap.size V W) (hown : OwnI V W v zs) (hr : RS .i64 W A n c news) (hn : zs.length + news.length ≤ 17592186044416)
    (h : ∀ A' c' w', OwnI V w' (.slice A' (zs.length + news.length) c') (zs ++ news) → Below V.heap.size V w' → K (a.put o.dst (.slice A' (zs.length + news.length) c')) w') :
    if Region.wanted o (yielded ops a.tmps) = true then Oper.wp Try.prog o a W K Q else E :=
  step_append_i hgd s x ho V hs hx hV hown hr hn (fun A' c' z h1 => h A' c' _ h1 (past_below _ _))
theorem append_w {ops : Array Oper} {rest : List Oper} {o : Oper} {a : Act} {Q : Exit → Act → World → Prop} (hgd : o.guard = none) (s x : Operand)
    (ho : o.op = .call { callee := .builtin .append, args := #[s, x], argTypes := #[22, 22] })
    (V : World) {W : World} {v : Value} {zs news : List Int} {A : Option Addr} {n c : Nat} (hs : a.eval s = v) (hx : a.eval x = .slice A n c) (hV : Below V.heap.size V W) (hown : OwnI V W v zs) (hr : RS .i64 W A n c news) (hn : zs.length + news.length ≤ 17592186044416)
    (h : ∀ A' c' w', OwnI V w' (.slice A' (zs.length + news.length) c') (zs ++ news) → Below V.heap.size V w' → wpList Try.prog ops Q rest (a.put o.dst (.slice A' (zs.length + news.length) c')) w') : wpList Try.prog ops Q (o :: rest) a W :=
  append_i hgd s x ho V hs hx hV hown hr hn (fun A' c' z h1 => h A' c' _ h1 (past_below _ _))
/-- The first columns, one behind the other. -/
def turnK (R C : Nat) (zs : List Int) (k : Nat) : List Int := (List.range (k * R)).map fun x => zs.getD ((x % R) * C + x / R) 0
theorem turnK_len (R C : Nat) (zs : List Int) (k : Nat) : (turnK R C zs k).length = k * R := by simp [turnK]
theorem turnK_next (R C : Nat) (zs : List Int) (k : Nat) (hR : 0 < R) : turnK R C zs (k + 1) = turnK R C zs k ++ colL R C k zs := by
  unfold turnK colL
  rw [Nat.succ_mul, List.range_add, List.map_append, List.map_map]
  congr 1
  refine List.map_congr_left (fun r hr => ?_)
  have h : r < R := List.mem_range.1 hr
  show zs.getD ((k * R + r) % R * C + (k * R + r) / R) 0 = _
  rw [Nat.mul_comm k R, Nat.mul_add_mod, Nat.mod_eq_of_lt h, Nat.mul_add_div hR, Nat.div_eq_of_lt h, Nat.add_zero]
theorem turnK_turnL (R C : Nat) (zs : List Int) : turnK R C zs C = turnL R C zs := rfl
end Go.Proofs.Ytlhadociaekkhaa
/- A region in which a condition S on the world holds behind every operation but the last: what yields its value in every world that meets S may be taken first; so the last may be a store into a cell that another operation reads. -/
namespace Go.Proofs.Ytlhadociaekkhaa
set_option linter.unusedVariables false
open Go.RowKit
section
variable {P : Program} {ops : Array Oper} {Q : Exit → Act → World → Prop} {md : Region.Mode} {S : World → Prop} {n : Nat}
/-- Whatever order is picked from here on, and S holds behind every operation that is carried out, but number n. -/
def wpAnyT (P : Program) (md : Region.Mode) (ops : Array Oper) (Q : Exit → Act → World → Prop) (S : World → Prop) (n : Nat) : Nat → Array Bool → Act → World → Prop
  | 0, listed, a, w => Region.ready md ops listed = [] ∧ Q .normal a w
  | fuel + 1, listed, a, w =>
    (Region.ready md ops listed = [] → Q .normal a w) ∧
    ∀ i ∈ Region.ready md ops listed, wpOp P ops Q i (fun a' w' => (i ≠ n → S w') ∧ wpAnyT P md ops Q S n fuel (listed.setIfInBounds i true) a' w') a w
theorem wpAny_of_T : ∀ (fuel : Nat) (listed : Array Bool) (a : Act) (w : World), wpAnyT P md ops Q S n fuel listed a w → wpAny P md ops Q fuel listed a w
  | 0, _, _, _, h => h
  | fuel + 1, _, _, _, h => ⟨h.1, fun i hi => wpOp_mono (fun a' w' h' => wpAny_of_T fuel _ a' w' h'.2) (h.2 i hi)⟩
theorem wpAnyT_first {i : Nat} {oi : Oper} {v : Value} (hi : ops[i]? = some oi) (hsel : ∀ (j : Nat) (o : Oper) cs b, ops[j]? = some o → o.op ≠ .select cs b)
    (hQ : ∀ c a w, Q (.panic c) (a.put oi.dst v) w → Q (.panic c) a w) (hs : Region.sinkB md ops n = true) (hn : n + 1 = ops.size) (hin : i < n) :
    ∀ (fuel : Nat) (listed : Array Bool) (a : Act) (w : World), HeadInv md ops n listed →
      (∀ j oj, ops[j]? = some oj → j ≠ i → listed.getD j true = false → (∀ e ∈ oj.after, Region.binds md e = true → e.on ≠ i) → oi.apart ops oj = true) →
      i ∈ Region.ready md ops listed → YieldsIf P ops S oi v a → S w →
      wpAnyT P md ops Q S n fuel (listed.setIfInBounds i true) (a.put oi.dst v) w → wpAnyT P md ops Q S n (fuel + 1) listed a w := by
  have hc : Region.chainB md ops n = true := List.all_eq_true.2 (fun t ht => by have := List.mem_range.1 ht; simp; exact .inl (by omega))
  intro fuel
  induction fuel with
  | zero =>
    intro listed a w _ _ hr hy hS H
    refine ⟨fun h => (by rw [h] at hr; cases hr), fun j hj => ?_⟩
    by_cases hji : j = i
    · subst hji; exact hy.wpOp hi hS ⟨fun _ => hS, H⟩
    · have := ready_mono hj hji
      rw [H.1] at this
      cases this
  | succ fuel ih =>
    intro listed a w inv hfree hr hy hS H
    refine ⟨fun h => (by rw [h] at hr; cases hr), fun j hj => ?_⟩
    by_cases hji : j = i
    · subst hji; exact hy.wpOp hi hS ⟨fun _ => hS, H⟩
    · have h1 := H.2 j (ready_mono hj hji)
      obtain ⟨hjun, oj, hoj, hall⟩ := mem_ready.1 hj
      have hjs : j < ops.size := (Array.getElem?_eq_some_iff.1 hoj).1
      have hjn : j < n := Nat.lt_of_not_le fun h => tail_waits hs hc (by omega) inv _ i rfl hin (mem_ready.1 hr).1 j h hj
      have hnot : ∀ e ∈ oj.after, Region.binds md e = true → e.on ≠ i := fun e he hb heq => by
        have h1 := hall e he hb
        have h0 := (mem_ready.1 hr).1
        rw [heq, getD_both h0] at h1
        cases h1
      have h2 := wpOp_putIf hoj (hfree j oj hoj hji hjun hnot) (fun cs b => hsel i oi cs b hi) (fun cs b => hsel j oj cs b hoj) hQ hy h1
      have hfree' : ∀ k ok, ops[k]? = some ok → k ≠ i → (listed.setIfInBounds j true).getD k true = false →
          (∀ e ∈ ok.after, Region.binds md e = true → e.on ≠ i) → oi.apart ops ok = true := fun k ok hk hki hun hno => by
        refine hfree k ok hk hki ?_ hno
        by_cases hjk : j = k
        · subst hjk; exact hjun
        · rw [getD_set_ne true hjk] at hun; exact hun
      refine wpOp_mono (fun a' w' h3 => ?_) h2
      have hS' := h3.2.1 (by omega)
      refine ⟨fun _ => hS', ih (listed.setIfInBounds j true) a' w' (inv.set hj hjn) hfree' (ready_mono hr (Ne.symm hji)) h3.1 hS' ?_⟩
      rw [Array.setIfInBounds_comm _ _ hji]
      exact h3.2.2
/-- 'HeadInv' as a Bool. -/
def headInvB (md : Region.Mode) (ops : Array Oper) (n : Nat) (listed : Array Bool) : Bool :=
  decide (listed.size = ops.size) && ((List.range ops.size).all fun j => match ops[j]? with | some oj => !listed.getD j false || oj.after.all (fun e => !Region.binds md e || listed.getD e.on false) | none => true) && !listed.getD n true
theorem headInv_of {listed : Array Bool} (hn : n + 1 = ops.size) (h : headInvB md ops n listed = true) : HeadInv md ops n listed := by
  unfold headInvB at h
  simp only [Bool.and_eq_true, decide_eq_true_eq] at h
  obtain ⟨⟨h1, h2⟩, h3⟩ := h
  refine ⟨h1, fun j oj hj hl e he hb => ?_, fun t ht hts => ?_⟩
  · have hjs : j < ops.size := (Array.getElem?_eq_some_iff.1 hj).1
    have := List.all_eq_true.1 h2 j (List.mem_range.2 hjs)
    rw [hj] at this
    simp only [hl, Bool.not_true, Bool.false_or] at this
    rw [Array.all_eq_true'] at this
    have := this e he
    simp only [hb, Bool.not_true, Bool.false_or] at this
    exact this
  · obtain rfl : t = n := by omega
    simpa using h3
theorem wpAnyT_take {i : Nat} {oi : Oper} {v : Value} {fuel : Nat} {listed : Array Bool} {a : Act} {w : World} (hi : ops[i]? = some oi)
    (hB : (Region.noSelect ops && Region.sinkB md ops n && decide (n + 1 = ops.size) && decide (i < n) && headInvB md ops n listed && Region.free md ops listed i && (Region.ready md ops listed).contains i) = true)
    (hQ : ∀ c a w, Q (.panic c) (a.put oi.dst v) w → Q (.panic c) a w) (hy : YieldsIf P ops S oi v a) (hS : S w)
    (h : wpAnyT P md ops Q S n fuel (listed.setIfInBounds i true) (a.put oi.dst v) w) : wpAnyT P md ops Q S n (fuel + 1) listed a w := by
  simp only [Bool.and_eq_true, decide_eq_true_eq] at hB
  obtain ⟨⟨⟨⟨⟨⟨h1, h2⟩, h3⟩, h4⟩, h5⟩, h6⟩, h7⟩ := hB
  exact wpAnyT_first hi (Region.noSelect_spec h1) hQ h2 h3 h4 fuel listed a w (headInv_of h3 h5) (Region.free_spec hi h6) (by simpa using h7) hy hS h
/-- Each of the operations 'rs' comes up next. -/
def AllReadyT (P : Program) (md : Region.Mode) (ops : Array Oper) (Q : Exit → Act → World → Prop) (S : World → Prop) (n fuel : Nat) (listed : Array Bool) (a : Act) (w : World) (rs : List Nat) : Prop :=
  ∀ i ∈ rs, wpOp P ops Q i (fun a' w' => (i ≠ n → S w') ∧ wpAnyT P md ops Q S n fuel (listed.setIfInBounds i true) a' w') a w
theorem AllReadyT.nil {fuel : Nat} {listed : Array Bool} {a : Act} {w : World} : AllReadyT P md ops Q S n fuel listed a w [] := fun _ h => by cases h
theorem AllReadyT.cons {fuel : Nat} {listed : Array Bool} {a : Act} {w : World} {i : Nat} {o : Oper} {rs : List Nat} (ho : ops[i]? = some o)
    (h : ∀ K' : Act → World → Prop, Shut (∀ a w, (i ≠ n → S w) → ((i ≠ n → S w) → wpAnyT P md ops Q S n fuel (listed.setIfInBounds i true) a w) → K' a w) → if Region.wanted o (yielded ops a.tmps) = true then Oper.wp P o a w K' Q else K' (a.put o.dst undef) w)
    (hs : AllReadyT P md ops Q S n fuel listed a w rs) : AllReadyT P md ops Q S n fuel listed a w (i :: rs) := fun j hj => by
  rcases List.mem_cons.1 hj with rfl | hj
  · exact wpOp_step ho (fun K' hK => h K' (fun a w hS hW => hK a w ⟨hS, hW hS⟩))
  · exact hs j hj
theorem wpAnyT_ready {rs : List Nat} {fuel : Nat} {listed : Array Bool} {a : Act} {w : World} (hr : Region.ready md ops listed = rs) (hne : rs ≠ [])
    (h : AllReadyT P md ops Q S n fuel listed a w rs) : wpAnyT P md ops Q S n (fuel + 1) listed a w := ⟨fun h0 => absurd (hr ▸ h0) hne, hr ▸ h⟩
theorem wpAnyT_done {listed : Array Bool} {a : Act} {w : World} (hr : Region.ready md ops listed = []) (h : Q .normal a w) :
    ∀ fuel, wpAnyT P md ops Q S n fuel listed a w
  | 0 => ⟨hr, h⟩
  | _ + 1 => ⟨fun _ => h, by rw [hr]; simp⟩
theorem region_heldT {id : Nat} {a : Act} {w : World} (n : Nat) (hm : P.follows .mixedOrders = true) (hS : S w.drew)
    (h : S w.drew → wpAnyT P .any ops Q S n ops.size (Array.replicate ops.size false) a w.drew) : (Code.region id ops true).wp P Q a w :=
  wp_region_any hm (wpAny_of_T _ _ _ _ (h hS))
end
end Go.Proofs.Ytlhadociaekkhaa
/- One number appended to a list of one's own: no other block is changed, and the list lies where it lay, or in new memory. -/
namespace Go.Proofs.Ytlhadociaekkhaa
set_option linter.unusedVariables false
set_option maxRecDepth 100000
open Go.RowKit Go.Shelf
theorem run_append_one2 (V : World) {W : World} (hV : Below V.heap.size V W) {v : Value} {zs : List Int} (hown : OwnI V W v zs) {bx0 : Nat} {y : Int} (hx : W.cell? ⟨bx0, 0, none⟩ = some (.int .i64 y)) (hn : zs.length ≤ 1000000) (ty : TypeId) :
    ∃ A' c' w', (Builtin.append_ #[22, 22] ty #[v, .slice (some ⟨bx0, 0, none⟩) 1 1]).run Try.prog W = .ok (.slice A' (zs.length + 1) c') w' ∧ OwnI V w' (.slice A' (zs.length + 1) c') (zs ++ [y]) ∧ Below V.heap.size V w' ∧ W.grownBy w' v.ownBlock ∧
      ∀ g, (Value.slice A' (zs.length + 1) c').ownBlock = some g → v.ownBlock = some g ∨ W.heap.size ≤ g := by
  obtain ⟨i0, hi, hz0, hz1, hz2⟩ := info_parts infoI
  have hnews : ∀ j u, (kv .i64 [y])[j]? = some u → W.cell? ((⟨bx0, 0, none⟩ : Addr).add j) = some u := by
    intro j u hj
    match j, hj with
    | 0, hj => simp at hj; subst hj; simpa [Addr.add] using hx
  have h1c : ∀ u ∈ kv .i64 [y], u.oneCell' = true := fun u hu => by
    simp at hu
    subst hu
    rfl
  obtain ⟨v', w', h1, h2, h3, _⟩ := run_append_own (P := Try.prog) W V.heap.size 22 ty 3 i0 (.int .i64 0) 1 8 Try.underlying22 hi hz0 hz1 hz2 rfl (by decide) v zs.length (kv .i64 zs) hown ⟨bx0, 0, none⟩ 1 1 (kv .i64 [y]) (by simp) hnews h1c (by unfold maxLen; omega) (by omega) hV.size
  have hB : Below V.heap.size V w' := hV.grown h3 hV.size fun g hg => by
    obtain ⟨_, h1 | ⟨g', cap, cur, hv, hgb, _⟩⟩ := hown
    · rw [h1.1] at hg; cases hg
    · rw [hv] at hg; simp only [Value.ownBlock, Option.some.injEq] at hg; omega
  have h2' : OwnI V w' v' (zs ++ [y]) := by
    have e : OwnI V w' v' (zs ++ [y]) = OwnK V w' 3 .i64 v' (zs ++ [y]) := rfl
    rw [e]
    unfold OwnK kv; rw [List.length_append, List.map_append]; exact h2
  have hblk : ∀ g, v'.ownBlock = some g → v.ownBlock = some g ∨ W.heap.size ≤ g := by
    rcases hown.2 with ⟨rfl, hnil⟩ | ⟨g, cap, cur, rfl, hbg, hg, hnc, hcm, hcs, htake⟩
    · have hr := run_append_nil (P := Try.prog) W 22 ty 3 i0 (.int .i64 0) Try.underlying22 hi hz0 ⟨bx0, 0, none⟩ 1 1 (kv .i64 [y]) (by simp [hz1]) hnews (by omega) (by omega) (by rw [hz2]; omega)
      rw [h1] at hr
      cases hr
      intro g' hg'
      simp only [Value.ownBlock, Option.some.injEq] at hg'
      exact .inr (by omega)
    · by_cases hroom : zs.length + 1 ≤ cap
      · have hr := run_append_room (P := Try.prog) W 22 ty 3 i0 Try.underlying22 hi g zs.length cap cur hg ⟨bx0, 0, none⟩ 1 1 (kv .i64 [y]) (by simp [hz1]) hnews h1c hroom (by rw [hz1]; simp; omega)
        rw [h1] at hr
        cases hr
        intro g' hg'
        exact .inl (by simpa [Value.ownBlock] using hg')
      · have holds : ∀ j u, (kv .i64 zs)[j]? = some u → W.cell? ((⟨g, 0, none⟩ : Addr).add j) = some u := hown.cells (g := g) rfl
        have hr := run_append_grow (P := Try.prog) W 22 ty 3 i0 (.int .i64 0) Try.underlying22 hi hz0 ⟨g, 0, none⟩ zs.length cap (kv .i64 zs) (by simp [hz1]) holds ⟨bx0, 0, none⟩ 1 1 (kv .i64 [y]) (by simp [hz1]) hnews (by omega) (by omega) (growslice_fits (by omega) (by rw [hz2]; omega))
        rw [h1] at hr
        cases hr
        intro g' hg'
        simp only [Value.ownBlock, Option.some.injEq] at hg'
        exact .inr (by omega)
  obtain ⟨A', c', rfl⟩ := h2'.form
  rw [List.length_append] at h1 h2' hblk
  exact ⟨A', c', w', h1, h2', hB, h3, hblk⟩
theorem append_w2 {ops : Array Oper} {rest : List Oper} {o : Oper} {a : Act} {Q : Exit → Act → World → Prop} (hgd : o.guard = none) (s x : Operand)
    (ho : o.op = .call { callee := .builtin .append, args := #[s, x], argTypes := #[22, 22] })
    (V : World) {W : World} {v : Value} {zs : List Int} {bx0 : Nat} {y : Int} (hs : a.eval s = v) (hx : a.eval x = .slice (some ⟨bx0, 0, none⟩) 1 1) (hV : Below V.heap.size V W) (hown : OwnI V W v zs) (hy : W.cell? ⟨bx0, 0, none⟩ = some (.int .i64 y)) (hn : zs.length ≤ 1000000)
    (h : ∀ A' c' w', OwnI V w' (.slice A' (zs.length + 1) c') (zs ++ [y]) → Below V.heap.size V w' → W.grownBy w' v.ownBlock → (∀ g, (Value.slice A' (zs.length + 1) c').ownBlock = some g → v.ownBlock = some g ∨ W.heap.size ≤ g) → wpList Try.prog ops Q rest (a.put o.dst (.slice A' (zs.length + 1) c')) w') : wpList Try.prog ops Q (o :: rest) a W := by
  obtain ⟨A', c', w', h1, h2, h3, h4, h5⟩ := run_append_one2 V hV hown hy hn o.type
  refine wpList_plain hgd fun K hK => ?_
  unfold Oper.wp execOp
  simp only [ho, resolve, invoke, builtin, Sem.run_bind, Sem.run_pure, Result.andThen_ok, List.map_toArray, List.map_cons, List.map_nil, hs, hx, h1]
  exact hK _ _ (h A' c' w' h2 h3 h4 h5)
/-- A list is not in the block that is grown. -/
theorem sl_grown {W w' : World} {B : Nat} {A : Option Addr} {n c : Nat} {zs : List Int} {r : Option Nat} (h : SL W B (.slice A n c) zs) (hg : W.grownBy w' r) (hr : ∀ b o, A = some ⟨b, o, none⟩ → r ≠ some b) : SL w' B (.slice A n c) zs := by
  obtain ⟨A', cap, e, hl, hw⟩ := h
  cases e
  refine ⟨A, c, rfl, hl, fun h0 => ?_⟩
  obtain ⟨b, o, e, hb, hbw, hrow⟩ := hw h0
  refine ⟨b, o, e, hb, Nat.lt_of_lt_of_le hbw hg.size, fun j hj => ?_⟩
  have hblk := hg.block b hbw (fun e2 => hr b o e e2.symm)
  have := hrow j hj
  unfold World.cell? at this ⊢
  rw [hblk]
  exact this
end Go.Proofs.Ytlhadociaekkhaa
