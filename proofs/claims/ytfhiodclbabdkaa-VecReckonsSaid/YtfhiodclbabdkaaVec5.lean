/- Layer 6's examples, all. -/
import Derived.Test.YtfhiodclbabdkaaVec4
namespace Go.Proofs.Ytfhiodclbabdkaa
set_option linter.unusedVariables false
set_option maxRecDepth 100000
open Go.RowKit
abbrev UZ6 : Value := .pointer none
theorem zNone6 (w : World) : Calls Try.prog 98 #[UZ6] w fun e w' => e = .returned (.bool true) ∧ Below w.heap.size w w' := by
  go_enter Try.func98, Try.ntmps98
  go_wp2_with fail
  go_ret
  exact ⟨rfl, Below.refl _ _⟩
theorem zDot6 (v1 v2 : Value) (w : World) : Calls Try.prog 65 #[UZ6, v1, v2] w fun e w' => e = .returned (.tuple #[.int .i64 0, .int .i64 1]) ∧ Below w.heap.size w w' := by
  go_enter Try.func65, Try.ntmps65
  go_wp2_with ((go_at_call 98; first | (with_reducible refine Calls_past2 (zNone6 _) (fun z => ?_)) | (with_reducible refine Calls_past (zNone6 _) (fun z => ?_))))
  go_ret2
  exact ⟨rfl, past_below _ _⟩
theorem zMade6 (w : World) : Calls Try.prog 70 #[UZ6] w fun e w' => e = .returned (.bool false) ∧ Below w.heap.size w w' := by
  go_enter Try.func70, Try.ntmps70
  go_wp2_with ((go_at_call 65; first | (with_reducible refine Calls_past2 (zDot6 _ _ _) (fun z => ?_)) | (with_reducible refine Calls_past (zDot6 _ _ _) (fun z => ?_))))
  go_ret
  exact ⟨rfl, past_below _ _⟩
theorem zPairsSum (C : Nat) (v1 v2 : Value) (w : World) : Calls Try.prog 63 #[UZ6, .func (.func 64) #[] #[.pointer (some ⟨C, 0, none⟩)], v1, v2] w fun e w' => e = .returned (.tuple #[.slice none 0 0, .int .i64 1]) ∧ Below w.heap.size w w' := by
  go_enter Try.func63, Try.ntmps63
  go_wp2_with ((go_at_call 70; first | (with_reducible refine Calls_past2 (zMade6 _) (fun z => ?_)) | (with_reducible refine Calls_past (zMade6 _) (fun z => ?_))))
  go_ret2
  exact ⟨rfl, past_below _ _⟩
theorem zSum6 (v1 v2 : Value) (w : World) : Calls Try.prog 18 #[UZ6, v1, v2] w fun e w' => e = .returned (.tuple #[.slice none 0 0, .int .i64 1]) ∧ Below w.heap.size w w' := by
  go_enter Try.func18, Try.ntmps18
  go_wp2_with ((go_at_call 63; first | (with_reducible refine Calls_past2 (zPairsSum _ _ _ _) (fun z => ?_)) | (with_reducible refine Calls_past (zPairsSum _ _ _ _) (fun z => ?_))))
  go_ret2
  exact ⟨rfl, by (repeat (first | assumption | exact Below.refl _ _ | with_reducible refine past_t _ ?_ | with_reducible refine below_a _ ?_ | with_reducible refine Below.drew ?_ | with_reducible refine below_d _ ?_ | (with_reducible refine Below.setCell ?_ (by (show _ ≤ _; repeat (first | exact Nat.le_refl _ | assumption | (omega; done) | with_reducible exact le_past (Nat.le_refl _) | with_reducible refine le_past ?_ | with_reducible refine le_al ?_ | with_reducible refine le_set ?_ | with_reducible refine le_p1 ?_))) _)))⟩
theorem vSumNo {B : Nat} {i : Bool} {c : Int} {w : World} (h : UA B i c w) (hc : 0 ≤ c ∧ c ≤ 4611686018427387904) (A1 A2 : Option Addr) (n m c1 c2 : Nat) (hne : n ≠ m) (h1 : n ≤ 4611686018427387904) (h2 : m ≤ 4611686018427387904) :
    Calls Try.prog 18 #[UP B, .slice A1 n c1, .slice A2 m c2] w fun e w' => e = .returned (.tuple #[.slice none 0 0, .int .i64 3]) ∧ Below w.heap.size w w' := by
  have hp := fun (W : World) (k : Below w.heap.size w W) (C : Nat) => vPairsNoSum (h.keep k) hc C A1 A2 n m c1 c2 hne h1 h2
  clear h hne
  go_enter Try.func18, Try.ntmps18
  go_wp2_with ((go_at_call 63; with_reducible refine Calls_past (hp _ ?_ _) (fun z => ?_); (focus ((first | ((repeat (first | assumption | exact Below.refl _ _ | with_reducible refine past_t _ ?_ | with_reducible refine below_a _ ?_ | with_reducible refine Below.drew ?_ | with_reducible refine below_d _ ?_ | (with_reducible refine Below.setCell ?_ (by (show _ ≤ _; repeat (first | exact Nat.le_refl _ | assumption | (omega; done) | with_reducible exact le_past (Nat.le_refl _) | with_reducible refine le_past ?_ | with_reducible refine le_al ?_ | with_reducible refine le_set ?_ | with_reducible refine le_p1 ?_))) _))); done) | (with_reducible rfl; done) | omega | (rfl; done) | (simp; done) | (simp [go_sem]; done) | (simp; omega) | (simp [go_sem]; omega)); done))))
  go_ret2
  exact ⟨rfl, by (repeat (first | assumption | exact Below.refl _ _ | with_reducible refine past_t _ ?_ | with_reducible refine below_a _ ?_ | with_reducible refine Below.drew ?_ | with_reducible refine below_d _ ?_ | (with_reducible refine Below.setCell ?_ (by (show _ ≤ _; repeat (first | exact Nat.le_refl _ | assumption | (omega; done) | with_reducible exact le_past (Nat.le_refl _) | with_reducible refine le_past ?_ | with_reducible refine le_al ?_ | with_reducible refine le_set ?_ | with_reducible refine le_p1 ?_))) _)))⟩
theorem kvDot {B : Nat} {w : World} {v1 v2 : Value} (h : UA B false 0 w) (h1 : SL w B v1 [4294967296]) (h2 : SL w B v2 [21474836480]) :
    Calls Try.prog 19 #[UP B, v1, v2] w fun e w' => e = .returned (.tuple #[.int .i64 21474836480, .int .i64 0]) ∧ Below (put B false 2 w).heap.size (put B false 2 w) w' := by
  have := vDot h v1 v2 _ _ (by intro n hn; simp at hn; omega) (by intro n hn; simp at hn; omega) h1 h2 rfl (by simp)
  rw [show runD (0, false) [4294967296] [21474836480] ([4294967296] : List Int).length = (21474836480, false) by decide +kernel] at this
  exact this
theorem kvMost {B : Nat} {w : World} {v : Value} (h : UA B false 2 w) (h1 : SL w B v [3, -7, 5]) :
    Calls Try.prog 25 #[UP B, v] w fun e w' => e = .returned (.tuple #[.int .i64 7, .int .i64 0]) ∧ Below (put B false 3 w).heap.size (put B false 3 w) w' := by
  have := vMost h v _ (by intro n hn; simp at hn; omega) h1 (by simp)
  rw [show mostR false 2 [3, -7, 5] ([3, -7, 5] : List Int).length = (7, false, 3) by decide +kernel] at this
  exact this
theorem kvMost0 {B : Nat} {w : World} (h : UA B false 3 w) :
    Calls Try.prog 25 #[UP B, .slice none 0 0] w fun e w' => e = .returned (.tuple #[.int .i64 0, .int .i64 0]) ∧ Below w.heap.size w w' := by
  have := vMost h _ [] (by intro n hn; cases hn) (SL.nil w B) (by simp)
  rw [show mostR false 3 [] ([] : List Int).length = (0, false, 3) from rfl, put_self h] at this
  exact this
set_option maxHeartbeats 8000000 in
theorem lKnown6 (w : World) : SaysYes 5 #[] w := by
  have haw := lAwake6
  unfold SaysYes at haw ⊢
  go_enter Try.func5, Try.ntmps5
  go_upto_region 2 with (first | (go_at_call 16; refine (uNew _).mono ?_; rintro e w1 ⟨rfl, rfl⟩))
  refine wp_gen (fun W0 hW0 => ?_)
  have hU0 : UA w.heap.size false 0 W0 := by rw [hW0]; exact ⟨by (first | (simp [go_sem]; done) | (simp [go_sem, ↓IntWalk.iteOmega]; done)), by (first | (simp [go_sem]; done) | (simp [go_sem, ↓IntWalk.iteOmega]; done)), by (first | (simp [go_sem]; done) | (simp [go_sem, ↓IntWalk.iteOmega]; done)), by (first | (simp [go_sem]; done) | (simp [go_sem, ↓IntWalk.iteOmega]; done)), by (first | (simp [go_sem]; done) | (simp [go_sem, ↓IntWalk.iteOmega]; done))⟩
  have hB0 : Below w.heap.size w W0 := by rw [hW0]; (repeat (first | assumption | exact Below.refl _ _ | with_reducible refine past_t _ ?_ | with_reducible refine below_a _ ?_ | with_reducible refine Below.drew ?_ | with_reducible refine below_d _ ?_ | (with_reducible refine Below.setCell ?_ (by (show _ ≤ _; repeat (first | exact Nat.le_refl _ | assumption | (omega; done) | with_reducible exact le_past (Nat.le_refl _) | with_reducible refine le_past ?_ | with_reducible refine le_al ?_ | with_reducible refine le_set ?_ | with_reducible refine le_p1 ?_))) _)))
  have hUl := hU0.lt
  clear hW0
  go_upto_region 3 with (go_at_call 19; with_reducible refine Calls.mono (kvDot (hU0.keep ?_) (SL1 ?_ ?_) (SL1 ?_ ?_)) ?_; (focus ((repeat (first | assumption | exact Below.refl _ _ | with_reducible refine past_t _ ?_ | with_reducible refine below_a _ ?_ | with_reducible refine Below.drew ?_ | with_reducible refine below_d _ ?_ | (with_reducible refine Below.setCell ?_ (by (show _ ≤ _; repeat (first | exact Nat.le_refl _ | assumption | (omega; done) | with_reducible exact le_past (Nat.le_refl _) | with_reducible refine le_past ?_ | with_reducible refine le_al ?_ | with_reducible refine le_set ?_ | with_reducible refine le_p1 ?_))) _))); done)); (focus (omega; done)); (focus ((first | (simp [go_sem]; done) | (simp [go_sem, ↓IntWalk.iteOmega]; done)); done)); (focus (omega; done)); (focus ((first | (simp [go_sem]; done) | (simp [go_sem, ↓IntWalk.iteOmega]; done)); done)); rintro _ w2 ⟨rfl, hb3⟩)
  have hU1 := ((hU0.keep (below_a _ (below_a _ (Below.refl _ _)))).put false 2).keep hb3
  have hB1 := below_unit (below_a _ (below_a _ hB0)) (Nat.le_refl _) hb3
  have hUl1 := hU1.lt
  clear hU0 hb3
  go_upto_region 4 with (go_at_call 25; with_reducible refine Calls.mono (kvMost (hU1.keep ?_) (SL3 ?_ ?_ ?_ ?_)) ?_; (focus ((repeat (first | assumption | exact Below.refl _ _ | with_reducible refine past_t _ ?_ | with_reducible refine below_a _ ?_ | with_reducible refine Below.drew ?_ | with_reducible refine below_d _ ?_ | (with_reducible refine Below.setCell ?_ (by (show _ ≤ _; repeat (first | exact Nat.le_refl _ | assumption | (omega; done) | with_reducible exact le_past (Nat.le_refl _) | with_reducible refine le_past ?_ | with_reducible refine le_al ?_ | with_reducible refine le_set ?_ | with_reducible refine le_p1 ?_))) _))); done)); (focus (omega; done)); (focus ((first | (simp [go_sem]; done) | (simp [go_sem, ↓IntWalk.iteOmega]; done)); done)); (focus ((first | (simp [go_sem]; done) | (simp [go_sem, ↓IntWalk.iteOmega]; done)); done)); (focus ((first | (simp [go_sem]; done) | (simp [go_sem, ↓IntWalk.iteOmega]; done)); done)); rintro _ w3 ⟨rfl, hb4⟩)
  have hU2 := ((hU1.keep (below_a _ (Below.refl _ _))).put false 3).keep hb4
  have hB2 := below_unit (below_a _ hB1) (Nat.le_refl _) hb4
  have hUl2 := hU2.lt
  clear hU1 hb4
  go_wp2_with (first | (go_at_call 25; with_reducible refine Calls_past (kvMost0 hU2) (fun z => ?_)) | (go_at_call 18; with_reducible refine Calls_past (vSumNo (hU2.keep ?_) ⟨by omega, by omega⟩ _ _ _ _ _ _ ?_ ?_ ?_) (fun z => ?_); (focus ((first | ((repeat (first | assumption | exact Below.refl _ _ | with_reducible refine past_t _ ?_ | with_reducible refine below_a _ ?_ | with_reducible refine Below.drew ?_ | with_reducible refine below_d _ ?_ | (with_reducible refine Below.setCell ?_ (by (show _ ≤ _; repeat (first | exact Nat.le_refl _ | assumption | (omega; done) | with_reducible exact le_past (Nat.le_refl _) | with_reducible refine le_past ?_ | with_reducible refine le_al ?_ | with_reducible refine le_set ?_ | with_reducible refine le_p1 ?_))) _))); done) | (with_reducible rfl; done) | omega | (rfl; done) | (simp; done) | (simp [go_sem]; done) | (simp; omega) | (simp [go_sem]; omega)); done)); (focus ((first | ((repeat (first | assumption | exact Below.refl _ _ | with_reducible refine past_t _ ?_ | with_reducible refine below_a _ ?_ | with_reducible refine Below.drew ?_ | with_reducible refine below_d _ ?_ | (with_reducible refine Below.setCell ?_ (by (show _ ≤ _; repeat (first | exact Nat.le_refl _ | assumption | (omega; done) | with_reducible exact le_past (Nat.le_refl _) | with_reducible refine le_past ?_ | with_reducible refine le_al ?_ | with_reducible refine le_set ?_ | with_reducible refine le_p1 ?_))) _))); done) | (with_reducible rfl; done) | omega | (rfl; done) | (simp; done) | (simp [go_sem]; done) | (simp; omega) | (simp [go_sem]; omega)); done)); (focus ((first | ((repeat (first | assumption | exact Below.refl _ _ | with_reducible refine past_t _ ?_ | with_reducible refine below_a _ ?_ | with_reducible refine Below.drew ?_ | with_reducible refine below_d _ ?_ | (with_reducible refine Below.setCell ?_ (by (show _ ≤ _; repeat (first | exact Nat.le_refl _ | assumption | (omega; done) | with_reducible exact le_past (Nat.le_refl _) | with_reducible refine le_past ?_ | with_reducible refine le_al ?_ | with_reducible refine le_set ?_ | with_reducible refine le_p1 ?_))) _))); done) | (with_reducible rfl; done) | omega | (rfl; done) | (simp; done) | (simp [go_sem]; done) | (simp; omega) | (simp [go_sem]; omega)); done)); (focus ((first | ((repeat (first | assumption | exact Below.refl _ _ | with_reducible refine past_t _ ?_ | with_reducible refine below_a _ ?_ | with_reducible refine Below.drew ?_ | with_reducible refine below_d _ ?_ | (with_reducible refine Below.setCell ?_ (by (show _ ≤ _; repeat (first | exact Nat.le_refl _ | assumption | (omega; done) | with_reducible exact le_past (Nat.le_refl _) | with_reducible refine le_past ?_ | with_reducible refine le_al ?_ | with_reducible refine le_set ?_ | with_reducible refine le_p1 ?_))) _))); done) | (with_reducible rfl; done) | omega | (rfl; done) | (simp; done) | (simp [go_sem]; done) | (simp; omega) | (simp [go_sem]; omega)); done))) | (go_at_call 18; with_reducible refine Calls_past (zSum6 _ _ _) (fun z => ?_)) | (go_at_call 15; with_reducible refine Calls_past (haw _) (fun z => ?_)))
  go_ret
  exact ⟨rfl, by (repeat (first | assumption | exact Below.refl _ _ | with_reducible refine past_t _ ?_ | with_reducible refine below_a _ ?_ | with_reducible refine Below.drew ?_ | with_reducible refine below_d _ ?_ | (with_reducible refine Below.setCell ?_ (by (show _ ≤ _; repeat (first | exact Nat.le_refl _ | assumption | (omega; done) | with_reducible exact le_past (Nat.le_refl _) | with_reducible refine le_past ?_ | with_reducible refine le_al ?_ | with_reducible refine le_set ?_ | with_reducible refine le_p1 ?_))) _)))⟩
end Go.Proofs.Ytfhiodclbabdkaa
