/- Lists, by a unit that is nil, or that nobody made. -/
import Derived.Test.YtfhiodclbabdkaaVec6
namespace Go.Proofs.Ytfhiodclbabdkaa
set_option linter.unusedVariables false
set_option maxRecDepth 100000
open Go.RowKit
/-- A unit that reckons nothing. -/
def NU (p : Option Addr) (w : World) : Prop := p = none ∨ ∃ B, p = some ⟨B, 0, none⟩ ∧ w.cell? ⟨B, 2, none⟩ = some (.bool false)
theorem NU.keep {p : Option Addr} {w v : World} (h : NU p w) (k : Below w.heap.size w v) : NU p v := by
  rcases h with h | ⟨B, e, c⟩
  · exact .inl h
  · exact .inr ⟨B, e, (k.cell (p := ⟨B, 2, none⟩) (World.block_lt_of_cell? w _ c)).trans c⟩
theorem nNone {p : Option Addr} {w : World} (h : NU p w) : Calls Try.prog 98 #[.pointer p] w fun e w' => e = .returned (.bool true) ∧ Below w.heap.size w w' := by
  rcases h with rfl | ⟨B, rfl, c⟩
  · exact zNone6 w
  · go_enter Try.func98, Try.ntmps98
    go_wp2_with fail
    go_ret
    exact ⟨rfl, Below.refl _ _⟩
theorem nDot {p : Option Addr} {w : World} (h : NU p w) (v1 v2 : Value) : Calls Try.prog 65 #[.pointer p, v1, v2] w fun e w' => e = .returned (.tuple #[.int .i64 0, .int .i64 1]) ∧ Below w.heap.size w w' := by
  have hn := nNone h
  go_enter Try.func65, Try.ntmps65
  go_wp2_with ((go_at_call 98; with_reducible refine Calls_past (hn) (fun z => ?_)))
  go_ret2
  exact ⟨rfl, past_below _ _⟩
theorem nMade {p : Option Addr} {w : World} (h : NU p w) : Calls Try.prog 70 #[.pointer p] w fun e w' => e = .returned (.bool false) ∧ Below w.heap.size w w' := by
  have hn := fun a b => nDot h a b
  go_enter Try.func70, Try.ntmps70
  go_wp2_with ((go_at_call 65; with_reducible refine Calls_past (hn _ _) (fun z => ?_)))
  go_ret
  exact ⟨rfl, past_below _ _⟩
theorem nPairsSum {p : Option Addr} {w : World} (h : NU p w) (C : Nat) (v1 v2 : Value) : Calls Try.prog 63 #[.pointer p, .func (.func 64) #[] #[.pointer (some ⟨C, 0, none⟩)], v1, v2] w fun e w' => e = .returned (.tuple #[.slice none 0 0, .int .i64 1]) ∧ Below w.heap.size w w' := by
  have hn := nMade h
  go_enter Try.func63, Try.ntmps63
  go_wp2_with ((go_at_call 70; with_reducible refine Calls_past (hn) (fun z => ?_)))
  go_ret2
  exact ⟨rfl, past_below _ _⟩
theorem nPairsLess {p : Option Addr} {w : World} (h : NU p w) (v1 v2 : Value) : Calls Try.prog 63 #[.pointer p, .func (.func 67) #[.pointer p] #[], v1, v2] w fun e w' => e = .returned (.tuple #[.slice none 0 0, .int .i64 1]) ∧ Below w.heap.size w w' := by
  have hn := nMade h
  go_enter Try.func63, Try.ntmps63
  go_wp2_with ((go_at_call 70; with_reducible refine Calls_past (hn) (fun z => ?_)))
  go_ret2
  exact ⟨rfl, past_below _ _⟩
theorem nPairsScale {p : Option Addr} {w : World} (h : NU p w) (C D : Nat) (v1 v2 : Value) : Calls Try.prog 63 #[.pointer p, .func (.func 68) #[] #[.pointer (some ⟨C, 0, none⟩), .pointer (some ⟨D, 0, none⟩)], v1, v2] w fun e w' => e = .returned (.tuple #[.slice none 0 0, .int .i64 1]) ∧ Below w.heap.size w w' := by
  have hn := nMade h
  go_enter Try.func63, Try.ntmps63
  go_wp2_with ((go_at_call 70; with_reducible refine Calls_past (hn) (fun z => ?_)))
  go_ret2
  exact ⟨rfl, past_below _ _⟩
theorem nSum {p : Option Addr} {w : World} (h : NU p w) (v1 v2 : Value) : Calls Try.prog 18 #[.pointer p, v1, v2] w fun e w' => e = .returned (.tuple #[.slice none 0 0, .int .i64 1]) ∧ Below w.heap.size w w' := by
  have hn := fun (W : World) (k : Below w.heap.size w W) (C : Nat) => nPairsSum (h.keep k) C v1 v2
  go_enter Try.func18, Try.ntmps18
  go_wp2_with ((go_at_call 63; with_reducible refine Calls_past (hn _ ?_ _) (fun z => ?_); (focus ((first | ((repeat (first | assumption | exact Below.refl _ _ | with_reducible refine past_t _ ?_ | with_reducible refine below_a _ ?_ | with_reducible refine Below.drew ?_ | with_reducible refine below_d _ ?_ | (with_reducible refine Below.setCell ?_ (by (show _ ≤ _; repeat (first | exact Nat.le_refl _ | assumption | (omega; done) | with_reducible exact le_past (Nat.le_refl _) | with_reducible refine le_past ?_ | with_reducible refine le_al ?_ | with_reducible refine le_set ?_ | with_reducible refine le_p1 ?_))) _))); done) | (with_reducible rfl; done) | omega | (rfl; done) | (simp; done) | (simp [go_sem]; done) | (simp; omega) | (simp [go_sem]; omega)); done))))
  go_ret2
  exact ⟨rfl, by (repeat (first | assumption | exact Below.refl _ _ | with_reducible refine past_t _ ?_ | with_reducible refine below_a _ ?_ | with_reducible refine Below.drew ?_ | with_reducible refine below_d _ ?_ | (with_reducible refine Below.setCell ?_ (by (show _ ≤ _; repeat (first | exact Nat.le_refl _ | assumption | (omega; done) | with_reducible exact le_past (Nat.le_refl _) | with_reducible refine le_past ?_ | with_reducible refine le_al ?_ | with_reducible refine le_set ?_ | with_reducible refine le_p1 ?_))) _)))⟩
theorem nLess {p : Option Addr} {w : World} (h : NU p w) (v1 v2 : Value) : Calls Try.prog 23 #[.pointer p, v1, v2] w fun e w' => e = .returned (.tuple #[.slice none 0 0, .int .i64 1]) ∧ Below w.heap.size w w' := by
  have hn := fun (W : World) (k : Below w.heap.size w W) => nPairsLess (h.keep k) v1 v2
  go_enter Try.func23, Try.ntmps23
  go_wp2_with ((go_at_call 63; with_reducible refine Calls_past (hn _ ?_) (fun z => ?_); (focus ((first | ((repeat (first | assumption | exact Below.refl _ _ | with_reducible refine past_t _ ?_ | with_reducible refine below_a _ ?_ | with_reducible refine Below.drew ?_ | with_reducible refine below_d _ ?_ | (with_reducible refine Below.setCell ?_ (by (show _ ≤ _; repeat (first | exact Nat.le_refl _ | assumption | (omega; done) | with_reducible exact le_past (Nat.le_refl _) | with_reducible refine le_past ?_ | with_reducible refine le_al ?_ | with_reducible refine le_set ?_ | with_reducible refine le_p1 ?_))) _))); done) | (with_reducible rfl; done) | omega | (rfl; done) | (simp; done) | (simp [go_sem]; done) | (simp; omega) | (simp [go_sem]; omega)); done))))
  go_ret2
  exact ⟨rfl, by (repeat (first | assumption | exact Below.refl _ _ | with_reducible refine past_t _ ?_ | with_reducible refine below_a _ ?_ | with_reducible refine Below.drew ?_ | with_reducible refine below_d _ ?_ | (with_reducible refine Below.setCell ?_ (by (show _ ≤ _; repeat (first | exact Nat.le_refl _ | assumption | (omega; done) | with_reducible exact le_past (Nat.le_refl _) | with_reducible refine le_past ?_ | with_reducible refine le_al ?_ | with_reducible refine le_set ?_ | with_reducible refine le_p1 ?_))) _)))⟩
theorem nScale {p : Option Addr} {w : World} (h : NU p w) (v1 : Value) (s : Int) : Calls Try.prog 24 #[.pointer p, v1, .int .i64 s] w fun e w' => e = .returned (.tuple #[.slice none 0 0, .int .i64 1]) ∧ Below w.heap.size w w' := by
  have hn := fun (W : World) (k : Below w.heap.size w W) (C D : Nat) => nPairsScale (h.keep k) C D v1 v1
  go_enter Try.func24, Try.ntmps24
  go_wp2_with ((go_at_call 63; with_reducible refine Calls_past (hn _ ?_ _ _) (fun z => ?_); (focus ((first | ((repeat (first | assumption | exact Below.refl _ _ | with_reducible refine past_t _ ?_ | with_reducible refine below_a _ ?_ | with_reducible refine Below.drew ?_ | with_reducible refine below_d _ ?_ | (with_reducible refine Below.setCell ?_ (by (show _ ≤ _; repeat (first | exact Nat.le_refl _ | assumption | (omega; done) | with_reducible exact le_past (Nat.le_refl _) | with_reducible refine le_past ?_ | with_reducible refine le_al ?_ | with_reducible refine le_set ?_ | with_reducible refine le_p1 ?_))) _))); done) | (with_reducible rfl; done) | omega | (rfl; done) | (simp; done) | (simp [go_sem]; done) | (simp; omega) | (simp [go_sem]; omega)); done))))
  go_ret2
  exact ⟨rfl, by (repeat (first | assumption | exact Below.refl _ _ | with_reducible refine past_t _ ?_ | with_reducible refine below_a _ ?_ | with_reducible refine Below.drew ?_ | with_reducible refine below_d _ ?_ | (with_reducible refine Below.setCell ?_ (by (show _ ≤ _; repeat (first | exact Nat.le_refl _ | assumption | (omega; done) | with_reducible exact le_past (Nat.le_refl _) | with_reducible refine le_past ?_ | with_reducible refine le_al ?_ | with_reducible refine le_set ?_ | with_reducible refine le_p1 ?_))) _)))⟩
theorem nvDot {p : Option Addr} {w : World} (h : NU p w) (v1 v2 : Value) : Calls Try.prog 19 #[.pointer p, v1, v2] w fun e w' => e = .returned (.tuple #[.int .i64 0, .int .i64 1]) ∧ Below w.heap.size w w' := by
  have hn := nDot h v1 v2
  go_enter Try.func19, Try.ntmps19
  go_wp2_with ((go_at_call 65; with_reducible refine Calls_past (hn) (fun z => ?_)))
  go_ret2
  exact ⟨rfl, past_below _ _⟩
theorem nMost {p : Option Addr} {w : World} (h : NU p w) (v1 : Value) : Calls Try.prog 25 #[.pointer p, v1] w fun e w' => e = .returned (.tuple #[.int .i64 0, .int .i64 1]) ∧ Below w.heap.size w w' := by
  have hn := nMade h
  go_enter Try.func25, Try.ntmps25
  go_wp2_with ((go_at_call 70; with_reducible refine Calls_past (hn) (fun z => ?_)))
  go_ret2
  exact ⟨rfl, past_below _ _⟩
theorem vApart (a b : Int) (w : World) (ha : InI a) (hb : InI b) :
    Calls Try.prog 22 #[.int .i64 a, .int .i64 b] w fun e w' => e = .returned (.int .u64 (dist a b)) ∧ Below w.heap.size w w' := by
  by_cases h : b < a
  · have e : dist a b = a - b := by unfold dist; rw [if_pos h]
    rw [e]
    go_enter Try.func22, Try.ntmps22
    go_wp2_with fail
    go_ret
    refine ⟨congrArg Ending.returned (congrArg (Value.int .u64) ?_), by (repeat (first | assumption | exact Below.refl _ _ | with_reducible refine past_t _ ?_ | with_reducible refine below_a _ ?_ | with_reducible refine Below.drew ?_ | with_reducible refine below_d _ ?_ | (with_reducible refine Below.setCell ?_ (by (show _ ≤ _; repeat (first | exact Nat.le_refl _ | assumption | (omega; done) | with_reducible exact le_past (Nat.le_refl _) | with_reducible refine le_past ?_ | with_reducible refine le_al ?_ | with_reducible refine le_set ?_ | with_reducible refine le_p1 ?_))) _)))⟩
    simp only [u64w]; omega
  · have e : dist a b = b - a := by unfold dist; rw [if_neg h]
    rw [e]
    go_enter Try.func22, Try.ntmps22
    go_wp2_with fail
    go_ret
    refine ⟨congrArg Ending.returned (congrArg (Value.int .u64) ?_), by (repeat (first | assumption | exact Below.refl _ _ | with_reducible refine past_t _ ?_ | with_reducible refine below_a _ ?_ | with_reducible refine Below.drew ?_ | with_reducible refine below_d _ ?_ | (with_reducible refine Below.setCell ?_ (by (show _ ≤ _; repeat (first | exact Nat.le_refl _ | assumption | (omega; done) | with_reducible exact le_past (Nat.le_refl _) | with_reducible refine le_past ?_ | with_reducible refine le_al ?_ | with_reducible refine le_set ?_ | with_reducible refine le_p1 ?_))) _)))⟩
    simp only [u64w]; omega
end Go.Proofs.Ytfhiodclbabdkaa
