/- Units that are nil, or that nobody made, whatever the act (printed by mk_act4.py). -/
import Derived.Test.YtfhiodclbabdkaaAct3
namespace Go.Proofs.Ytfhiodclbabdkaa
set_option linter.unusedVariables false
set_option maxRecDepth 100000
open Go.RowKit
theorem nAll {p : Option Addr} {w : World} (h : NU p w) (s : Int) (fv v : Value) : Calls Try.prog 66 #[.pointer p, .int .i64 s, fv, v] w fun e w' => e = .returned (.int .i64 0) ∧ Below w.heap.size w w' := by
  have hn := nNone h
  go_enter Try.func66, Try.ntmps66
  go_wp2_with ((go_at_call 98; with_reducible refine Calls_past (hn) (fun z => ?_)))
  go_ret
  exact ⟨rfl, past_below _ _⟩
theorem nOne {p : Option Addr} {w : World} (h : NU p w) (fv : Value) (a b : Int) : Calls Try.prog 100 #[.pointer p, fv, .int .i64 a, .int .i64 b] w fun e w' => e = .returned (.int .i64 0) ∧ Below w.heap.size w w' := by
  have hn := nNone h
  go_enter Try.func100, Try.ntmps100
  go_wp2_with ((go_at_call 98; with_reducible refine Calls_past (hn) (fun z => ?_)))
  go_ret
  exact ⟨rfl, past_below _ _⟩
theorem nCount {p : Option Addr} {w : World} (h : NU p w) : Calls Try.prog 60 #[.pointer p] w fun e w' => e = .returned (.int .i64 0) ∧ Below w.heap.size w w' := by
  have hn := nNone h
  go_enter Try.func60, Try.ntmps60
  go_wp2_with ((go_at_call 98; with_reducible refine Calls_past (hn) (fun z => ?_)))
  go_ret
  exact ⟨rfl, past_below _ _⟩
theorem nAdd {p : Option Addr} {w : World} (h : NU p w) (v : Value) : Calls Try.prog 20 #[.pointer p, v] w fun e w' => e = .returned (.int .i64 0) ∧ Below w.heap.size w w' := by
  have hn := fun s fv => nAll h s fv v
  go_enter Try.func20, Try.ntmps20
  go_wp2_with ((go_at_call 66; with_reducible refine Calls_past (hn _ _) (fun z => ?_)))
  go_ret
  exact ⟨rfl, past_below _ _⟩
theorem nMul {p : Option Addr} {w : World} (h : NU p w) (v : Value) : Calls Try.prog 69 #[.pointer p, v] w fun e w' => e = .returned (.int .i64 0) ∧ Below w.heap.size w w' := by
  have hn := fun s fv => nAll h s fv v
  go_enter Try.func69, Try.ntmps69
  go_wp2_with ((go_at_call 66; with_reducible refine Calls_past (hn _ _) (fun z => ?_)))
  go_ret
  exact ⟨rfl, past_below _ _⟩
theorem nSub {p : Option Addr} {w : World} (h : NU p w) (a b : Int) : Calls Try.prog 67 #[.pointer p, .int .i64 a, .int .i64 b] w fun e w' => e = .returned (.int .i64 0) ∧ Below w.heap.size w w' := by
  have hn := fun fv => nOne h fv a b
  go_enter Try.func67, Try.ntmps67
  go_wp2_with ((go_at_call 100; with_reducible refine Calls_past (hn _) (fun z => ?_)))
  go_ret
  exact ⟨rfl, past_below _ _⟩
theorem nDiv {p : Option Addr} {w : World} (h : NU p w) (a b : Int) : Calls Try.prog 94 #[.pointer p, .int .i64 a, .int .i64 b] w fun e w' => e = .returned (.int .i64 0) ∧ Below w.heap.size w w' := by
  have hn := fun fv => nOne h fv a b
  go_enter Try.func94, Try.ntmps94
  go_wp2_with ((go_at_call 100; with_reducible refine Calls_past (hn _) (fun z => ?_)))
  go_ret
  exact ⟨rfl, past_below _ _⟩
theorem nHalf {p : Option Addr} {w : World} (h : NU p w) (a b : Int) : Calls Try.prog 95 #[.pointer p, .int .i64 a, .int .i64 b] w fun e w' => e = .returned (.int .i64 0) ∧ Below w.heap.size w w' := by
  have hn := fun fv => nOne h fv a b
  go_enter Try.func95, Try.ntmps95
  go_wp2_with ((go_at_call 100; with_reducible refine Calls_past (hn _) (fun z => ?_)))
  go_ret
  exact ⟨rfl, past_below _ _⟩
theorem nSqrt {p : Option Addr} {w : World} (h : NU p w) (a : Int) : Calls Try.prog 96 #[.pointer p, .int .i64 a] w fun e w' => e = .returned (.int .i64 0) ∧ Below w.heap.size w w' := by
  have hn := fun fv b => nOne h fv a b
  go_enter Try.func96, Try.ntmps96
  go_wp2_with ((go_at_call 100; with_reducible refine Calls_past (hn _ _) (fun z => ?_)))
  go_ret
  exact ⟨rfl, past_below _ _⟩
theorem nWhole {p : Option Addr} {w : World} (h : NU p w) (a : Int) : Calls Try.prog 97 #[.pointer p, .int .i64 a] w fun e w' => e = .returned (.int .i64 0) ∧ Below w.heap.size w w' := by
  have hn := fun fv b => nOne h fv a b
  go_enter Try.func97, Try.ntmps97
  go_wp2_with ((go_at_call 100; with_reducible refine Calls_past (hn _ _) (fun z => ?_)))
  go_ret
  exact ⟨rfl, past_below _ _⟩
theorem n0 {p : Option Addr} {w : World} (h : NU p w) (a b : Int) (v1 v2 : Value) (is : Bool) : Calls Try.prog 59 #[.pointer p, actV 0 a b v1 v2 is] w fun e w' => e = .returned (.tuple #[.int .i64 0, .int .i64 0]) ∧ Below w.heap.size w w' := by
  have hn := fun (W : World) (k : Below w.heap.size w W) => nAdd (h.keep k)
  go_enter Try.func59, Try.ntmps59
  go_wp2_with ((go_at_call 20; with_reducible refine Calls_past (hn _ ?_ _) (fun z => ?_); (focus ((first | ((repeat (first | assumption | exact Below.refl _ _ | with_reducible refine past_t _ ?_ | with_reducible refine below_a _ ?_ | with_reducible refine Below.drew ?_ | with_reducible refine below_d _ ?_ | (with_reducible refine Below.setCell ?_ (by (show _ ≤ _; repeat (first | exact Nat.le_refl _ | assumption | (omega; done) | with_reducible exact le_past (Nat.le_refl _) | with_reducible refine le_past ?_ | with_reducible refine le_al ?_ | with_reducible refine le_set ?_ | with_reducible refine le_p1 ?_))) _))); done) | (with_reducible rfl; done) | omega | (rfl; done) | (simp; done) | (simp [go_sem]; done) | (simp; omega) | (simp [go_sem]; omega)); done))))
  go_ret2
  exact ⟨rfl, by (repeat (first | assumption | exact Below.refl _ _ | with_reducible refine past_t _ ?_ | with_reducible refine below_a _ ?_ | with_reducible refine Below.drew ?_ | with_reducible refine below_d _ ?_ | (with_reducible refine Below.setCell ?_ (by (show _ ≤ _; repeat (first | exact Nat.le_refl _ | assumption | (omega; done) | with_reducible exact le_past (Nat.le_refl _) | with_reducible refine le_past ?_ | with_reducible refine le_al ?_ | with_reducible refine le_set ?_ | with_reducible refine le_p1 ?_))) _)))⟩
theorem n1 {p : Option Addr} {w : World} (h : NU p w) (a b : Int) (v1 v2 : Value) (is : Bool) : Calls Try.prog 59 #[.pointer p, actV 1 a b v1 v2 is] w fun e w' => e = .returned (.tuple #[.int .i64 0, .int .i64 0]) ∧ Below w.heap.size w w' := by
  have hn := fun (W : World) (k : Below w.heap.size w W) => nMul (h.keep k)
  go_enter Try.func59, Try.ntmps59
  go_wp2_with ((go_at_call 69; with_reducible refine Calls_past (hn _ ?_ _) (fun z => ?_); (focus ((first | ((repeat (first | assumption | exact Below.refl _ _ | with_reducible refine past_t _ ?_ | with_reducible refine below_a _ ?_ | with_reducible refine Below.drew ?_ | with_reducible refine below_d _ ?_ | (with_reducible refine Below.setCell ?_ (by (show _ ≤ _; repeat (first | exact Nat.le_refl _ | assumption | (omega; done) | with_reducible exact le_past (Nat.le_refl _) | with_reducible refine le_past ?_ | with_reducible refine le_al ?_ | with_reducible refine le_set ?_ | with_reducible refine le_p1 ?_))) _))); done) | (with_reducible rfl; done) | omega | (rfl; done) | (simp; done) | (simp [go_sem]; done) | (simp; omega) | (simp [go_sem]; omega)); done))))
  go_ret2
  exact ⟨rfl, by (repeat (first | assumption | exact Below.refl _ _ | with_reducible refine past_t _ ?_ | with_reducible refine below_a _ ?_ | with_reducible refine Below.drew ?_ | with_reducible refine below_d _ ?_ | (with_reducible refine Below.setCell ?_ (by (show _ ≤ _; repeat (first | exact Nat.le_refl _ | assumption | (omega; done) | with_reducible exact le_past (Nat.le_refl _) | with_reducible refine le_past ?_ | with_reducible refine le_al ?_ | with_reducible refine le_set ?_ | with_reducible refine le_p1 ?_))) _)))⟩
theorem n2 {p : Option Addr} {w : World} (h : NU p w) (a b : Int) (v1 v2 : Value) (is : Bool) : Calls Try.prog 59 #[.pointer p, actV 2 a b v1 v2 is] w fun e w' => e = .returned (.tuple #[.int .i64 0, .int .i64 0]) ∧ Below w.heap.size w w' := by
  have hn := fun (W : World) (k : Below w.heap.size w W) => nSub (h.keep k)
  go_enter Try.func59, Try.ntmps59
  go_wp2_with ((go_at_call 67; with_reducible refine Calls_past (hn _ ?_ _ _) (fun z => ?_); (focus ((first | ((repeat (first | assumption | exact Below.refl _ _ | with_reducible refine past_t _ ?_ | with_reducible refine below_a _ ?_ | with_reducible refine Below.drew ?_ | with_reducible refine below_d _ ?_ | (with_reducible refine Below.setCell ?_ (by (show _ ≤ _; repeat (first | exact Nat.le_refl _ | assumption | (omega; done) | with_reducible exact le_past (Nat.le_refl _) | with_reducible refine le_past ?_ | with_reducible refine le_al ?_ | with_reducible refine le_set ?_ | with_reducible refine le_p1 ?_))) _))); done) | (with_reducible rfl; done) | omega | (rfl; done) | (simp; done) | (simp [go_sem]; done) | (simp; omega) | (simp [go_sem]; omega)); done))))
  go_ret2
  exact ⟨rfl, by (repeat (first | assumption | exact Below.refl _ _ | with_reducible refine past_t _ ?_ | with_reducible refine below_a _ ?_ | with_reducible refine Below.drew ?_ | with_reducible refine below_d _ ?_ | (with_reducible refine Below.setCell ?_ (by (show _ ≤ _; repeat (first | exact Nat.le_refl _ | assumption | (omega; done) | with_reducible exact le_past (Nat.le_refl _) | with_reducible refine le_past ?_ | with_reducible refine le_al ?_ | with_reducible refine le_set ?_ | with_reducible refine le_p1 ?_))) _)))⟩
theorem n3 {p : Option Addr} {w : World} (h : NU p w) (a b : Int) (v1 v2 : Value) (is : Bool) : Calls Try.prog 59 #[.pointer p, actV 3 a b v1 v2 is] w fun e w' => e = .returned (.tuple #[.int .i64 0, .int .i64 0]) ∧ Below w.heap.size w w' := by
  have hn := fun (W : World) (k : Below w.heap.size w W) => nDiv (h.keep k)
  go_enter Try.func59, Try.ntmps59
  go_wp2_with ((go_at_call 94; with_reducible refine Calls_past (hn _ ?_ _ _) (fun z => ?_); (focus ((first | ((repeat (first | assumption | exact Below.refl _ _ | with_reducible refine past_t _ ?_ | with_reducible refine below_a _ ?_ | with_reducible refine Below.drew ?_ | with_reducible refine below_d _ ?_ | (with_reducible refine Below.setCell ?_ (by (show _ ≤ _; repeat (first | exact Nat.le_refl _ | assumption | (omega; done) | with_reducible exact le_past (Nat.le_refl _) | with_reducible refine le_past ?_ | with_reducible refine le_al ?_ | with_reducible refine le_set ?_ | with_reducible refine le_p1 ?_))) _))); done) | (with_reducible rfl; done) | omega | (rfl; done) | (simp; done) | (simp [go_sem]; done) | (simp; omega) | (simp [go_sem]; omega)); done))))
  go_ret2
  exact ⟨rfl, by (repeat (first | assumption | exact Below.refl _ _ | with_reducible refine past_t _ ?_ | with_reducible refine below_a _ ?_ | with_reducible refine Below.drew ?_ | with_reducible refine below_d _ ?_ | (with_reducible refine Below.setCell ?_ (by (show _ ≤ _; repeat (first | exact Nat.le_refl _ | assumption | (omega; done) | with_reducible exact le_past (Nat.le_refl _) | with_reducible refine le_past ?_ | with_reducible refine le_al ?_ | with_reducible refine le_set ?_ | with_reducible refine le_p1 ?_))) _)))⟩
theorem n4 {p : Option Addr} {w : World} (h : NU p w) (a b : Int) (v1 v2 : Value) (is : Bool) : Calls Try.prog 59 #[.pointer p, actV 4 a b v1 v2 is] w fun e w' => e = .returned (.tuple #[.int .i64 0, .int .i64 0]) ∧ Below w.heap.size w w' := by
  have hn := fun (W : World) (k : Below w.heap.size w W) => nHalf (h.keep k)
  go_enter Try.func59, Try.ntmps59
  go_wp2_with ((go_at_call 95; with_reducible refine Calls_past (hn _ ?_ _ _) (fun z => ?_); (focus ((first | ((repeat (first | assumption | exact Below.refl _ _ | with_reducible refine past_t _ ?_ | with_reducible refine below_a _ ?_ | with_reducible refine Below.drew ?_ | with_reducible refine below_d _ ?_ | (with_reducible refine Below.setCell ?_ (by (show _ ≤ _; repeat (first | exact Nat.le_refl _ | assumption | (omega; done) | with_reducible exact le_past (Nat.le_refl _) | with_reducible refine le_past ?_ | with_reducible refine le_al ?_ | with_reducible refine le_set ?_ | with_reducible refine le_p1 ?_))) _))); done) | (with_reducible rfl; done) | omega | (rfl; done) | (simp; done) | (simp [go_sem]; done) | (simp; omega) | (simp [go_sem]; omega)); done))))
  go_ret2
  exact ⟨rfl, by (repeat (first | assumption | exact Below.refl _ _ | with_reducible refine past_t _ ?_ | with_reducible refine below_a _ ?_ | with_reducible refine Below.drew ?_ | with_reducible refine below_d _ ?_ | (with_reducible refine Below.setCell ?_ (by (show _ ≤ _; repeat (first | exact Nat.le_refl _ | assumption | (omega; done) | with_reducible exact le_past (Nat.le_refl _) | with_reducible refine le_past ?_ | with_reducible refine le_al ?_ | with_reducible refine le_set ?_ | with_reducible refine le_p1 ?_))) _)))⟩
theorem n5 {p : Option Addr} {w : World} (h : NU p w) (a b : Int) (v1 v2 : Value) (is : Bool) : Calls Try.prog 59 #[.pointer p, actV 5 a b v1 v2 is] w fun e w' => e = .returned (.tuple #[.int .i64 0, .int .i64 0]) ∧ Below w.heap.size w w' := by
  have hn := fun (W : World) (k : Below w.heap.size w W) => nSqrt (h.keep k)
  go_enter Try.func59, Try.ntmps59
  go_wp2_with ((go_at_call 96; with_reducible refine Calls_past (hn _ ?_ _) (fun z => ?_); (focus ((first | ((repeat (first | assumption | exact Below.refl _ _ | with_reducible refine past_t _ ?_ | with_reducible refine below_a _ ?_ | with_reducible refine Below.drew ?_ | with_reducible refine below_d _ ?_ | (with_reducible refine Below.setCell ?_ (by (show _ ≤ _; repeat (first | exact Nat.le_refl _ | assumption | (omega; done) | with_reducible exact le_past (Nat.le_refl _) | with_reducible refine le_past ?_ | with_reducible refine le_al ?_ | with_reducible refine le_set ?_ | with_reducible refine le_p1 ?_))) _))); done) | (with_reducible rfl; done) | omega | (rfl; done) | (simp; done) | (simp [go_sem]; done) | (simp; omega) | (simp [go_sem]; omega)); done))))
  go_ret2
  exact ⟨rfl, by (repeat (first | assumption | exact Below.refl _ _ | with_reducible refine past_t _ ?_ | with_reducible refine below_a _ ?_ | with_reducible refine Below.drew ?_ | with_reducible refine below_d _ ?_ | (with_reducible refine Below.setCell ?_ (by (show _ ≤ _; repeat (first | exact Nat.le_refl _ | assumption | (omega; done) | with_reducible exact le_past (Nat.le_refl _) | with_reducible refine le_past ?_ | with_reducible refine le_al ?_ | with_reducible refine le_set ?_ | with_reducible refine le_p1 ?_))) _)))⟩
theorem n6 {p : Option Addr} {w : World} (h : NU p w) (a b : Int) (v1 v2 : Value) (is : Bool) : Calls Try.prog 59 #[.pointer p, actV 6 a b v1 v2 is] w fun e w' => e = .returned (.tuple #[.int .i64 0, .int .i64 0]) ∧ Below w.heap.size w w' := by
  have hn := fun (W : World) (k : Below w.heap.size w W) => nWhole (h.keep k)
  go_enter Try.func59, Try.ntmps59
  go_wp2_with ((go_at_call 97; with_reducible refine Calls_past (hn _ ?_ _) (fun z => ?_); (focus ((first | ((repeat (first | assumption | exact Below.refl _ _ | with_reducible refine past_t _ ?_ | with_reducible refine below_a _ ?_ | with_reducible refine Below.drew ?_ | with_reducible refine below_d _ ?_ | (with_reducible refine Below.setCell ?_ (by (show _ ≤ _; repeat (first | exact Nat.le_refl _ | assumption | (omega; done) | with_reducible exact le_past (Nat.le_refl _) | with_reducible refine le_past ?_ | with_reducible refine le_al ?_ | with_reducible refine le_set ?_ | with_reducible refine le_p1 ?_))) _))); done) | (with_reducible rfl; done) | omega | (rfl; done) | (simp; done) | (simp [go_sem]; done) | (simp; omega) | (simp [go_sem]; omega)); done))))
  go_ret2
  exact ⟨rfl, by (repeat (first | assumption | exact Below.refl _ _ | with_reducible refine past_t _ ?_ | with_reducible refine below_a _ ?_ | with_reducible refine Below.drew ?_ | with_reducible refine below_d _ ?_ | (with_reducible refine Below.setCell ?_ (by (show _ ≤ _; repeat (first | exact Nat.le_refl _ | assumption | (omega; done) | with_reducible exact le_past (Nat.le_refl _) | with_reducible refine le_past ?_ | with_reducible refine le_al ?_ | with_reducible refine le_set ?_ | with_reducible refine le_p1 ?_))) _)))⟩
theorem n7 {p : Option Addr} {w : World} (h : NU p w) (a b : Int) (v1 v2 : Value) (is : Bool) : Calls Try.prog 59 #[.pointer p, actV 7 a b v1 v2 is] w fun e w' => e = .returned (.tuple #[.int .i64 0, .int .i64 1]) ∧ Below w.heap.size w w' := by
  have hn := fun (W : World) (k : Below w.heap.size w W) => nDot (h.keep k)
  go_enter Try.func59, Try.ntmps59
  go_wp2_with ((go_at_call 65; with_reducible refine Calls_past (hn _ ?_ _ _) (fun z => ?_); (focus ((first | ((repeat (first | assumption | exact Below.refl _ _ | with_reducible refine past_t _ ?_ | with_reducible refine below_a _ ?_ | with_reducible refine Below.drew ?_ | with_reducible refine below_d _ ?_ | (with_reducible refine Below.setCell ?_ (by (show _ ≤ _; repeat (first | exact Nat.le_refl _ | assumption | (omega; done) | with_reducible exact le_past (Nat.le_refl _) | with_reducible refine le_past ?_ | with_reducible refine le_al ?_ | with_reducible refine le_set ?_ | with_reducible refine le_p1 ?_))) _))); done) | (with_reducible rfl; done) | omega | (rfl; done) | (simp; done) | (simp [go_sem]; done) | (simp; omega) | (simp [go_sem]; omega)); done))))
  go_ret2
  exact ⟨rfl, by (repeat (first | assumption | exact Below.refl _ _ | with_reducible refine past_t _ ?_ | with_reducible refine below_a _ ?_ | with_reducible refine Below.drew ?_ | with_reducible refine below_d _ ?_ | (with_reducible refine Below.setCell ?_ (by (show _ ≤ _; repeat (first | exact Nat.le_refl _ | assumption | (omega; done) | with_reducible exact le_past (Nat.le_refl _) | with_reducible refine le_past ?_ | with_reducible refine le_al ?_ | with_reducible refine le_set ?_ | with_reducible refine le_p1 ?_))) _)))⟩
theorem nFSet {B : Nat} {i : Bool} {w : World} (c0 : w.cell? ⟨B, 0, none⟩ = some (.bool i)) (f0 : w.frozen? ⟨B, 0, none⟩ = false) (b : Bool) :
    Calls Try.prog 61 #[UP B, .bool b] w fun e w' => e = .returned (.tuple #[]) ∧ Below (w.setCell ⟨B, 0, none⟩ (.bool (i || b))).heap.size (w.setCell ⟨B, 0, none⟩ (.bool (i || b))) w' := by
  cases b
  · have e : w.setCell ⟨B, 0, none⟩ (.bool (i || false)) = w := by rw [Bool.or_false]; exact set_self w B 0 _ c0
    rw [e]
    clear e
    go_enter Try.func61, Try.ntmps61
    go_wp2_with fail
    go_end0
    exact ⟨rfl, Below.refl _ _⟩
  · rw [Bool.or_true]
    go_enter Try.func61, Try.ntmps61
    go_wp2_with fail
    go_end0
    exact ⟨rfl, Below.refl _ _⟩
theorem nFClear {B : Nat} {i : Bool} {w : World} (c0 : w.cell? ⟨B, 0, none⟩ = some (.bool i)) (f0 : w.frozen? ⟨B, 0, none⟩ = false) :
    Calls Try.prog 62 #[UP B] w fun e w' => e = .returned (.tuple #[]) ∧ Below (w.setCell ⟨B, 0, none⟩ (.bool false)).heap.size (w.setCell ⟨B, 0, none⟩ (.bool false)) w' := by
  go_enter Try.func62, Try.ntmps62
  go_wp2_with fail
  go_end0
  exact ⟨rfl, Below.refl _ _⟩
theorem lift_set {a : Addr} {x : Value} {v v' w' : World} (hv : Below v.heap.size v v') (h : Below (v'.setCell a x).heap.size (v'.setCell a x) w') : Below (v.setCell a x).heap.size (v.setCell a x) w' := by
  have h1 := below_set hv a x
  have s1 := hv.size
  have e1 : (v.setCell a x).heap.size = v.heap.size := by simp [World.setCell]
  have e2 : (v'.setCell a x).heap.size = v'.heap.size := by simp [World.setCell]
  rw [e2] at h
  rw [e1] at h1 ⊢
  exact h1.trans (h.mono s1)
theorem n8 {B : Nat} {i : Bool} {w : World} (c0 : w.cell? ⟨B, 0, none⟩ = some (.bool i)) (f0 : w.frozen? ⟨B, 0, none⟩ = false) (a b : Int) (v1 v2 : Value) (is : Bool) :
    Calls Try.prog 59 #[UP B, actV 8 a b v1 v2 is] w fun e w' => e = .returned (.tuple #[.int .i64 0, .int .i64 0]) ∧ ∃ q : Bool, Below (w.setCell ⟨B, 0, none⟩ (.bool q)).heap.size (w.setCell ⟨B, 0, none⟩ (.bool q)) w' := by
  have hb := World.block_lt_of_cell? w _ c0
  have hn := fun (W : World) (k : Below w.heap.size w W) => (nFSet ((k.cell (p := ⟨B, 0, none⟩) hb).trans c0) ((k.frozen (p := ⟨B, 0, none⟩) hb).trans f0) is).mono (fun e w' ⟨h1, h2⟩ => (⟨h1, lift_set k h2⟩ : e = Ending.returned (.tuple #[]) ∧ Below (w.setCell ⟨B, 0, none⟩ (.bool (i || is))).heap.size (w.setCell ⟨B, 0, none⟩ (.bool (i || is))) w'))
  go_enter Try.func59, Try.ntmps59
  go_wp2_with fail
  (first | refine region_past2_tail 5 (by kernel_rfl) (by kernel_rfl) ?_ | refine region_past_tail 5 (by kernel_rfl) (by kernel_rfl) ?_); simp only [List.take_succ_cons, List.take_zero, List.drop_succ_cons, List.drop_zero]
  repeat (go_big_quiet_step (fail))
  refine wpQuiet_nil ?_; rintro _ ⟨y, rfl⟩
  go_wp2_with ((go_at_call 61; with_reducible refine Calls_to0 (hn _ ?_) (fun z => ?_); (focus ((first | ((repeat (first | assumption | exact Below.refl _ _ | with_reducible refine past_t _ ?_ | with_reducible refine below_a _ ?_ | with_reducible refine Below.drew ?_ | with_reducible refine below_d _ ?_ | (with_reducible refine Below.setCell ?_ (by (show _ ≤ _; repeat (first | exact Nat.le_refl _ | assumption | (omega; done) | with_reducible exact le_past (Nat.le_refl _) | with_reducible refine le_past ?_ | with_reducible refine le_al ?_ | with_reducible refine le_set ?_ | with_reducible refine le_p1 ?_))) _))); done) | (with_reducible rfl; done) | omega | (rfl; done) | (simp; done) | (simp [go_sem]; done) | (simp; omega) | (simp [go_sem]; omega)); done))))
  go_ret2
  exact ⟨rfl, _, past_below _ _⟩
theorem n9 {B : Nat} {i : Bool} {w : World} (c0 : w.cell? ⟨B, 0, none⟩ = some (.bool i)) (f0 : w.frozen? ⟨B, 0, none⟩ = false) (a b : Int) (v1 v2 : Value) (is : Bool) :
    Calls Try.prog 59 #[UP B, actV 9 a b v1 v2 is] w fun e w' => e = .returned (.tuple #[.int .i64 0, .int .i64 0]) ∧ ∃ q : Bool, Below (w.setCell ⟨B, 0, none⟩ (.bool q)).heap.size (w.setCell ⟨B, 0, none⟩ (.bool q)) w' := by
  have hb := World.block_lt_of_cell? w _ c0
  have hn := fun (W : World) (k : Below w.heap.size w W) => (nFClear ((k.cell (p := ⟨B, 0, none⟩) hb).trans c0) ((k.frozen (p := ⟨B, 0, none⟩) hb).trans f0)).mono (fun e w' ⟨h1, h2⟩ => (⟨h1, lift_set k h2⟩ : e = Ending.returned (.tuple #[]) ∧ Below (w.setCell ⟨B, 0, none⟩ (.bool false)).heap.size (w.setCell ⟨B, 0, none⟩ (.bool false)) w'))
  go_enter Try.func59, Try.ntmps59
  go_wp2_with ((go_at_call 62; with_reducible refine Calls_to0 (hn _ ?_) (fun z => ?_); (focus ((first | ((repeat (first | assumption | exact Below.refl _ _ | with_reducible refine past_t _ ?_ | with_reducible refine below_a _ ?_ | with_reducible refine Below.drew ?_ | with_reducible refine below_d _ ?_ | (with_reducible refine Below.setCell ?_ (by (show _ ≤ _; repeat (first | exact Nat.le_refl _ | assumption | (omega; done) | with_reducible exact le_past (Nat.le_refl _) | with_reducible refine le_past ?_ | with_reducible refine le_al ?_ | with_reducible refine le_set ?_ | with_reducible refine le_p1 ?_))) _))); done) | (with_reducible rfl; done) | omega | (rfl; done) | (simp; done) | (simp [go_sem]; done) | (simp; omega) | (simp [go_sem]; omega)); done))))
  go_ret2
  exact ⟨rfl, _, past_below _ _⟩
def noErr (kd : Int) : Int := if kd = 7 then 1 else 0
theorem nAct {p : Option Addr} {W : World} (h : NU p W) (x : ActX) (hk : x.kd ≠ 8 ∧ x.kd ≠ 9) :
    Calls Try.prog 59 #[.pointer p, x.val] W fun e w' => e = .returned (.tuple #[.int .i64 0, .int .i64 (noErr x.kd)]) ∧ Below W.heap.size W w' := by
  obtain ⟨kd, a, b, l, cl, L, k, ck, K, is⟩ := x
  simp only at hk ⊢
  by_cases h0 : kd = 0
  · subst h0
    exact n0 h a b _ _ is
  by_cases h1 : kd = 1
  · subst h1
    exact n1 h a b _ _ is
  by_cases h2 : kd = 2
  · subst h2
    exact n2 h a b _ _ is
  by_cases h3 : kd = 3
  · subst h3
    exact n3 h a b _ _ is
  by_cases h4 : kd = 4
  · subst h4
    exact n4 h a b _ _ is
  by_cases h5 : kd = 5
  · subst h5
    exact n5 h a b _ _ is
  by_cases h6 : kd = 6
  · subst h6
    exact n6 h a b _ _ is
  by_cases h7 : kd = 7
  · subst h7
    exact n7 h a b _ _ is
  have e : noErr kd = 0 := by unfold noErr; rw [if_neg h7]
  rw [e]
  exact aElse (.pointer p) kd a b _ _ is (by omega) W
/-- A world, and a flag. -/
structure FlagW where
  z : World
  q : Bool
instance : Nonempty FlagW := ⟨⟨Classical.choice inferInstance, false⟩⟩
/-- The worlds in which such a unit's flag may have been written. -/
noncomputable abbrev SetB (U : Nat) (W : World) (y : FlagW) : World := past (W.setCell ⟨U, 0, none⟩ (.bool y.q)) y.z
theorem setB_of {U : Nat} {W w' : World} {q : Bool} (h : Below (W.setCell ⟨U, 0, none⟩ (.bool q)).heap.size (W.setCell ⟨U, 0, none⟩ (.bool q)) w') : ∃ y, w' = SetB U W y := ⟨⟨w', q⟩, past_of h⟩
theorem nActS {U : Nat} {i : Bool} {W : World} (c0 : W.cell? ⟨U, 0, none⟩ = some (.bool i)) (c2 : W.cell? ⟨U, 2, none⟩ = some (.bool false)) (f0 : W.frozen? ⟨U, 0, none⟩ = false) (x : ActX) (y : FlagW) :
    Calls Try.prog 59 #[UP U, x.val] (SetB U W y) fun e w' => e = .returned (.tuple #[.int .i64 0, .int .i64 (noErr x.kd)]) ∧ ∃ y', w' = SetB U W y' := by
  obtain ⟨z, q⟩ := y
  have hl := World.block_lt_of_cell? W _ c0
  have es : (W.setCell ⟨U, 0, none⟩ (.bool q)).heap.size = W.heap.size := by simp [World.setCell]
  have d0 : (W.setCell ⟨U, 0, none⟩ (.bool q)).cell? ⟨U, 0, none⟩ = some (.bool q) := World.cell?_setCell_same _ _ _ c0
  have d2 : (W.setCell ⟨U, 0, none⟩ (.bool q)).cell? ⟨U, 2, none⟩ = some (.bool false) := by rw [World.cell?_setCell_other _ _ _ _ (by simp)]; exact c2
  have g0 : (W.setCell ⟨U, 0, none⟩ (.bool q)).frozen? ⟨U, 0, none⟩ = false := by rw [World.frozen?_setCell]; exact f0
  have kp := past_below (W.setCell ⟨U, 0, none⟩ (.bool q)) z
  have d0 := (kp.cell (p := ⟨U, 0, none⟩) (by rw [es]; exact hl)).trans d0
  have d2 := (kp.cell (p := ⟨U, 2, none⟩) (by rw [es]; exact hl)).trans d2
  have g0 := (kp.frozen (p := ⟨U, 0, none⟩) (by rw [es]; exact hl)).trans g0
  have fin : ∀ q' w', Below ((SetB U W ⟨z, q⟩).setCell ⟨U, 0, none⟩ (.bool q')).heap.size ((SetB U W ⟨z, q⟩).setCell ⟨U, 0, none⟩ (.bool q')) w' → ∃ y', w' = SetB U W y' := by
    intro q' w' h
    have := lift_set kp h
    rw [set_set] at this
    exact setB_of this
  by_cases hk : x.kd = 8 ∨ x.kd = 9
  · obtain ⟨kd, a, b, l, cl, L, k, ck, K, is⟩ := x
    simp only at hk ⊢
    rcases hk with rfl | rfl
    · exact (n8 d0 g0 a b _ _ is).mono fun e w' ⟨h1, q', h2⟩ => ⟨h1, fin q' w' h2⟩
    · exact (n9 d0 g0 a b _ _ is).mono fun e w' ⟨h1, q', h2⟩ => ⟨h1, fin q' w' h2⟩
  · exact (nAct (.inr ⟨U, rfl, d2⟩) x ⟨fun e => hk (.inl e), fun e => hk (.inr e)⟩).mono fun e w' ⟨h1, h2⟩ => ⟨h1, setB_of (kp.trans (h2.mono (by rw [es]; have := kp.size; rw [es] at this; exact this)))⟩
theorem region_setB {P : Program} {id : Nat} {Q : Exit → Act → World → Prop} {a : Act} {U : Nat} {i : Bool} {W x : World} {l : List Oper} (c0 : W.cell? ⟨U, 0, none⟩ = some (.bool i)) (hm : P.follows .mixedOrders = true) (hB : Region.lexB .any l.toArray = true)
    (h : wpQuiet P l.toArray (fun w' => ∃ y : FlagW, w' = past (W.setCell ⟨U, 0, none⟩ (.bool y.q)) y.z) (fun a' => ∀ w', (∃ y : FlagW, w' = past (W.setCell ⟨U, 0, none⟩ (.bool y.q)) y.z) → Q .normal a' w') l a) : (Code.region id l.toArray true).wp P Q a (past W x) :=
  wp_region_quiet (C := fun w' => ∃ y : FlagW, w' = past (W.setCell ⟨U, 0, none⟩ (.bool y.q)) y.z) hm hB ⟨⟨(past W x).drew, i⟩, by
    show _ = past (W.setCell ⟨U, 0, none⟩ (.bool i)) _
    rw [set_self W U 0 _ c0]
    exact past_of ((past_below W x).drew)⟩ (by simpa using h)
theorem zSet (b : Bool) (w : World) : Calls Try.prog 61 #[.pointer none, .bool b] w fun e w' => e = .returned (.tuple #[]) ∧ Below w.heap.size w w' := by
  go_enter Try.func61, Try.ntmps61
  go_wp2_with fail
  go_end0
  exact ⟨rfl, Below.refl _ _⟩
theorem zClear (w : World) : Calls Try.prog 62 #[.pointer none] w fun e w' => e = .returned (.tuple #[]) ∧ Below w.heap.size w w' := by
  go_enter Try.func62, Try.ntmps62
  go_wp2_with fail
  go_end0
  exact ⟨rfl, Below.refl _ _⟩
theorem zCut (w : World) : Calls Try.prog 21 #[.pointer none] w fun e w' => e = .returned (.bool false) ∧ Below w.heap.size w w' := by
  go_enter Try.func21, Try.ntmps21
  go_wp2_with fail
  go_ret
  exact ⟨rfl, Below.refl _ _⟩
end Go.Proofs.Ytfhiodclbabdkaa
