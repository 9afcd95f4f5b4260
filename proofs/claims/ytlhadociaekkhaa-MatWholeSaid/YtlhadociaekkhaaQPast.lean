/- The world behind calls that make memory alone: 'past w x'. -/
import Derived.Test.YtlhadociaekkhaaRows
import Derived.WalkKit
import Derived.WalkSpells
import Derived.WalkLawsBesides
import Derived.BigQuiet
namespace Go.Proofs.Ytlhadociaekkhaa
set_option linter.unusedVariables false
open Go.RowKit
theorem ret_ib {k : IntKind} {a b : Int} {c d : Bool} (h : a = b) (g : c = d) : Ending.returned (.tuple #[.int k a, .bool c]) = .returned (.tuple #[.int k b, .bool d]) := by rw [h, g]
open Classical in
noncomputable def past (w x : World) : World := if Below w.heap.size w x then x else w
theorem past_below (w x : World) : Below w.heap.size w (past w x) := by
  unfold past; split
  · assumption
  · exact Below.refl _ _
theorem past_of {w w' : World} (h : Below w.heap.size w w') : w' = past w w' := by unfold past; rw [if_pos h]
theorem past_size (w x : World) : w.heap.size ≤ (past w x).heap.size := (past_below w x).size
/-- What a cell holds that w did not have (never looked at). -/
noncomputable def lostCell (w x : World) (a : Addr) : Option Value := (past w x).cell? a
noncomputable def lostMark (w x : World) (a : Addr) : Bool := (past w x).frozen? a
@[go_sem low] theorem cell_past (w x : World) (a : Addr) : (past w x).cell? a = (w.cell? a).elim (lostCell w x a) some := by
  cases h : w.cell? a with
  | none => rfl
  | some u => exact ((past_below w x).cell (World.block_lt_of_cell? w a h)).trans h
@[go_sem low] theorem frozen_past (w x : World) (a : Addr) : (past w x).frozen? a = (w.cell? a).elim (lostMark w x a) fun _ => w.frozen? a := by
  cases h : w.cell? a with
  | none => rfl
  | some u => exact (past_below w x).frozen (World.block_lt_of_cell? w a h)
/-- How many blocks were made. -/
noncomputable def gap (w x : World) : Nat := (past w x).heap.size - w.heap.size
@[go_sem] theorem size_past (w x : World) : (past w x).heap.size = w.heap.size + gap w x := by
  have := (past_below w x).size
  unfold gap; omega
/-- The world behind a store (never looked at). -/
noncomputable def junkSet (w : World) (a : Addr) (v : Value) : World := w.setCell a v
theorem below_set {w v : World} (h : Below w.heap.size w v) (a : Addr) (u : Value) : Below (w.setCell a u).heap.size (w.setCell a u) (v.setCell a u) := by
  have e : (w.setCell a u).heap.size = w.heap.size := by simp [World.setCell]
  rw [e]
  refine ⟨h.os, h.tape, h.output, by simpa [World.setCell] using h.size, fun k hk => ?_⟩
  by_cases hka : k = a.block
  · subst hka
    simp only [World.setCell, Array.getElem?_modify, h.block _ hk, if_true]
  · rw [Below.heap_setCell _ _ _ _ hka, Below.heap_setCell _ _ _ _ hka, h.block k hk]
@[go_sem low] theorem set_past (w x : World) (n i : Nat) (v : Value) : (past w x).setCell ⟨n, i, none⟩ v =
    if n < w.heap.size then past (w.setCell ⟨n, i, none⟩ v) (junkSet (past w x) ⟨n, i, none⟩ v) else past w (junkSet (past w x) ⟨n, i, none⟩ v) := by
  unfold junkSet
  split
  · exact past_of (below_set (past_below w x) _ _)
  · exact past_of ((past_below w x).setCell (by show _ ≤ n; omega) _)
noncomputable def stuckSet (w : World) (a : Addr) (v : Value) : World := w.setCell a v
noncomputable def stuckCell (w : World) (a : Addr) : Option Value := w.cell? a
noncomputable def stuckMark (w : World) (a : Addr) : Bool := w.frozen? a
@[go_sem low] theorem set_al (w : World) (o : Obj) (n i : Nat) (v : Value) : (w.alloc o).setCell ⟨n, i, none⟩ v = if n < w.heap.size then (w.setCell ⟨n, i, none⟩ v).alloc o else stuckSet (w.alloc o) ⟨n, i, none⟩ v := by
  split
  · exact World.setCell_alloc_past o n i v (by assumption)
  · rfl
@[go_sem low] theorem cell_al (w : World) (o : Obj) (n i : Nat) : (w.alloc o).cell? ⟨n, i, none⟩ = (w.cell? ⟨n, i, none⟩).elim (stuckCell (w.alloc o) ⟨n, i, none⟩) some := by
  cases h : w.cell? ⟨n, i, none⟩ with
  | none => rfl
  | some u => exact (World.cell?_alloc_past o n i (World.block_lt_of_cell? w _ h)).trans h
@[go_sem low] theorem mark_al (w : World) (o : Obj) (n i : Nat) : (w.alloc o).frozen? ⟨n, i, none⟩ = (w.cell? ⟨n, i, none⟩).elim (stuckMark (w.alloc o) ⟨n, i, none⟩) fun _ => w.frozen? ⟨n, i, none⟩ := by
  cases h : w.cell? ⟨n, i, none⟩ with
  | none => rfl
  | some u => exact World.frozen?_alloc_past o n i (World.block_lt_of_cell? w _ h)
theorem cell_past_lt (w x : World) (a : Addr) (h : a.block < w.heap.size) : (past w x).cell? a = w.cell? a := (past_below w x).cell h
theorem frozen_past_lt (w x : World) (a : Addr) (h : a.block < w.heap.size) : (past w x).frozen? a = w.frozen? a := (past_below w x).frozen h
theorem past_trans {B : Nat} {w v x : World} (h : Below B w v) (hB : B ≤ v.heap.size) : Below B w (past v x) := h.trans ((past_below v x).mono hB)
theorem past_t {w v : World} (x : World) (h : Below w.heap.size w v) : Below w.heap.size w (past v x) := past_trans h h.size
theorem below_a {w v : World} (o : Obj) (h : Below w.heap.size w v) : Below w.heap.size w (v.alloc o) := h.alloc h.size o
theorem below_d {B : Nat} {w v : World} (n : Nat) (h : Below B w v) : Below B w (v.drewN n) := ⟨h.os, h.tape, h.output, h.size, h.block⟩
theorem le_past {B : Nat} {w x : World} (h : B ≤ w.heap.size) : B ≤ (past w x).heap.size := Nat.le_trans h (past_size w x)
theorem le_al {B : Nat} {w : World} {o : Obj} (h : B ≤ w.heap.size) : B ≤ (w.alloc o).heap.size := by simp; omega
theorem le_set {B : Nat} {w : World} {a : Addr} {v : Value} (h : B ≤ w.heap.size) : B ≤ (w.setCell a v).heap.size := by simpa [World.setCell] using h
theorem le_p1 {B n : Nat} (h : B ≤ n) : B ≤ n + 1 := by omega
/-- A contract, met in a walk. -/
theorem Calls_past {P : Program} {f : FuncId} {args : Array Value} {w : World} {v : Value} {K : Ending → World → Prop}
    (h : Calls P f args w fun e w' => e = .returned v ∧ Below w.heap.size w w') (k : ∀ x, K (.returned v) (past w x)) : Calls P f args w K :=
  h.mono fun e w' ⟨he, hb⟩ => by rw [he, past_of hb]; exact k w'
/-- A contract, met in a world that is already past w: the same base. -/
theorem Calls_past2 {P : Program} {f : FuncId} {args : Array Value} {w x : World} {v : Value} {K : Ending → World → Prop}
    (h : Calls P f args (past w x) fun e w' => e = .returned v ∧ Below (past w x).heap.size (past w x) w') (k : ∀ x, K (.returned v) (past w x)) : Calls P f args (past w x) K :=
  h.mono fun e w' ⟨he, hb⟩ => by
    have := (past_below w x).trans (hb.mono (past_size w x))
    rw [he, past_of this]; exact k w'
/-- A contract, met in a region that draws its order. -/
theorem Calls_pastq {P : Program} {f : FuncId} {args : Array Value} {w x : World} {v : Value}
    (h : Calls P f args (past w x) fun e w' => e = .returned v ∧ Below (past w x).heap.size (past w x) w') : Calls P f args (past w x) fun e w'' => e = .returned v ∧ ∃ y, w'' = past w y :=
  Calls_past2 h fun y => ⟨rfl, y, rfl⟩
/-- A region that draws its order, of loads, sums and calls that make memory alone: one walk. -/
theorem region_past {P : Program} {id : Nat} {Q : Exit → Act → World → Prop} {a : Act} {w : World} {l : List Oper} (hm : P.follows .mixedOrders = true) (hB : Region.lexB .any l.toArray = true)
    (h : wpQuiet P l.toArray (fun w' => ∃ x, w' = past w x) (fun a' => ∀ w', (∃ x, w' = past w x) → Q .normal a' w') l a) : (Code.region id l.toArray true).wp P Q a w :=
  wp_region_quiet (C := fun w' => ∃ x, w' = past w x) hm hB ⟨_, past_of ((Below.refl _ _).drew)⟩ (by simpa using h)
/-- The same, from a world that is past w already. -/
theorem region_past2 {P : Program} {id : Nat} {Q : Exit → Act → World → Prop} {a : Act} {w x : World} {l : List Oper} (hm : P.follows .mixedOrders = true) (hB : Region.lexB .any l.toArray = true)
    (h : wpQuiet P l.toArray (fun w' => ∃ x, w' = past w x) (fun a' => ∀ w', (∃ x, w' = past w x) → Q .normal a' w') l a) : (Code.region id l.toArray true).wp P Q a (past w x) :=
  wp_region_quiet (C := fun w' => ∃ x, w' = past w x) hm hB ⟨_, past_of ((past_below w x).drew)⟩ (by simpa using h)
end Go.Proofs.Ytlhadociaekkhaa
