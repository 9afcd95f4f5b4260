/- A unit in memory: what its cells hold, and the world in which two of them are set. -/
import Derived.Test.YtlhadociaekkhaaQFixP
namespace Go.Proofs.Ytlhadociaekkhaa
set_option linter.unusedVariables false
open Go.RowKit
theorem world_ext {w v : World} (h1 : w.os = v.os) (h2 : w.tape = v.tape) (h3 : w.output = v.output) (h4 : w.drawn = v.drawn) (h5 : w.heap = v.heap) : w = v := by
  cases w; cases v; simp_all
theorem set_comm (w : World) (b o p : Nat) (u v : Value) (h : o ≠ p) : (w.setCell ⟨b, o, none⟩ u).setCell ⟨b, p, none⟩ v = (w.setCell ⟨b, p, none⟩ v).setCell ⟨b, o, none⟩ u := by
  refine world_ext rfl rfl rfl rfl ?_
  apply Array.ext_getElem?
  intro k
  simp only [World.setCell, Array.getElem?_modify]
  split
  · cases w.heap[k]? with
    | none => rfl
    | some x =>
      cases x <;> simp
      exact Array.setIfInBounds_comm _ _ h
  · rfl
theorem set_self (w : World) (b o : Nat) (u : Value) (h : w.cell? ⟨b, o, none⟩ = some u) : w.setCell ⟨b, o, none⟩ u = w := by
  refine world_ext rfl rfl rfl rfl ?_
  apply Array.ext_getElem?
  intro k
  simp only [World.setCell, Array.getElem?_modify]
  split
  · rename_i e
    subst e
    unfold World.cell? at h
    simp only at h
    cases hx : w.heap[b]? with
    | none => rfl
    | some x =>
      rw [hx] at h
      cases x <;> simp at h ⊢
      rename_i c e f
      apply Array.ext_getElem?
      intro i
      rw [Array.getElem?_setIfInBounds]
      split
      · rename_i e; subst e
        split
        · exact h.symm
        · rename_i hn; rw [Array.getElem?_eq_none (by omega)] at h; cases h
      · rfl
  · rfl
theorem set_set (w : World) (b o : Nat) (u v : Value) : (w.setCell ⟨b, o, none⟩ u).setCell ⟨b, o, none⟩ v = w.setCell ⟨b, o, none⟩ v := by
  refine world_ext rfl rfl rfl rfl ?_
  apply Array.ext_getElem?
  intro k
  simp only [World.setCell, Array.getElem?_modify]
  split
  · cases w.heap[k]? with
    | none => rfl
    | some x => cases x <;> simp [Array.setIfInBounds_setIfInBounds]
  · rfl
theorem set_far (w : World) (b c o p : Nat) (u v : Value) (h : b ≠ c) : (w.setCell ⟨b, o, none⟩ u).setCell ⟨c, p, none⟩ v = (w.setCell ⟨c, p, none⟩ v).setCell ⟨b, o, none⟩ u := by
  refine world_ext rfl rfl rfl rfl ?_
  apply Array.ext_getElem?
  intro k
  simp only [World.setCell, Array.getElem?_modify]
  by_cases h1 : b = k <;> by_cases h2 : c = k <;> simp [h1, h2]
  omega
/-- The unit at block B holds: was something cut, how many operations, made. -/
structure UA (B : Nat) (i : Bool) (c : Int) (w : World) : Prop where
  c0 : w.cell? ⟨B, 0, none⟩ = some (.bool i)
  c1 : w.cell? ⟨B, 1, none⟩ = some (.int .i64 c)
  c2 : w.cell? ⟨B, 2, none⟩ = some (.bool true)
  f0 : w.frozen? ⟨B, 0, none⟩ = false
  f1 : w.frozen? ⟨B, 1, none⟩ = false
theorem UA.lt {B : Nat} {i : Bool} {c : Int} {w : World} (h : UA B i c w) : B < w.heap.size := World.block_lt_of_cell? w _ h.c0
/-- The world in which it holds that. -/
def put (B : Nat) (i : Bool) (c : Int) (w : World) : World := (w.setCell ⟨B, 0, none⟩ (.bool i)).setCell ⟨B, 1, none⟩ (.int .i64 c)
theorem put_size (B : Nat) (i : Bool) (c : Int) (w : World) : (put B i c w).heap.size = w.heap.size := by simp [put, World.setCell]
theorem put_1 {B : Nat} {i : Bool} {c : Int} {w : World} (h : UA B i c w) (d : Int) : w.setCell ⟨B, 1, none⟩ (.int .i64 d) = put B i d w := by
  unfold put; rw [set_self w B 0 _ h.c0]
theorem put_10 (B : Nat) (b : Bool) (d : Int) (w : World) : (w.setCell ⟨B, 1, none⟩ (.int .i64 d)).setCell ⟨B, 0, none⟩ (.bool b) = put B b d w := by
  unfold put; exact set_comm w B 1 0 _ _ (by omega)
theorem put_0 {B : Nat} {i : Bool} {c : Int} {w : World} (h : UA B i c w) (b : Bool) : w.setCell ⟨B, 0, none⟩ (.bool b) = put B b c w := by
  unfold put
  rw [set_comm w B 0 1 _ _ (by omega), set_self w B 1 _ h.c1]
theorem put_self {B : Nat} {i : Bool} {c : Int} {w : World} (h : UA B i c w) : put B i c w = w := by
  unfold put; rw [set_self w B 0 _ h.c0, set_self w B 1 _ h.c1]
theorem put_put (B : Nat) (i j : Bool) (c d : Int) (w : World) : put B j d (put B i c w) = put B j d w := by
  unfold put
  rw [set_comm _ B 1 0 _ _ (by omega), set_set, set_set]
theorem put_cell (B : Nat) (i : Bool) (c : Int) (w : World) (a : Addr) (h : a.block ≠ B) : (put B i c w).cell? a = w.cell? a := by
  unfold put
  rw [World.cell?_setCell_far _ _ _ _ (Ne.symm h), World.cell?_setCell_far _ _ _ _ (Ne.symm h)]
theorem put_mark (B : Nat) (i : Bool) (c : Int) (w : World) (a : Addr) : (put B i c w).frozen? a = w.frozen? a := by
  unfold put; rw [World.frozen?_setCell, World.frozen?_setCell]
theorem UA.put {B : Nat} {i : Bool} {c : Int} {w : World} (h : UA B i c w) (j : Bool) (d : Int) : UA B j d (put B j d w) := by
  have e0 : (w.setCell ⟨B, 0, none⟩ (.bool j)).cell? ⟨B, 0, none⟩ = some (.bool j) := World.cell?_setCell_same _ _ _ h.c0
  have e1 : (w.setCell ⟨B, 0, none⟩ (.bool j)).cell? ⟨B, 1, none⟩ = some (.int .i64 c) := by rw [World.cell?_setCell_other _ _ _ _ (by simp)]; exact h.c1
  have e2 : (w.setCell ⟨B, 0, none⟩ (.bool j)).cell? ⟨B, 2, none⟩ = some (.bool true) := by rw [World.cell?_setCell_other _ _ _ _ (by simp)]; exact h.c2
  refine ⟨?_, ?_, ?_, by rw [put_mark]; exact h.f0, by rw [put_mark]; exact h.f1⟩
  · unfold Proofs.Ytlhadociaekkhaa.put; rw [World.cell?_setCell_other _ _ _ _ (by simp)]; exact e0
  · unfold Proofs.Ytlhadociaekkhaa.put; exact World.cell?_setCell_same _ _ _ e1
  · unfold Proofs.Ytlhadociaekkhaa.put; rw [World.cell?_setCell_other _ _ _ _ (by simp)]; exact e2
theorem UA.keep {B : Nat} {i : Bool} {c : Int} {w v : World} (h : UA B i c w) (k : Below w.heap.size w v) : UA B i c v :=
  ⟨(k.cell h.lt).trans h.c0, (k.cell h.lt).trans h.c1, (k.cell h.lt).trans h.c2, (k.frozen h.lt).trans h.f0, (k.frozen h.lt).trans h.f1⟩
theorem below_put {w v : World} (h : Below w.heap.size w v) (B : Nat) (i : Bool) (c : Int) : Below w.heap.size (put B i c w) (put B i c v) := by
  have := below_set (below_set h ⟨B, 0, none⟩ (.bool i)) ⟨B, 1, none⟩ (.int .i64 c)
  have e : ((w.setCell ⟨B, 0, none⟩ (.bool i)).setCell ⟨B, 1, none⟩ (.int .i64 c)).heap.size = w.heap.size := put_size B i c w
  rw [e] at this; exact this
noncomputable def junkPut (w : World) (B : Nat) (i : Bool) (c : Int) : World := put B i c w
noncomputable def stuckPut (w : World) (B : Nat) (i : Bool) (c : Int) : World := put B i c w
@[go_sem] theorem size_put (B : Nat) (i : Bool) (c : Int) (w : World) : (put B i c w).heap.size = w.heap.size := put_size B i c w
attribute [go_sem] put_put
@[go_sem low] theorem cell_put (B n j : Nat) (i : Bool) (c : Int) (w : World) : (put B i c w).cell? ⟨n, j, none⟩ = if n = B then stuckCell (put B i c w) ⟨n, j, none⟩ else w.cell? ⟨n, j, none⟩ := by
  split
  · rfl
  · exact put_cell B i c w _ (by assumption)
attribute [go_sem] put_mark
@[go_sem low] theorem put_past (B : Nat) (i : Bool) (c : Int) (w x : World) : put B i c (past w x) = if B < w.heap.size then past (put B i c w) (junkPut (past w x) B i c) else past w (junkPut (past w x) B i c) := by
  unfold junkPut
  split
  · have := below_put (past_below w x) B i c
    refine past_of ?_
    rw [put_size]; exact this
  · unfold put
    exact past_of (((past_below w x).setCell (by show _ ≤ B; omega) _).setCell (by show _ ≤ B; omega) _)
theorem put_al' (B : Nat) (i : Bool) (c : Int) (w : World) (o : Obj) (h : B < w.heap.size) : put B i c (w.alloc o) = (put B i c w).alloc o := by
  unfold put
  rw [World.setCell_alloc_past _ _ _ _ h, World.setCell_alloc_past _ _ _ _ (by simpa [World.setCell] using h)]
@[go_sem low] theorem put_al (B : Nat) (i : Bool) (c : Int) (w : World) (o : Obj) : put B i c (w.alloc o) = if B < w.heap.size then (put B i c w).alloc o else stuckPut (w.alloc o) B i c := by
  split
  · exact put_al' B i c w o (by assumption)
  · rfl
@[go_sem] theorem put_lit (B : Nat) (i : Bool) (c : Int) (w : World) (x y z : Value) (T : TypeId) (h : B = w.heap.size) : put B i c (w.alloc (.cells #[x, y, z] T)) = w.alloc (.cells #[.bool i, .int .i64 c, z] T) := by
  subst h
  unfold put
  rw [World.setCell_alloc_at _ _ _ _ _ rfl, World.setCell_alloc_at _ _ _ _ _ rfl]
  rfl
@[go_sem] theorem put_drew (B : Nat) (i : Bool) (c : Int) (w : World) : put B i c w.drew = (put B i c w).drew := rfl
/-- A contract whose world is past some world P0. -/
theorem Calls_to {P : Program} {f : FuncId} {args : Array Value} {w P0 : World} {v : Value} {K : Ending → World → Prop}
    (h : Calls P f args w fun e w' => e = .returned v ∧ Below P0.heap.size P0 w') (k : ∀ x, K (.returned v) (past P0 x)) : Calls P f args w K :=
  h.mono fun e w' ⟨he, hb⟩ => by rw [he, past_of hb]; exact k w'
/-- A unit's contract, met where the unit has been set before: the same base. -/
theorem Calls_put {P : Program} {f : FuncId} {args : Array Value} {w z : World} {B : Nat} {i j : Bool} {c d : Int} {r : Value} {K : Ending → World → Prop}
    (h : Calls P f args (past (put B i c w) z) fun e w' => e = .returned r ∧ Below (put B j d (past (put B i c w) z)).heap.size (put B j d (past (put B i c w) z)) w') (k : ∀ x, K (.returned r) (past (put B j d w) x)) :
    Calls P f args (past (put B i c w) z) K :=
  h.mono fun e w' ⟨he, hb⟩ => by
    have h1 := below_put (past_below (put B i c w) z) B j d
    rw [put_put] at h1
    have s1 := (past_below (put B i c w) z).size
    rw [put_size] at hb h1 s1
    have h2 : Below w.heap.size (put B j d w) w' := h1.trans (hb.mono s1)
    have hp := past_of (w := put B j d w) (w' := w') (by rw [put_size]; exact h2)
    have hk := k w'
    rw [← hp] at hk
    rw [he]; exact hk
/-- The beginning of a walk in which a unit is set. -/
theorem start_put {B : Nat} {i : Bool} {c : Int} {w : World} (h : UA B i c w) {P : Program} {f : FuncId} {args : Array Value} {K : Ending → World → Prop}
    (g : Calls P f args (past (put B i c w) w) K) : Calls P f args w K := by
  have e : past (put B i c w) w = w := by
    rw [put_self h]; exact (past_of (Below.refl _ _)).symm
  rw [e] at g; exact g
theorem ua_past {B : Nat} {i : Bool} {c : Int} {w : World} (h : UA B i c w) (j : Bool) (d : Int) (z : World) : UA B j d (past (put B j d w) z) := (h.put j d).keep (past_below _ _)
end Go.Proofs.Ytlhadociaekkhaa
