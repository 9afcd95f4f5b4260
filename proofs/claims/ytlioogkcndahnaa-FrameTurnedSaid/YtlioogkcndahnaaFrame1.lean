/- Package frame and its reference: the table, the sum, a number's four bytes. -/
import Derived.Test.YtlioogkcndahnaaCrc
import Derived.Test.YtlioogkcndahnaaMem
import Derived.Deep.LoopGhost
import Derived.Deep.DeepCutAuto
import Derived.Deep.QuietTactic
import Derived.IntWalk
import Derived.Deep.MidRow
import Derived.Laws.Rows
namespace Go.Proofs.Ytlioogkcndahnaa
set_option linter.unusedVariables false
open Go.RowKit
/-- A block that is known whole. -/
def Blk (w : World) (g : Nat) (t : TypeId) (cs : Array Value) : Prop := w.heap[g]? = some (.cells cs t (0, 0))
theorem Blk.lt {w : World} {g : Nat} {t : TypeId} {cs : Array Value} (h : Blk w g t cs) : g < w.heap.size := (Array.getElem?_eq_some_iff.1 h).1
theorem Blk.cell {w : World} {g : Nat} {t : TypeId} {cs : Array Value} (h : Blk w g t cs) (i : Nat) : w.cell? ⟨g, i, none⟩ = cs[i]? := cell_of_row w g i cs t (0, 0) h
theorem Blk.mark {w : World} {g : Nat} {t : TypeId} {cs : Array Value} (h : Blk w g t cs) (i : Nat) : w.frozen? ⟨g, i, none⟩ = false := by unfold Blk at h; simp [World.frozen?, h]
theorem Blk.new (w : World) (t : TypeId) (cs : Array Value) : Blk (w.alloc (.cells cs t)) w.heap.size t cs := heap_alloc_new w _
theorem Blk.keep {w v : World} {g : Nat} {t : TypeId} {cs : Array Value} (h : Blk w g t cs) (k : Below w.heap.size w v) : Blk v g t cs := (k.block g h.lt).trans h
theorem Blk.set {w : World} {g : Nat} {t : TypeId} {cs : Array Value} (h : Blk w g t cs) (i : Nat) (u : Value) : Blk (w.setCell ⟨g, i, none⟩ u) g t (cs.setIfInBounds i u) := by
  unfold Blk at h ⊢
  simp [World.setCell, Array.getElem?_modify, h]
theorem Blk.far {w : World} {g : Nat} {t : TypeId} {cs : Array Value} (h : Blk w g t cs) {b i : Nat} (hb : g ≠ b) (u : Value) : Blk (w.setCell ⟨b, i, none⟩ u) g t cs := (Below.heap_setCell w ⟨b, i, none⟩ u g hb).trans h
/-- The cells of a table. -/
def tabC (f : Nat → Nat) : Array Value := ((List.range 256).map fun i => Value.int .u32 (f i : Int)).toArray
theorem tabC_size (f : Nat → Nat) : (tabC f).size = 256 := by simp [tabC]
theorem tabC_at (f : Nat → Nat) {i : Nat} (h : i < 256) : (tabC f)[i]? = some (.int .u32 (f i : Int)) := by simp [tabC, h]
theorem tabC_set (f : Nat → Nat) (i v : Nat) : (tabC f).setIfInBounds i (.int .u32 (v : Int)) = tabC fun j => if j = i then v else f j := by
  apply Array.ext_getElem?
  intro j
  rw [Array.getElem?_setIfInBounds]
  by_cases hj : j < 256
  · by_cases e : i = j
    · subst e
      rw [if_pos rfl, if_pos (by rw [tabC_size]; exact hj), tabC_at _ hj]
      simp
    · rw [if_neg e, tabC_at _ hj, tabC_at _ hj]
      simp [Ne.symm e]
  · have h1 : (tabC f)[j]? = none := Array.getElem?_eq_none (by rw [tabC_size]; omega)
    have h2 : (tabC fun j => if j = i then v else f j)[j]? = none := Array.getElem?_eq_none (by rw [tabC_size]; omega)
    rw [h1, h2]; simp [tabC_size]; omega
theorem tabC_one (f : Nat → Nat) : ∀ v ∈ (tabC f).toList, v.oneCell' = true := by
  intro v hv
  simp [tabC] at hv
  obtain ⟨i, _, rfl⟩ := hv
  rfl
attribute [irreducible] tabC
theorem zeroTab : (Try.prog.info? 25).map (fun i => (i.zero, i.size)) = some (some (.agg (tabC fun _ => 0)), 256) := by unfold tabC; kernel_rfl
theorem below_setCells {V : World} {g : Nat} (hg : V.heap.size ≤ g) : ∀ (vs : List Value) (o : Nat) (w : World), Below V.heap.size V w → Below V.heap.size V (w.setCells g o vs)
  | [], _, _, h => h
  | v :: vs, o, w, h => below_setCells hg vs (o + 1) _ (h.setCell (by exact hg) v)
theorem far_setCells {g b : Nat} (hb : b ≠ g) : ∀ (vs : List Value) (o : Nat) (w : World), (w.setCells g o vs).heap[b]? = w.heap[b]?
  | [], _, _ => rfl
  | v :: vs, o, w => (far_setCells hb vs (o + 1) (w.setCell ⟨g, o, none⟩ v)).trans (Below.heap_setCell w ⟨g, o, none⟩ v b hb)
theorem at_setCells {g : Nat} {T : TypeId} : ∀ (vs : List Value) (o : Nat) (w : World) (cs : Array Value), Blk w g T cs →
    ∃ ds : Array Value, Blk (w.setCells g o vs) g T ds ∧ ds.size = cs.size ∧ ∀ i : Nat, i < cs.size → ds[i]? = if o ≤ i ∧ i < o + vs.length then vs[i - o]? else cs[i]?
  | [], o, w, cs, h => ⟨cs, h, rfl, fun i hi => by rw [if_neg (by simp only [List.length_nil]; omega)]⟩
  | v :: vs, o, w, cs, h => by
    obtain ⟨ds, h1, h2, h3⟩ := at_setCells vs (o + 1) (w.setCell ⟨g, o, none⟩ v) _ (h.set o v)
    refine ⟨ds, h1, by rw [h2]; simp, fun i hi => ?_⟩
    have := h3 i (by simpa using hi)
    rw [this]
    by_cases h4 : o + 1 ≤ i ∧ i < o + 1 + vs.length
    · rw [if_pos h4, if_pos (by simp; omega), show i - o = (i - (o + 1)) + 1 by omega]
      simp
    · rw [if_neg h4, Array.getElem?_setIfInBounds]
      by_cases h5 : o = i
      · subst h5; rw [if_pos rfl, if_pos hi, if_pos (by simp)]; simp
      · rw [if_neg h5, if_neg (by simp; omega)]
/-- A whole row is stored over one of the same size. -/
theorem run_store_row (P : Program) {T T' : TypeId} {g : Nat} {cs ds : Array Value} {V W : World} (hV : Below V.heap.size V W) (hg : V.heap.size ≤ g) (hb : Blk W g T' cs) (hs : ds.size = cs.size) (hi : (P.info? T).map (·.size) = some cs.size) (h1 : ∀ v ∈ ds.toList, v.oneCell' = true) :
    ∃ z, (Instr.storeAt T (.pointer (some ⟨g, 0, none⟩)) (.agg ds)).run P W = .ok () (past V z) ∧ Blk (past V z) g T' ds ∧ ∀ b, b ≠ g → (past V z).heap[b]? = W.heap[b]? := by
  have hr := run_storeAt_mid (P := P) W g 0 T ds (fun j hj => ⟨by rw [hb.cell]; simp; omega, hb.mark _⟩) (by rw [hs]; exact hi) (by have := all_oneCell_toArray h1; simpa using this)
  have e := past_of (below_setCells hg ds.toList 0 W hV)
  refine ⟨_, by rw [hr, e], ?_, fun b hb' => by rw [← e]; exact far_setCells hb' _ _ _⟩
  rw [← e]
  obtain ⟨es, k1, k2, k3⟩ := at_setCells ds.toList 0 W cs hb
  have : es = ds := by
    apply Array.ext_getElem?
    intro i
    by_cases h : i < cs.size
    · rw [k3 i h, if_pos (by simp; omega)]; simp
    · rw [Array.getElem?_eq_none (by omega), Array.getElem?_eq_none (by omega)]
  rw [this] at k1
  exact k1
theorem store_row {P : Program} {ops : Array Oper} {rest : List Oper} {op : Oper} {a : Act} {W : World} {Q : Exit → Act → World → Prop} (hgd : op.guard = none) (T : TypeId) (x y : Operand) (ho : op.op = .store T x y)
    {T' : TypeId} {g : Nat} {cs ds : Array Value} (V : World) (hx : a.eval x = .pointer (some ⟨g, 0, none⟩)) (hy : a.eval y = .agg ds) (hV : Below V.heap.size V W) (hg : V.heap.size ≤ g) (hb : Blk W g T' cs) (hs : ds.size = cs.size)
    (hi : (P.info? T).map (·.size) = some cs.size) (h1 : ∀ v ∈ ds.toList, v.oneCell' = true)
    (h : ∀ z, Blk (past V z) g T' ds → (∀ b, b ≠ g → (past V z).heap[b]? = W.heap[b]?) → wpList P ops Q rest (a.put op.dst undef) (past V z)) : wpList P ops Q (op :: rest) a W := by
  obtain ⟨z, k1, k2, k3⟩ := run_store_row P hV hg hb hs hi h1
  refine wpList_plain hgd fun _ hK => ?_
  unfold Oper.wp execOp
  simp only [ho, hx, hy, Sem.run_bind, Sem.run_pure, Result.andThen_ok, k1]
  exact hK _ _ (h z k2 k3)
theorem load_row {P : Program} {ops : Array Oper} {rest : List Oper} {op : Oper} {a : Act} {W : World} {Q : Exit → Act → World → Prop} (hgd : op.guard = none) (T : TypeId) (x : Operand) (ho : op.op = .load T x)
    {T' : TypeId} {g : Nat} {cs : Array Value} {d : TypeDesc} (hx : a.eval x = .pointer (some ⟨g, 0, none⟩)) (hu : P.underlying T = some d) (hd : (match d with | .struct _ | .array _ _ => true | _ => false) = true)
    (hi : (P.info? T).map (·.size) = some cs.size) (hb : Blk W g T' cs)
    (h : wpList P ops Q rest (a.put op.dst (.agg cs)) W) : wpList P ops Q (op :: rest) a W :=
  wpList_load_row hgd T x ho g hx T' cs (0, 0) d hb hu hd hi h
theorem alloc_row {P : Program} {ops : Array Oper} {rest : List Oper} {op : Oper} {a : Act} {W : World} {Q : Exit → Act → World → Prop} (hgd : op.guard = none) (T : TypeId) (ho : op.op = .alloc T) {cs : Array Value} {n : Nat}
    (hi : (P.info? T).map (fun i => (i.zero, i.size)) = some (some (.agg cs), n))
    (h : wpList P ops Q rest (a.put op.dst (.pointer (some ⟨W.heap.size, 0, none⟩))) (W.alloc (.cells cs T))) : wpList P ops Q (op :: rest) a W := by
  refine wpList_plain hgd fun _ hK => ?_
  cases hq : P.info? T with
  | none => simp [hq] at hi
  | some i =>
    simp only [hq, Option.map_some, Option.some.injEq, Prod.mk.injEq] at hi
    unfold Oper.wp execOp
    simp [ho, Instr.alloc, zeroValue, newVar, newRow, typeInfo, hq, hi.1, go_sem]
    exact hK _ _ h
end Go.Proofs.Ytlioogkcndahnaa
