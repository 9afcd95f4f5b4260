/- Lists of ints that are written over. -/
import Derived.Test.YtlhadociaekkhaaGreatVec3
namespace Go.Proofs.YtlhadociaekkhaaGreat
set_option linter.unusedVariables false
set_option maxRecDepth 100000
open Go.RowKit
/-- A block that is known whole. -/
def Blk (w : World) (g : Nat) (t : TypeId) (cs : Array Value) : Prop := w.heap[g]? = some (.cells cs t (0, 0))
theorem Blk.lt {w : World} {g : Nat} {t : TypeId} {cs : Array Value} (h : Blk w g t cs) : g < w.heap.size := (Array.getElem?_eq_some_iff.1 h).1
theorem Blk.cell {w : World} {g : Nat} {t : TypeId} {cs : Array Value} (h : Blk w g t cs) (i : Nat) : w.cell? ⟨g, i, none⟩ = cs[i]? := cell_of_row w g i cs t (0, 0) h
theorem Blk.mark {w : World} {g : Nat} {t : TypeId} {cs : Array Value} (h : Blk w g t cs) (i : Nat) : w.frozen? ⟨g, i, none⟩ = false := by unfold Blk at h; simp [World.frozen?, h]
theorem Blk.new (w : World) (t : TypeId) (cs : Array Value) : Blk (w.alloc (.cells cs t)) w.heap.size t cs := heap_alloc_new w _
theorem Blk.keep {w v : World} {g : Nat} {t : TypeId} {cs : Array Value} (h : Blk w g t cs) (k : Below w.heap.size w v) : Blk v g t cs := (k.block g h.lt).trans h
theorem Blk.set {w : World} {g : Nat} {t : TypeId} {cs : Array Value} (h : Blk w g t cs) (i : Nat) (u : Value) : Blk (w.setCell ⟨g, i, none⟩ u) g t (cs.setIfInBounds i u) := by
  unfold Blk at h ⊢
  simp [World.setCell, Array.getElem?_modify, h]
theorem Blk.far {w : World} {g : Nat} {t : TypeId} {cs : Array Value} (h : Blk w g t cs) {b i : Nat} (hb : g ≠ b) (u : Value) : Blk (w.setCell ⟨b, i, none⟩ u) g t cs := (Below.heap_setCell w ⟨b, i, none⟩ u g hb).trans h
theorem OwnK.some {V w : World} {E : TypeId} {k : IntKind} {A : Option Addr} {n c : Nat} {zs : List Int} (h : OwnK V w E k (.slice A n c) zs) (h0 : 0 < zs.length) :
    ∃ g, A = Option.some ⟨g, 0, none⟩ ∧ V.heap.size ≤ g ∧ g < w.heap.size ∧ n = zs.length ∧ zs.length ≤ c ∧ c ≤ 9223372036854775807 := by
  have hr := h.rs
  rcases h.2 with ⟨h1, h2⟩ | ⟨g, cap, cur, h1, hg, hh, h3, h4, h5, h6⟩
  · omega
  · obtain ⟨rfl, rfl, rfl⟩ : A = Option.some ⟨g, 0, none⟩ ∧ n = zs.length ∧ c = cap := by simpa using h1
    exact ⟨g, rfl, hg, (Array.getElem?_eq_some_iff.1 hh).1, rfl, h3, hr.top⟩
end Go.Proofs.YtlhadociaekkhaaGreat
