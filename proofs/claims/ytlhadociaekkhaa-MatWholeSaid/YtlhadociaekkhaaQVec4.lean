/- Layer 6's examples. -/
import Derived.Test.YtlhadociaekkhaaQVec3
namespace Go.Proofs.Ytlhadociaekkhaa
set_option linter.unusedVariables false
set_option maxRecDepth 100000
open Go.RowKit
theorem below_unit {w W w2 : World} {B : Nat} {j : Bool} {d : Int} (hw : Below w.heap.size w W) (hB : w.heap.size ≤ B) (hb : Below (put B j d W).heap.size (put B j d W) w2) : Below w.heap.size w w2 := by
  have h1 : Below w.heap.size w (put B j d W) := by unfold put; exact (hw.setCell (by exact hB) _).setCell (by exact hB) _
  exact h1.trans (hb.mono (by rw [put_size]; exact hw.size))
theorem iSameT {W : World} {A B : Option Addr} {n m c d : Nat} {L : List Int} (h1 : RS .i64 W A n c L) (h2 : RS .i64 W B m d L) : Calls Try.prog 21 #[.slice A n c, .slice B m d] W fun e w' => e = .returned (.bool true) ∧ Below W.heap.size W w' := by
  have := iSame h1 h2
  simpa using this
end Go.Proofs.Ytlhadociaekkhaa
