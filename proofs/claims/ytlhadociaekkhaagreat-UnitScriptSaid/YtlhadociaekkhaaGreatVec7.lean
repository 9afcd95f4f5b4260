/- Lists, by a unit that is nil, or that nobody made. -/
import Derived.Test.YtlhadociaekkhaaGreatVec6
namespace Go.Proofs.YtlhadociaekkhaaGreat
set_option linter.unusedVariables false
set_option maxRecDepth 100000
open Go.RowKit
/-- A unit that reckons nothing. -/
def NU (p : Option Addr) (w : World) : Prop := p = none ∨ ∃ B, p = some ⟨B, 0, none⟩ ∧ w.cell? ⟨B, 2, none⟩ = some (.bool false)
theorem NU.keep {p : Option Addr} {w v : World} (h : NU p w) (k : Below w.heap.size w v) : NU p v := by
  rcases h with h | ⟨B, e, c⟩
  · exact .inl h
  · exact .inr ⟨B, e, (k.cell (p := ⟨B, 2, none⟩) (World.block_lt_of_cell? w _ c)).trans c⟩
theorem nNone {p : Option Addr} {w : World} (h : NU p w) : Calls Tryz.prog 34 #[.pointer p] w fun e w' => e = .returned (.bool true) ∧ Below w.heap.size w w' := by
  rcases h with rfl | ⟨B, rfl, c⟩
  · exact zNone6 w
  · go_enter Tryz.func34, Tryz.ntmps34
    go_wp2_with fail
    go_ret
    exact ⟨rfl, Below.refl _ _⟩
theorem nDot {p : Option Addr} {w : World} (h : NU p w) (v1 v2 : Value) : Calls Tryz.prog 16 #[.pointer p, v1, v2] w fun e w' => e = .returned (.tuple #[.int .i64 0, .int .i64 1]) ∧ Below w.heap.size w w' := by
  have hn := nNone h
  go_enter Tryz.func16, Tryz.ntmps16
  go_wp2_with ((go_at_call 34; with_reducible refine Calls_past (hn) (fun z => ?_)))
  go_ret2
  exact ⟨rfl, past_below _ _⟩
end Go.Proofs.YtlhadociaekkhaaGreat
