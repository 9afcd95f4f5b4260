/- Lists, by a unit that is nil, or that nobody made. -/
import Derived.Test.YtlhadociaekkhaaQVec6
namespace Go.Proofs.Ytlhadociaekkhaa
set_option linter.unusedVariables false
set_option maxRecDepth 100000
open Go.RowKit
/-- A unit that reckons nothing. -/
def NU (p : Option Addr) (w : World) : Prop := p = none ∨ ∃ B, p = some ⟨B, 0, none⟩ ∧ w.cell? ⟨B, 2, none⟩ = some (.bool false)
theorem NU.keep {p : Option Addr} {w v : World} (h : NU p w) (k : Below w.heap.size w v) : NU p v := by
  rcases h with h | ⟨B, e, c⟩
  · exact .inl h
  · exact .inr ⟨B, e, (k.cell (p := ⟨B, 2, none⟩) (World.block_lt_of_cell? w _ c)).trans c⟩
theorem nNone {p : Option Addr} {w : World} (h : NU p w) : Calls Try.prog 65 #[.pointer p] w fun e w' => e = .returned (.bool true) ∧ Below w.heap.size w w' := by
  rcases h with rfl | ⟨B, rfl, c⟩
  · exact zNone6 w
  · go_enter Try.func65, Try.ntmps65
    go_wp2_with fail
    go_ret
    exact ⟨rfl, Below.refl _ _⟩
theorem nDot {p : Option Addr} {w : World} (h : NU p w) (v1 v2 : Value) : Calls Try.prog 47 #[.pointer p, v1, v2] w fun e w' => e = .returned (.tuple #[.int .i64 0, .int .i64 1]) ∧ Below w.heap.size w w' := by
  have hn := nNone h
  go_enter Try.func47, Try.ntmps47
  go_wp2_with ((go_at_call 65; with_reducible refine Calls_past (hn) (fun z => ?_)))
  go_ret2
  exact ⟨rfl, past_below _ _⟩
end Go.Proofs.Ytlhadociaekkhaa
