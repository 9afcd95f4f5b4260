/- The document's products and farthest; lists of any lengths; both units as one. -/
import Derived.Test.YtlhadociaekkhaaQRVec
import Derived.Test.YtlhadociaekkhaaQVec4
import Derived.Test.YtlhadociaekkhaaQVec5
import Derived.Test.YtlhadociaekkhaaQOver
import Derived.Test.YtlhadociaekkhaaQRows1
namespace Go.Proofs.Ytlhadociaekkhaa
set_option linter.unusedVariables false
set_option maxRecDepth 100000
open Go.RowKit
/-- What two lists come to: the list, the error, the flag, the count. -/
def pairR (g : Bool → Int → Int → Int × Bool) (n i : Bool) (c cost : Int) (a b : List Int) : List Int × Int × Bool × Int :=
  if a.length = b.length then ((mapG g i a b a.length).1, 0, (mapG g i a b a.length).2, c + cost * a.length) else ([], 3, i, c)
def dotR (i : Bool) (c : Int) (a b : List Int) : Int × Int × Bool × Int :=
  if a.length = b.length then ((runD (0, i) a b a.length).1, 0, (runD (0, i) a b a.length).2, c + 2 * a.length) else (0, 3, i, c)
abbrev PairPost (B : Nat) (w : World) (P : List Int × Int × Bool × Int) (e : Ending) (w' : World) : Prop :=
  ∃ A' n' c', e = .returned (.tuple #[.slice A' n' c', .int .i64 P.2.1]) ∧ OwnI w w' (.slice A' n' c') P.1 ∧ Below (put B P.2.2.1 P.2.2.2 w).heap.size (put B P.2.2.1 P.2.2.2 w) w'
theorem pair_yes {B : Nat} {w : World} {g : Bool → Int → Int → Int × Bool} {i : Bool} {c cost : Int} {a b : List Int} (hlen : a.length = b.length) {e : Ending} {w' : World}
    (h : ∃ A' c', e = .returned (.tuple #[.slice A' a.length c', .int .i64 0]) ∧ OwnI w w' (.slice A' a.length c') (mapG g i a b a.length).1 ∧ Below (put B (mapG g i a b a.length).2 (c + cost * a.length) w).heap.size (put B (mapG g i a b a.length).2 (c + cost * a.length) w) w') :
    PairPost B w (pairR g true i c cost a b) e w' := by
  unfold pairR
  rw [if_pos hlen]
  obtain ⟨A', c', h1, h2, h3⟩ := h
  exact ⟨A', _, c', h1, h2, h3⟩
theorem pair_no {B : Nat} {w : World} {g : Bool → Int → Int → Int × Bool} {i : Bool} {c cost : Int} {a b : List Int} (hlen : a.length ≠ b.length) (hp : put B i c w = w) {e : Ending} {w' : World}
    (h : e = .returned (.tuple #[.slice none 0 0, .int .i64 3]) ∧ Below w.heap.size w w') :
    PairPost B w (pairR g true i c cost a b) e w' := by
  unfold pairR
  rw [if_neg hlen]
  exact ⟨none, 0, 0, h.1, OwnK.nil _ _ _ _, by simp only []; rw [hp]; exact h.2⟩
abbrev DotPost (B : Nat) (w : World) (P : Int × Int × Bool × Int) (e : Ending) (w' : World) : Prop :=
  e = .returned (.tuple #[.int .i64 P.1, .int .i64 P.2.1]) ∧ Below (put B P.2.2.1 P.2.2.2 w).heap.size (put B P.2.2.1 P.2.2.2 w) w'
end Go.Proofs.Ytlhadociaekkhaa
