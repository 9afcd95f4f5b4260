/- Package vec: what is farthest from 0; lists of ints side by side. -/
import Derived.Test.YtlhadociaekkhaaQVec1
namespace Go.Proofs.Ytlhadociaekkhaa
set_option linter.unusedVariables false
set_option maxRecDepth 100000
open Go.RowKit
/-- The farthest of the first k numbers, the flag, and how many operations. -/
def mostR (i : Bool) (c : Int) (a : List Int) : Nat → Int × Bool × Int
  | 0 => (0, i, c)
  | k + 1 => if a.getD k 0 < 0 then (max (mostR i c a k).1 (opSub 0 (a.getD k 0)).1, (mostR i c a k).2.1 || (opSub 0 (a.getD k 0)).2, (mostR i c a k).2.2 + 1) else (max (mostR i c a k).1 (a.getD k 0), (mostR i c a k).2.1, (mostR i c a k).2.2)
theorem opSub_in (x y : Int) : InI (opSub x y).1 := by have := fitV_bd (subW x y); unfold opSub; exact ⟨by omega, by omega⟩
theorem mostR_in (i : Bool) (c : Int) {a : List Int} (ha : AllI a) (k : Nat) (hk : k ≤ a.length) : InI (mostR i c a k).1 := by
  induction k with
  | zero => exact ⟨by unfold mostR; omega, by unfold mostR; omega⟩
  | succ k ih =>
    have h1 := ih (by omega)
    have h2 := ha.get (k := k) (by omega)
    have h3 := opSub_in 0 (a.getD k 0)
    unfold mostR
    split
    · exact ⟨by simp only []; omega, by simp only []; omega⟩
    · exact ⟨by simp only []; omega, by simp only []; omega⟩
theorem mostR_cnt (i : Bool) (c : Int) (a : List Int) (k : Nat) : c ≤ (mostR i c a k).2.2 ∧ (mostR i c a k).2.2 ≤ c + k := by
  induction k with
  | zero => unfold mostR; simp only []; omega
  | succ k ih =>
    unfold mostR
    split <;> simp only [] <;> omega
end Go.Proofs.Ytlhadociaekkhaa
