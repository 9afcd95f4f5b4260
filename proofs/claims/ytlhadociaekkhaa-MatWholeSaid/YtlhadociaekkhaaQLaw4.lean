/- The laws of unit: awake, and the chapter's examples. -/
import Derived.Test.YtlhadociaekkhaaQUnit2
namespace Go.Proofs.Ytlhadociaekkhaa
set_option linter.unusedVariables false
open Go.RowKit
theorem Calls_putl {P : Program} {f : FuncId} {args : Array Value} {W x : World} {B : Nat} {j : Bool} {d : Int} {r : Value} {K : Ending → World → Prop}
    (h : Calls P f args (past W x) fun e w' => e = .returned r ∧ Below (put B j d (past W x)).heap.size (put B j d (past W x)) w') (k : ∀ z, K (.returned r) (past (put B j d W) z)) :
    Calls P f args (past W x) K :=
  h.mono fun e w' ⟨he, hb⟩ => by
    have h2 := lift_put (past_below W x) hb
    have hp := past_of h2
    have hk := k w'
    rw [← hp] at hk
    rw [he]; exact hk
theorem SL1 {w : World} {B b : Nat} {x0 : Int} (hb : b ≠ B) (h0 : w.cell? ⟨b, 0, none⟩ = some (.int .i64 x0)) : SL w B (.slice (some ⟨b, 0, none⟩) 1 1) [x0] :=
  ⟨_, 1, rfl, by simp, fun _ => ⟨b, 0, rfl, hb, World.block_lt_of_cell? w _ h0, fun k hk => by
    have : k = 0 := by simpa using hk
    subst this; exact h0⟩⟩
theorem SL2 {w : World} {B b : Nat} {x0 x1 : Int} (hb : b ≠ B) (h0 : w.cell? ⟨b, 0, none⟩ = some (.int .i64 x0)) (h1 : w.cell? ⟨b, 1, none⟩ = some (.int .i64 x1)) : SL w B (.slice (some ⟨b, 0, none⟩) 2 2) [x0, x1] :=
  ⟨_, 2, rfl, by simp, fun _ => ⟨b, 0, rfl, hb, World.block_lt_of_cell? w _ h0, fun k hk => by
    have : k = 0 ∨ k = 1 := by simp at hk; omega
    rcases this with rfl | rfl
    · exact h0
    · exact h1⟩⟩
theorem SL3 {w : World} {B b : Nat} {x0 x1 x2 : Int} (hb : b ≠ B) (h0 : w.cell? ⟨b, 0, none⟩ = some (.int .i64 x0)) (h1 : w.cell? ⟨b, 1, none⟩ = some (.int .i64 x1)) (h2 : w.cell? ⟨b, 2, none⟩ = some (.int .i64 x2)) : SL w B (.slice (some ⟨b, 0, none⟩) 3 3) [x0, x1, x2] :=
  ⟨_, 3, rfl, by simp, fun _ => ⟨b, 0, rfl, hb, World.block_lt_of_cell? w _ h0, fun k hk => by
    have : k = 0 ∨ k = 1 ∨ k = 2 := by simp at hk; omega
    rcases this with rfl | rfl | rfl
    · exact h0
    · exact h1
    · exact h2⟩⟩
theorem uAddV {B : Nat} {i : Bool} {c : Int} {w : World} (h : UA B i c w) (v : Value) (zs : List Int) (n : Int) (j : Bool) (d : Int) (hv : SL w B v zs) (hz : AllI zs) (hc : 0 ≤ c ∧ c + zs.length ≤ 4611686018427387904) (hr : runL opAdd (0, i) zs = (n, j)) (hd : c + zs.length = d) :
    Calls Try.prog 55 #[UP B, v] w fun e w' => e = .returned (.int .i64 n) ∧ Below (put B j d w).heap.size (put B j d w) w' := by
  have := uAdd h v zs hz hv hc
  rw [hr, hd] at this; exact this
theorem uMulV {B : Nat} {i : Bool} {c : Int} {w : World} (h : UA B i c w) (v : Value) (zs : List Int) (n : Int) (j : Bool) (d : Int) (hv : SL w B v zs) (hz : AllI zs) (hc : 0 ≤ c ∧ c + zs.length ≤ 4611686018427387904) (hr : runL opMul (4294967296, i) zs = (n, j)) (hd : c + zs.length = d) :
    Calls Try.prog 61 #[UP B, v] w fun e w' => e = .returned (.int .i64 n) ∧ Below (put B j d w).heap.size (put B j d w) w' := by
  have := uMul h v zs hz hv hc
  rw [hr, hd] at this; exact this
theorem uDotV {B : Nat} {i : Bool} {c : Int} {w : World} (h : UA B i c w) (v1 v2 : Value) (a b : List Int) (n : Int) (j : Bool) (d : Int) (h1 : SL w B v1 a) (h2 : SL w B v2 b) (ha : AllI a) (hb : AllI b) (hlen : a.length = b.length) (hc : 0 ≤ c ∧ c + 2 * a.length ≤ 4611686018427387904) (hr : runD (0, i) a b a.length = (n, j)) (hd : c + 2 * a.length = d) :
    Calls Try.prog 47 #[UP B, v1, v2] w fun e w' => e = .returned (.tuple #[.int .i64 n, .int .i64 0]) ∧ Below (put B j d w).heap.size (put B j d w) w' := by
  have := uDot h v1 v2 a b ha hb h1 h2 hlen hc
  rw [hr, hd] at this; exact this
abbrev SaysYes (f : FuncId) (args : Array Value) (w : World) : Prop := Calls Try.prog f args w fun e w' => e = .returned (.bool true) ∧ Below w.heap.size w w'
theorem kU0 {B : Nat} {w : World} {v : Value} (h : UA B false 0 w) (hv : SL w B v []) :
    Calls Try.prog 55 #[UP B, v] w fun e w' => e = .returned (.int .i64 (0)) ∧ Below (put B false 0 w).heap.size (put B false 0 w) w' :=
  uAddV h v [] (0) false 0 hv (by simp [AllI]) (by simp) (show runL opAdd (0, false) [] = (0, false) by decide +kernel) (by simp)
theorem kU1 {B : Nat} {w : World} {v : Value} (h : UA B false 0 w) (hv : SL w B v []) :
    Calls Try.prog 61 #[UP B, v] w fun e w' => e = .returned (.int .i64 (4294967296)) ∧ Below (put B false 0 w).heap.size (put B false 0 w) w' :=
  uMulV h v [] (4294967296) false 0 hv (by simp [AllI]) (by simp) (show runL opMul (4294967296, false) [] = (4294967296, false) by decide +kernel) (by simp)
theorem kU2 {B : Nat} {w : World} {v : Value} (h : UA B false 0 w) (hv : SL w B v [4294967296, 4294967296, 4294967296]) :
    Calls Try.prog 55 #[UP B, v] w fun e w' => e = .returned (.int .i64 (12884901888)) ∧ Below (put B false 3 w).heap.size (put B false 3 w) w' :=
  uAddV h v [4294967296, 4294967296, 4294967296] (12884901888) false 3 hv (by intro n hn; simp at hn; omega) (by simp) (show runL opAdd (0, false) [4294967296, 4294967296, 4294967296] = (12884901888, false) by decide +kernel) (by simp)
theorem kU3 {B : Nat} {w : World} {v : Value} (h : UA B false 3 w) (hv : SL w B v [2147483648, 2147483648]) :
    Calls Try.prog 61 #[UP B, v] w fun e w' => e = .returned (.int .i64 (1073741824)) ∧ Below (put B false 5 w).heap.size (put B false 5 w) w' :=
  uMulV h v [2147483648, 2147483648] (1073741824) false 5 hv (by intro n hn; simp at hn; omega) (by simp) (show runL opMul (4294967296, false) [2147483648, 2147483648] = (1073741824, false) by decide +kernel) (by simp)
theorem kU4 {B : Nat} {w : World} {v1 v2 : Value} (h : UA B false 5 w) (h1 : SL w B v1 [4294967296, 8589934592]) (h2 : SL w B v2 [12884901888, 2147483648]) :
    Calls Try.prog 47 #[UP B, v1, v2] w fun e w' => e = .returned (.tuple #[.int .i64 (17179869184), .int .i64 0]) ∧ Below (put B false 9 w).heap.size (put B false 9 w) w' :=
  uDotV h v1 v2 [4294967296, 8589934592] [12884901888, 2147483648] (17179869184) false 9 h1 h2 (by intro n hn; simp at hn; omega) (by intro n hn; simp at hn; omega) rfl (by simp) (show runD (0, false) [4294967296, 8589934592] [12884901888, 2147483648] _ = (17179869184, false) by decide +kernel) (by simp)
end Go.Proofs.Ytlhadociaekkhaa
