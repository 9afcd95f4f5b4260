/- The document's lists (printed by mk_rvec.py). -/
import Derived.Test.YtlhadociaekkhaaQRUnit
import Derived.Test.YtlhadociaekkhaaQVec3
import Derived.Deep.RegionHeld3
namespace Go.Proofs.Ytlhadociaekkhaa
set_option linter.unusedVariables false
set_option maxRecDepth 100000
open Go.RowKit
theorem r4Add2 {B : Nat} {i : Bool} {c : Int} {w : World} (h : RA B i c w) {v : Value} {x y : Int} (hx : InI x) (hy : InI y) (hv : SL w B v [x, y]) (hc : 0 ≤ c ∧ c + 2 ≤ 4611686018427387904) :
    Calls Try.prog 57 #[UP B, v] w fun e w' => e = .returned (.int .i64 (gSum i x y).1) ∧ Below (put B (gSum i x y).2 (c + 2) w).heap.size (put B (gSum i x y).2 (c + 2) w) w' :=
  r4Add h v [x, y] (all2 hx hy) hv hc
theorem r4Mul2 {B : Nat} {i : Bool} {c : Int} {w : World} (h : RA B i c w) {v : Value} {x y : Int} (hx : InI x) (hy : InI y) (hv : SL w B v [x, y]) (hc : 0 ≤ c ∧ c + 2 ≤ 4611686018427387904) :
    Calls Try.prog 62 #[UP B, v] w fun e w' => e = .returned (.int .i64 (gScale i x y).1) ∧ Below (put B (gScale i x y).2 (c + 2) w).heap.size (put B (gScale i x y).2 (c + 2) w) w' :=
  r4Mul h v [x, y] (all2 hx hy) hv hc
theorem r4Less2 {B : Nat} {i : Bool} {c : Int} {w : World} (h : RA B i c w) {x y : Int} (hx : InI x) (hy : InI y) (hc : 0 ≤ c ∧ c + 1 ≤ 4611686018427387904) :
    Calls Try.prog 59 #[UP B, .int .i64 x, .int .i64 y] w fun e w' => e = .returned (.int .i64 (gLess i x y).1) ∧ Below (put B (gLess i x y).2 (c + 1) w).heap.size (put B (gLess i x y).2 (c + 1) w) w' :=
  r4Sub h ⟨hc.1, by omega⟩ x y hx hy
end Go.Proofs.Ytlhadociaekkhaa
