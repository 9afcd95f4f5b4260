/- Four numbers as an argument; a variable that holds four numbers. -/
import Derived.Test.YtlhadociaekkhaaQF
import Derived.Laws.IdiomArrays
set_option linter.unusedSimpArgs false
set_option linter.unusedVariables false
namespace Go.Proofs.Ytlhadociaekkhaa
set_option linter.unusedVariables false
set_option linter.unusedSimpArgs false
set_option maxRecDepth 100000
open Go.RowKit Go.ChangeShapes Go.WideShapes Go.Deep Go.Shelf
structure FourX where
  a : Int
  b : Int
  c : Int
  d : Int
instance : Inhabited FourX := ⟨⟨0, 0, 0, 0⟩⟩
abbrev FourX.val (x : FourX) : Value := .agg #[.int .i64 x.a, .int .i64 x.b, .int .i64 x.c, .int .i64 x.d]
structure FourX.ok (x : FourX) (w : World) : Prop where
  ha : InI x.a
  hb : InI x.b
  hc : InI x.c
  hd : InI x.d
section
variable {H : Type} {enc : TypeId × Value → H} {w : World}
theorem cells4 : Try.prog.cellsOf 59 = 4 := by kernel_rfl
theorem open_four {r : Reach} {b0 : Nat} {v : Value} {d : DataW H} {p : List MemPlace} (hv : Value.okWide Try.prog w r b0 59 v) (h : DataW.Trod enc Try.prog w 0 (fun _ => true) true 59 v d p) : ∃ X : FourX, v = X.val ∧ X.ok w := by
  simp only [Value.okWide, Try.underlying59] at hv
  obtain ⟨cs, rfl, hsz, _⟩ := hv
  obtain ⟨l⟩ := cs
  have hl : l.length = 4 := by simpa using hsz.trans cells4
  obtain ⟨c0, c1, c2, c3, rfl⟩ : ∃ c0 c1 c2 c3, l = [c0, c1, c2, c3] := by match l, hl with | [c0, c1, c2, c3], _ => exact ⟨c0, c1, c2, c3, rfl⟩
  obtain ⟨fuel, hf⟩ := h
  obtain ⟨y0, y1, y2, y3, n, -, h0, h1, h2, h3⟩ := trod_array4 Try.underlying59 mcells1 hf
  obtain ⟨n0, q0, -, w0⟩ := DataW.trod_int Try.underlying3 h0
  obtain ⟨n1, q1, -, w1⟩ := DataW.trod_int Try.underlying3 h1
  obtain ⟨n2, q2, -, w2⟩ := DataW.trod_int Try.underlying3 h2
  obtain ⟨n3, q3, -, w3⟩ := DataW.trod_int Try.underlying3 h3
  simp at q0 q1 q2 q3
  subst q0 q1 q2 q3
  exact ⟨⟨n0, n1, n2, n3⟩, rfl, ⟨bounds_i64 w0, bounds_i64 w1, bounds_i64 w2, bounds_i64 w3⟩⟩
end
/-- A variable that holds four numbers. -/
structure Fo (W : World) (b : Nat) (x0 x1 x2 x3 : Int) : Prop where
  c0 : W.cell? ⟨b, 0, none⟩ = some (.int .i64 x0)
  c1 : W.cell? ⟨b, 1, none⟩ = some (.int .i64 x1)
  c2 : W.cell? ⟨b, 2, none⟩ = some (.int .i64 x2)
  c3 : W.cell? ⟨b, 3, none⟩ = some (.int .i64 x3)
theorem Fo.stp {U V : Nat} {W W' : World} {b : Nat} {x0 x1 x2 x3 : Int} (h : Fo W b x0 x1 x2 x3) (hs : Stp U V W W') (h1 : b ≠ U) (h2 : b ≠ V) : Fo W' b x0 x1 x2 x3 := ⟨hs.cell h1 h2 h.c0, hs.cell h1 h2 h.c1, hs.cell h1 h2 h.c2, hs.cell h1 h2 h.c3⟩
theorem Blk.fo {W : World} {b : Nat} {T : TypeId} {x0 x1 x2 x3 : Int} (h : Blk W b T #[.int .i64 x0, .int .i64 x1, .int .i64 x2, .int .i64 x3]) : Fo W b x0 x1 x2 x3 := ⟨h.cell 0, h.cell 1, h.cell 2, h.cell 3⟩
/-- The first so many of them are turned into sizes. -/
def sh4 (x : Int) (j k : Nat) : Int := if j < k then 1 + x % 5 else x
abbrev arr4 (x : FourX) (k : Nat) : Array Value := #[.int .i64 (sh4 x.a 0 k), .int .i64 (sh4 x.b 1 k), .int .i64 (sh4 x.c 2 k), .int .i64 (sh4 x.d 3 k)]
end Go.Proofs.Ytlhadociaekkhaa
