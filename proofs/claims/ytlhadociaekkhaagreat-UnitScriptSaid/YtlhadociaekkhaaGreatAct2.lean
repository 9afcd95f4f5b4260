/- Acts as data: a struct of six fields, and rows of these in memory. -/
import Derived.Test.YtlhadociaekkhaaGreatAct1
import Derived.Test.YtlhadociaekkhaaGreatRows1
import Derived.Deep.Slices
import Derived.Deep.Fields
import Derived.OpenShut
namespace Go.Proofs.YtlhadociaekkhaaGreat
set_option linter.unusedVariables false
set_option maxRecDepth 100000
open Go.RowKit Go.ChangeShapes Go.WideShapes Go.Deep
theorem RS1 {w : World} {b : Nat} {x : Int} (h0 : w.cell? ⟨b, 0, none⟩ = some (.int .i64 x)) : RS .i64 w (some ⟨b, 0, none⟩) 1 1 [x] :=
  ⟨rfl, Nat.le_refl _, by omega, (fun e => by cases e), fun _ => ⟨b, 0, rfl, World.block_lt_of_cell? w _ h0, fun j hj => by
    have : j = 0 := by simpa using hj
    subst this; exact h0⟩⟩
/-- An act: its numbers, its lists (where they lie, what they read as), its flag. -/
structure ActX where
  kd : Int
  a : Int
  b : Int
  l : Option Addr
  cl : Nat
  L : List Int
  k : Option Addr
  ck : Nat
  K : List Int
  is : Bool
instance : Inhabited ActX := ⟨⟨0, 0, 0, none, 0, [], none, 0, [], false⟩⟩
abbrev ActX.val (x : ActX) : Value := actV x.kd x.a x.b (.slice x.l x.L.length x.cl) (.slice x.k x.K.length x.ck) x.is
structure ActX.ok (x : ActX) (w : World) : Prop where
  hkd : InI x.kd
  ha : InI x.a
  hb : InI x.b
  hL : AllI x.L
  hK : AllI x.K
  rL : RL w x.l x.L
  rK : RL w x.k x.K
  cL : x.L.length ≤ x.cl ∧ (x.l = none → x.cl = 0)
  cK : x.K.length ≤ x.ck ∧ (x.k = none → x.ck = 0)
  tL : x.cl ≤ 9223372036854775807
  tK : x.ck ≤ 9223372036854775807
/-- It lies at an address. -/
structure ActAt (w : World) (b o : Nat) (x : ActX) : Prop where
  c0 : w.cell? ⟨b, o, none⟩ = some (.int .i64 x.kd)
  c1 : w.cell? ⟨b, o + 1, none⟩ = some (.int .i64 x.a)
  c2 : w.cell? ⟨b, o + 2, none⟩ = some (.int .i64 x.b)
  c3 : w.cell? ⟨b, o + 3, none⟩ = some (.slice x.l x.L.length x.cl)
  c4 : w.cell? ⟨b, o + 4, none⟩ = some (.slice x.k x.K.length x.ck)
  c5 : w.cell? ⟨b, o + 5, none⟩ = some (.bool x.is)
theorem ActAt.keep {w v : World} {b o : Nat} {x : ActX} (h : ActAt w b o x) (k : Below w.heap.size w v) : ActAt v b o x := by
  have hb := World.block_lt_of_cell? w _ h.c0
  exact ⟨(k.cell (p := ⟨b, o, none⟩) hb).trans h.c0, (k.cell (p := ⟨b, o + 1, none⟩) hb).trans h.c1, (k.cell (p := ⟨b, o + 2, none⟩) hb).trans h.c2, (k.cell (p := ⟨b, o + 3, none⟩) hb).trans h.c3, (k.cell (p := ⟨b, o + 4, none⟩) hb).trans h.c4, (k.cell (p := ⟨b, o + 5, none⟩) hb).trans h.c5⟩
theorem ActX.ok.keep {x : ActX} {w v : World} (h : x.ok w) (k : Below w.heap.size w v) : x.ok v :=
  ⟨h.hkd, h.ha, h.hb, h.hL, h.hK, h.rL.keep k, h.rK.keep k, h.cL, h.cK, h.tL, h.tK⟩
/-- A row of acts that came in. -/
def ActsOk (w : World) (A : Option Addr) (n c : Nat) (X : Nat → ActX) : Prop :=
  n ≤ c ∧ c ≤ 9223372036854775807 ∧ (∀ i, i < n → (X i).ok w) ∧ (0 < n → ∃ b o, A = some ⟨b, o, none⟩ ∧ b < w.heap.size ∧ ∀ i, i < n → ActAt w b (o + i * 6) (X i))
section
variable {H : Type} {enc : TypeId × Value → H} {w : World}
theorem ints_of {fuel : Nat} {v : Value} {x : DataW H × List MemPlace} (h : DataW.trod enc Tryz.prog w 0 (fun _ => true) true fuel 29 [v] = some x) :
    ∃ (A : Option Addr) (c : Nat) (L : List Int), v = .slice A L.length c ∧ AllI L ∧ RL w A L ∧ (L.length ≤ c ∧ (A = none → c = 0)) ∧ c ≤ 9223372036854775807 := by
  rcases open_ints Tryz.underlying29 Tryz.underlying3 (by kernel_rfl) h with ⟨hcs, _⟩ | ⟨a, len, cap, zs, hcs, _, hl, hm, hz, _, hcell, hwz⟩
  · simp at hcs
    exact ⟨none, 0, [], hcs, fun n hn => absurd hn (by simp), fun h0 => absurd h0 (by simp), ⟨Nat.le_refl _, fun _ => rfl⟩, by omega⟩
  · simp at hcs
    obtain ⟨L, e, hc, hL, hr⟩ := RL_of (w := w) (a := some a) (len := len) (cap := cap) (zs := zs) (.inr ⟨a, rfl, hl, hm, by simpa using hz, hcell, hwz⟩)
    subst e
    exact ⟨some a, cap, L, hcs, hL, hr, hc, by unfold maxLen at hm; exact hm⟩
theorem cellsAct : Tryz.prog.cellsOf 31 = 6 := by kernel_rfl
theorem cells1 : Tryz.prog.cellsOf 3 = 1 := by kernel_rfl
theorem cells2 : Tryz.prog.cellsOf 29 = 1 := by kernel_rfl
theorem cells3 : Tryz.prog.cellsOf 4 = 1 := by kernel_rfl
theorem act_of {fuel : Nat} {cs : List Value} {x : DataW H × List MemPlace} (h : DataW.trod enc Tryz.prog w 0 (fun _ => true) true fuel 31 cs = some x) :
    ∃ X : ActX, cs = [.int .i64 X.kd, .int .i64 X.a, .int .i64 X.b, .slice X.l X.L.length X.cl, .slice X.k X.K.length X.ck, .bool X.is] ∧ X.ok w := by
  obtain ⟨xs, n, _, _, hlen, hsz, hf⟩ := DataW.trod_struct Tryz.underlying31 h
  rw [cellsAct] at hlen
  match cs, hlen with
  | [v0, v1, v2, v3, v4, v5], _ =>
    have hxs : xs.length = 6 := hsz
    match xs, hxs with
    | [y0, y1, y2, y3, y4, y5], _ =>
      have g0 : DataW.trod enc Tryz.prog w 0 (fun _ => true) true n 3 (([v0, v1, v2, v3, v4, v5].drop 0).take (Tryz.prog.cellsOf 3)) = some y0 := hf 0 _ rfl
      have g1 : DataW.trod enc Tryz.prog w 0 (fun _ => true) true n 3 (([v0, v1, v2, v3, v4, v5].drop 1).take (Tryz.prog.cellsOf 3)) = some y1 := hf 1 _ rfl
      have g2 : DataW.trod enc Tryz.prog w 0 (fun _ => true) true n 3 (([v0, v1, v2, v3, v4, v5].drop 2).take (Tryz.prog.cellsOf 3)) = some y2 := hf 2 _ rfl
      have g3 : DataW.trod enc Tryz.prog w 0 (fun _ => true) true n 29 (([v0, v1, v2, v3, v4, v5].drop 3).take (Tryz.prog.cellsOf 29)) = some y3 := hf 3 _ rfl
      have g4 : DataW.trod enc Tryz.prog w 0 (fun _ => true) true n 29 (([v0, v1, v2, v3, v4, v5].drop 4).take (Tryz.prog.cellsOf 29)) = some y4 := hf 4 _ rfl
      have g5 : DataW.trod enc Tryz.prog w 0 (fun _ => true) true n 4 (([v0, v1, v2, v3, v4, v5].drop 5).take (Tryz.prog.cellsOf 4)) = some y5 := hf 5 _ rfl
      rw [cells1] at g0 g1 g2
      rw [cells2] at g3 g4
      rw [cells3] at g5
      obtain ⟨n0, q0, -, w0⟩ := DataW.trod_int Tryz.underlying3 g0
      obtain ⟨n1, q1, -, w1⟩ := DataW.trod_int Tryz.underlying3 g1
      obtain ⟨n2, q2, -, w2⟩ := DataW.trod_int Tryz.underlying3 g2
      obtain ⟨n5, q5, -⟩ := DataW.trod_bool Tryz.underlying4 g5
      obtain ⟨A3, c3, L3, e3, h3, r3, k3, t3⟩ := ints_of (v := v3) g3
      obtain ⟨A4, c4, L4, e4, h4, r4, k4, t4⟩ := ints_of (v := v4) g4
      simp at q0 q1 q2 q5
      subst q0 q1 q2 q5 e3 e4
      exact ⟨⟨n0, n1, n2, A3, c3, L3, A4, c4, L4, n5⟩, rfl, ⟨bounds_i64 w0, bounds_i64 w1, bounds_i64 w2, h3, h4, r3, r4, k3, k4, t3, t4⟩⟩
/-- An argument that is an act. -/
theorem open_act {r : Reach} {b0 : Nat} {v : Value} {d : DataW H} {p : List MemPlace} (hv : Value.okWide Tryz.prog w r b0 31 v) (h : DataW.Trod enc Tryz.prog w 0 (fun _ => true) true 31 v d p) : ∃ X : ActX, v = X.val ∧ X.ok w := by
  obtain ⟨cs, rfl, hsz⟩ := okWide_struct Tryz.underlying31 hv
  obtain ⟨l⟩ := cs
  obtain ⟨fuel, hf⟩ := h
  obtain ⟨X, hX, ok⟩ := act_of hf
  have : l = [.int .i64 X.kd, .int .i64 X.a, .int .i64 X.b, .slice X.l X.L.length X.cl, .slice X.k X.K.length X.ck, .bool X.is] := by simpa [Value.cells] using hX
  subst this
  exact ⟨X, rfl, ok⟩
/-- An argument that is a list of acts. -/
theorem open_acts {r : Reach} {b0 : Nat} {v : Value} {d : DataW H} {p : List MemPlace} (hv : Value.okWide Tryz.prog w r b0 22 v) (h : DataW.Trod enc Tryz.prog w 0 (fun _ => true) true 22 v d p) :
    ∃ (A : Option Addr) (n c : Nat) (X : Nat → ActX), v = .slice A n c ∧ ActsOk w A n c X := by
  obtain ⟨A, n, c, rfl⟩ := okWide_slice Tryz.underlying22 hv
  obtain ⟨fuel, hf⟩ := h
  rcases open_slice Tryz.underlying22 hf with ⟨hcs, _⟩ | ⟨a, len, cap, m, fu, D, Pl, hcs, _, hl, hm, hmm, _, hi⟩
  · simp [Value.cells] at hcs
    obtain ⟨rfl, rfl, rfl⟩ := hcs
    exact ⟨none, 0, 0, fun _ => default, rfl, Nat.le_refl _, by omega, fun i hi => absurd hi (by omega), fun h0 => absurd h0 (by omega)⟩
  · simp [Value.cells] at hcs
    obtain ⟨rfl, rfl, rfl⟩ := hcs
    have hmn : n ≤ m := by simp at hmm; omega
    have each : ∀ i, i < n → ∃ X : ActX, X.ok w ∧ (∀ j v, j < 6 → [Value.int .i64 X.kd, .int .i64 X.a, .int .i64 X.b, .slice X.l X.L.length X.cl, .slice X.k X.K.length X.ck, .bool X.is][j]? = some v → w.cell? (a.add (i * 6 + j)) = some v) := by
      intro i hin
      obtain ⟨cs', h1, h2⟩ := hi i (by omega)
      obtain ⟨X, rfl, ok⟩ := act_of h2
      refine ⟨X, ok, fun j v hj hv => ?_⟩
      rw [cellsAct] at h1
      obtain ⟨_, _, hat⟩ := World.cells?_some h1
      have := hat j hj
      rw [add_add] at this
      rw [this, hv]
    obtain ⟨X, hX⟩ := choose_lt each
    refine ⟨some a, n, c, X, rfl, hl, by unfold maxLen at hm; exact hm, fun i hin => (hX i hin).1, fun h0 => ?_⟩
    obtain ⟨b, o, sp⟩ := a
    have c0 := (hX 0 h0).2 0 _ (by omega) rfl
    have hsp : sp = none := by
      cases sp with
      | none => rfl
      | some s =>
        simp only [World.cell?, Addr.add] at c0
        split at c0 <;> simp at c0
    subst hsp
    have ad : ∀ j, (⟨b, o, none⟩ : Addr).add j = ⟨b, o + j, none⟩ := fun j => Addr.add_lit b o j
    refine ⟨b, o, rfl, ?_, fun i hin => ?_⟩
    · have := World.block_lt_of_cell? w _ c0
      rw [ad] at this; exact this
    · have hh := (hX i hin).2
      refine ⟨?_, ?_, ?_, ?_, ?_, ?_⟩
      · have := hh 0 _ (by omega) rfl; rw [ad] at this; exact this
      · have := hh 1 _ (by omega) rfl; rw [ad, ← Nat.add_assoc] at this; exact this
      · have := hh 2 _ (by omega) rfl; rw [ad, ← Nat.add_assoc] at this; exact this
      · have := hh 3 _ (by omega) rfl; rw [ad, ← Nat.add_assoc] at this; exact this
      · have := hh 4 _ (by omega) rfl; rw [ad, ← Nat.add_assoc] at this; exact this
      · have := hh 5 _ (by omega) rfl; rw [ad, ← Nat.add_assoc] at this; exact this
end
end Go.Proofs.YtlhadociaekkhaaGreat
