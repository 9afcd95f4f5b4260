/- Three matrices by calls in their order, three new variables in whatever order: what is known does not hang on the order. -/
import Derived.Test.YtlhadociaekkhaaQMatS
import Derived.Test.YtlhadociaekkhaaQMatW
import Derived.Test.YtlhadociaekkhaaQMatL2
import Derived.Deep.RegionHeld3
namespace Go.Proofs.Ytlhadociaekkhaa
set_option linter.unusedVariables false
set_option linter.unusedSimpArgs false
set_option maxRecDepth 100000
open Go.RowKit Go.Shelf
section
variable {ops : Array Oper} {Q : Exit → Act → World → Prop} {S : World → Prop}
abbrev mk6 (b1 b2 b3 a1 a2 a3 : Bool) : Array Bool := #[true, true, true, true, true, b1, true, true, true, true, true, b2, true, true, true, true, true, b3, a1, a2, a3, false, false, false]
def rdy6 (b1 b2 b3 a1 a2 a3 : Bool) : List Nat := (if b1 then (if b2 then (if b3 then [] else [17]) else [11]) else [5]) ++ ((if a1 then [] else [18]) ++ ((if a2 then [] else [19]) ++ (if a3 then [] else [20])))
def cnt6 (b1 b2 b3 a1 a2 a3 : Bool) : Nat := (if b1 then 0 else 1) + (if b2 then 0 else 1) + (if b3 then 0 else 1) + (if a1 then 0 else 1) + (if a2 then 0 else 1) + (if a3 then 0 else 1)
abbrev Then6 (P : Program) (ops : Array Oper) (Q : Exit → Act → World → Prop) (S : World → Prop) (i : Nat) (J : Act → World → Prop) (a : Act) (w : World) : Prop := wpOp P ops Q i (fun a' w' => S w' ∧ J a' w') a w
theorem six {P : Program} (J : Bool → Bool → Bool → Bool → Bool → Bool → Act → World → Prop)
    (hr : ∀ b1 b2 b3 a1 a2 a3, (b2 = true → b1 = true) → (b3 = true → b2 = true) → cnt6 b1 b2 b3 a1 a2 a3 ≠ 0 → Region.ready .any ops (mk6 b1 b2 b3 a1 a2 a3) = rdy6 b1 b2 b3 a1 a2 a3)
    (h1 : ∀ a1 a2 a3 a w, J false false false a1 a2 a3 a w → S w → Then6 P ops Q S 5 (J true false false a1 a2 a3) a w)
    (h2 : ∀ a1 a2 a3 a w, J true false false a1 a2 a3 a w → S w → Then6 P ops Q S 11 (J true true false a1 a2 a3) a w)
    (h3 : ∀ a1 a2 a3 a w, J true true false a1 a2 a3 a w → S w → Then6 P ops Q S 17 (J true true true a1 a2 a3) a w)
    (k1 : ∀ b1 b2 b3 a2 a3 a w, J b1 b2 b3 false a2 a3 a w → S w → Then6 P ops Q S 18 (J b1 b2 b3 true a2 a3) a w)
    (k2 : ∀ b1 b2 b3 a1 a3 a w, J b1 b2 b3 a1 false a3 a w → S w → Then6 P ops Q S 19 (J b1 b2 b3 a1 true a3) a w)
    (k3 : ∀ b1 b2 b3 a1 a2 a w, J b1 b2 b3 a1 a2 false a w → S w → Then6 P ops Q S 20 (J b1 b2 b3 a1 a2 true) a w)
    (hd : ∀ a w, J true true true true true true a w → S w → wpAnyH P .any ops Q S 3 (mk6 true true true true true true) a w) :
    ∀ (n : Nat) (b1 b2 b3 a1 a2 a3 : Bool), cnt6 b1 b2 b3 a1 a2 a3 = n → (b2 = true → b1 = true) → (b3 = true → b2 = true) → ∀ a w, J b1 b2 b3 a1 a2 a3 a w → S w → wpAnyH P .any ops Q S (n + 3) (mk6 b1 b2 b3 a1 a2 a3) a w
  | 0, b1, b2, b3, a1, a2, a3, hc, c1, c2, a, w, hJ, hS => by
    obtain ⟨rfl, rfl, rfl, rfl, rfl, rfl⟩ : b1 = true ∧ b2 = true ∧ b3 = true ∧ a1 = true ∧ a2 = true ∧ a3 = true := by
      revert hc; cases b1 <;> cases b2 <;> cases b3 <;> cases a1 <;> cases a2 <;> cases a3 <;> simp [cnt6]
    exact hd a w hJ hS
  | n + 1, b1, b2, b3, a1, a2, a3, hc, c1, c2, a, w, hJ, hS => by
    have ih := six J hr h1 h2 h3 k1 k2 k3 hd n
    have hne : rdy6 b1 b2 b3 a1 a2 a3 ≠ [] := by revert hc; cases b1 <;> cases b2 <;> cases b3 <;> cases a1 <;> cases a2 <;> cases a3 <;> simp [cnt6, rdy6]
    refine wpAnyH_all (hr b1 b2 b3 a1 a2 a3 c1 c2 (by omega)) hne fun i hi => ?_
    have hi' : (i = 5 ∧ b1 = false) ∨ (i = 11 ∧ b1 = true ∧ b2 = false) ∨ (i = 17 ∧ b2 = true ∧ b3 = false) ∨ (i = 18 ∧ a1 = false) ∨ (i = 19 ∧ a2 = false) ∨ (i = 20 ∧ a3 = false) := by
      revert hi c1 c2; cases b1 <;> cases b2 <;> cases b3 <;> cases a1 <;> cases a2 <;> cases a3 <;> simp [rdy6]
    rcases hi' with ⟨rfl, rfl⟩ | ⟨rfl, rfl, rfl⟩ | ⟨rfl, rfl, rfl⟩ | ⟨rfl, rfl⟩ | ⟨rfl, rfl⟩ | ⟨rfl, rfl⟩
    · obtain rfl : b2 = false := by cases b2 with | false => rfl | true => exact absurd (c1 rfl) (by decide)
      obtain rfl : b3 = false := by cases b3 with | false => rfl | true => exact absurd (c2 rfl) (by decide)
      exact wpOp_mono (fun a' w' h => ⟨h.1, ih true false false a1 a2 a3 (by revert hc; unfold cnt6; simp <;> omega) (fun _ => rfl) (fun h => h) a' w' h.2 h.1⟩) (h1 a1 a2 a3 a w hJ hS)
    · obtain rfl : b3 = false := by cases b3 with | false => rfl | true => exact absurd (c2 rfl) (by decide)
      exact wpOp_mono (fun a' w' h => ⟨h.1, ih true true false a1 a2 a3 (by revert hc; unfold cnt6; simp <;> omega) (fun _ => rfl) (fun _ => rfl) a' w' h.2 h.1⟩) (h2 a1 a2 a3 a w hJ hS)
    · obtain rfl : b1 = true := c1 rfl
      exact wpOp_mono (fun a' w' h => ⟨h.1, ih true true true a1 a2 a3 (by revert hc; unfold cnt6; simp <;> omega) (fun _ => rfl) (fun _ => rfl) a' w' h.2 h.1⟩) (h3 a1 a2 a3 a w hJ hS)
    · exact wpOp_mono (fun a' w' h => ⟨h.1, ih b1 b2 b3 true a2 a3 (by revert hc; unfold cnt6; simp <;> omega) c1 c2 a' w' h.2 h.1⟩) (k1 b1 b2 b3 a2 a3 a w hJ hS)
    · exact wpOp_mono (fun a' w' h => ⟨h.1, ih b1 b2 b3 a1 true a3 (by revert hc; unfold cnt6; simp <;> omega) c1 c2 a' w' h.2 h.1⟩) (k2 b1 b2 b3 a1 a3 a w hJ hS)
    · exact wpOp_mono (fun a' w' h => ⟨h.1, ih b1 b2 b3 a1 a2 true (by revert hc; unfold cnt6; simp <;> omega) c1 c2 a' w' h.2 h.1⟩) (k3 b1 b2 b3 a1 a2 a w hJ hS)
/-- One step, its way on hidden. -/
theorem then6 {P : Program} {i : Nat} {o : Oper} {J : Act → World → Prop} {a : Act} {w : World} (ho : ops[i]? = some o)
    (h : ∀ K' : Act → World → Prop, Shut (∀ a w, S w → J a w → K' a w) → if Region.wanted o (yielded ops a.tmps) = true then Oper.wp P o a w K' Q else K' (a.put o.dst undef) w) : Then6 P ops Q S i J a w :=
  wpOp_step ho fun K' hK => h K' fun a w h1 h2 => hK a w ⟨h1, h2⟩
abbrev put6 (a0 : Act) (x1 x2 x3 t1 t2 t3 : Value) : Act := (((((a0.put (some 50) x1).put (some 56) x2).put (some 62) x3).put (some 12) t1).put (some 13) t2).put (some 14) t3
abbrev JF (F : Bool → Bool → Bool → Bool → Bool → Bool → Value → Value → Value → Value → Value → Value → World → Prop) (a0 : Act) (b1 b2 b3 a1 a2 a3 : Bool) (a : Act) (w : World) : Prop :=
  ∃ x1 x2 x3 t1 t2 t3, a = put6 a0 x1 x2 x3 t1 t2 t3 ∧ F b1 b2 b3 a1 a2 a3 x1 x2 x3 t1 t2 t3 w
theorem six_at {P : Program} (F : Bool → Bool → Bool → Bool → Bool → Bool → Value → Value → Value → Value → Value → Value → World → Prop) {a0 : Act} {w0 : World} {fuel : Nat} {listed : Array Bool} (hn : fuel = 9) (hl : listed = mk6 false false false false false false)
    (hr : ∀ b1 b2 b3 a1 a2 a3, (b2 = true → b1 = true) → (b3 = true → b2 = true) → cnt6 b1 b2 b3 a1 a2 a3 ≠ 0 → Region.ready .any ops (mk6 b1 b2 b3 a1 a2 a3) = rdy6 b1 b2 b3 a1 a2 a3)
    (hs : put6 a0 undef undef undef undef undef undef = a0) (hF : F false false false false false false undef undef undef undef undef undef w0) (hS : S w0)
    (h1 : ∀ a1 a2 a3 a w, JF F a0 false false false a1 a2 a3 a w → S w → Then6 P ops Q S 5 (JF F a0 true false false a1 a2 a3) a w)
    (h2 : ∀ a1 a2 a3 a w, JF F a0 true false false a1 a2 a3 a w → S w → Then6 P ops Q S 11 (JF F a0 true true false a1 a2 a3) a w)
    (h3 : ∀ a1 a2 a3 a w, JF F a0 true true false a1 a2 a3 a w → S w → Then6 P ops Q S 17 (JF F a0 true true true a1 a2 a3) a w)
    (k1 : ∀ b1 b2 b3 a2 a3 a w, JF F a0 b1 b2 b3 false a2 a3 a w → S w → Then6 P ops Q S 18 (JF F a0 b1 b2 b3 true a2 a3) a w)
    (k2 : ∀ b1 b2 b3 a1 a3 a w, JF F a0 b1 b2 b3 a1 false a3 a w → S w → Then6 P ops Q S 19 (JF F a0 b1 b2 b3 a1 true a3) a w)
    (k3 : ∀ b1 b2 b3 a1 a2 a w, JF F a0 b1 b2 b3 a1 a2 false a w → S w → Then6 P ops Q S 20 (JF F a0 b1 b2 b3 a1 a2 true) a w)
    (hd : ∀ a w, JF F a0 true true true true true true a w → S w → wpAnyH P .any ops Q S 3 (mk6 true true true true true true) a w) :
    wpAnyH P .any ops Q S fuel listed a0 w0 := by
  subst hn hl
  exact six (JF F a0) hr h1 h2 h3 k1 k2 k3 hd 6 false false false false false false rfl (fun h => h) (fun h => h) a0 w0 ⟨_, _, _, _, _, _, hs.symm, hF⟩ hS
end
/-- A matrix that a call has made. -/
def Made (V w : World) (R C : Nat) (L : List Int) (x : Value) : Prop := ∃ A cp, x = .agg #[.int .i64 (R : Int), .int .i64 (C : Int), .slice A (R * C) cp] ∧ OwnI V w (.slice A (R * C) cp) L
/-- A new variable. -/
def NewM (V w : World) (t : Value) : Prop := ∃ k, t = .pointer (some ⟨k, 0, none⟩) ∧ V.heap.size ≤ k ∧ Blk w k 24 #[.int .i64 0, .int .i64 0, .slice none 0 0]
theorem Made.keep {V w w' : World} {R C : Nat} {L : List Int} {x : Value} (h : Made V w R C L x) (k : Below w.heap.size w w') : Made V w' R C L x := by
  obtain ⟨A, cp, e, ho⟩ := h
  exact ⟨A, cp, e, ho.keep k⟩
theorem NewM.keep {V w w' : World} {t : Value} (h : NewM V w t) (k : Below w.heap.size w w') : NewM V w' t := by
  obtain ⟨b, e, h1, h2⟩ := h
  exact ⟨b, e, h1, h2.keep k⟩
theorem NewM.ne {V w : World} {t : Value} (h : NewM V w t) : t ≠ .pointer (some ⟨w.heap.size, 0, none⟩) := by
  obtain ⟨b, e, h1, h2⟩ := h
  intro h'
  have := h2.lt
  rw [e] at h'
  simp only [Value.pointer.injEq, Option.some.injEq, Addr.mk.injEq] at h'
  omega
theorem newM (V w : World) (h : V.heap.size ≤ w.heap.size) : NewM V (w.alloc (.cells #[.int .i64 0, .int .i64 0, .slice none 0 0] 24)) (.pointer (some ⟨w.heap.size, 0, none⟩)) := ⟨_, rfl, h, Blk.new w _ _⟩
structure J6 (V : World) (M1 M2 M3 : World → Value → Prop) (b1 b2 b3 a1 a2 a3 : Bool) (x1 x2 x3 t1 t2 t3 : Value) (w : World) : Prop where
  m1 : b1 = true → M1 w x1
  m2 : b2 = true → M2 w x2
  m3 : b3 = true → M3 w x3
  n1 : a1 = true → NewM V w t1
  n2 : a2 = true → NewM V w t2
  n3 : a3 = true → NewM V w t3
  d12 : a1 = true → a2 = true → t1 ≠ t2
  d13 : a1 = true → a3 = true → t1 ≠ t3
  d23 : a2 = true → a3 = true → t2 ≠ t3
theorem made_box {V w : World} {A : Option Addr} {n c : Nat} {L : List Int} (h : OwnI V w (.slice A n c) L) {B : Nat} {cs : Array Value} (hb : Blk w B 24 cs) (x0 x1 x2 : Value) : OwnI V (boxed B x0 x1 x2 w) (.slice A n c) L := by
  obtain ⟨h0, h1 | ⟨g, cap, cur, h1, hg, hh, h3⟩⟩ := h
  · exact ⟨h0, .inl h1⟩
  · have hne : g ≠ B := by
      rintro rfl
      unfold Blk at hb
      rw [hh] at hb
      simp at hb
    refine ⟨h0, .inr ⟨g, cap, cur, h1, hg, ?_, h3⟩⟩
    exact (((show Blk w g _ cur from hh).far hne _).far hne _).far hne _
theorem blk_boxfar {w : World} {B k : Nat} {T : TypeId} {cs : Array Value} (h : Blk w k T cs) (hne : k ≠ B) (x0 x1 x2 : Value) : Blk (boxed B x0 x1 x2 w) k T cs := ((h.far hne _).far hne _).far hne _
theorem Blk.bx {w : World} {k : Nat} {T : TypeId} {R C : Int} {s : Value} (h : Blk w k T #[.int .i64 R, .int .i64 C, s]) : Bx w k R C s := ⟨h.cell 0, h.cell 1, h.cell 2⟩
end Go.Proofs.Ytlhadociaekkhaa
