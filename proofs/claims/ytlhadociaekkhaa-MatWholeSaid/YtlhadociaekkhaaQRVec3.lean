/- What lists and both units are, step by step. -/
import Derived.Test.YtlhadociaekkhaaQRVec2
namespace Go.Proofs.Ytlhadociaekkhaa
set_option linter.unusedVariables false
set_option maxRecDepth 100000
open Go.RowKit
theorem infoSl : (Try.prog.info? 22).map (fun i => i.size) = some 1 := by kernel_rfl
/-- A slice's store into a cell that may be written. -/
theorem step_store_sl {ops : Array Oper} {o : Oper} {a : Act} {K : Act → World → Prop} {Q : Exit → Act → World → Prop} {E : Prop} (hgd : o.guard = none) (x y : Operand) (ho : o.op = .store 22 x y)
    {W : World} {b i : Nat} {A : Option Addr} {n c : Nat} (hx : a.eval x = .pointer (some ⟨b, i, none⟩)) (hy : a.eval y = .slice A n c) (hs : Slot b i W) (h : K (a.put o.dst undef) (W.setCell ⟨b, i, none⟩ (.slice A n c))) :
    if Region.wanted o (yielded ops a.tmps) = true then Oper.wp Try.prog o a W K Q else E := by
  have hw : Region.wanted o (yielded ops a.tmps) = true := by simp [Region.wanted, hgd]
  rw [if_pos hw]
  obtain ⟨⟨v, hv⟩, hf⟩ := hs
  obtain ⟨i0, hi, hz⟩ : ∃ i0, Try.prog.info? 22 = some i0 ∧ i0.size = 1 := by
    cases hq : Try.prog.info? 22 with
    | none => have := infoSl; rw [hq] at this; cases this
    | some i0 => exact ⟨i0, rfl, by have := infoSl; rw [hq] at this; simpa using this⟩
  have hr : Sem.run Try.prog (Instr.storeAt 22 (.pointer (some ⟨b, i, none⟩)) (.slice A n c)) W = .ok () (W.setCell ⟨b, i, none⟩ (.slice A n c)) := by simp [go_sem, sizeOf, typeInfo, hi, hz, hv, hf]
  unfold Oper.wp execOp
  simp only [ho, hx, hy, Sem.run_bind, Sem.run_pure, hr, Result.andThen_ok]
  exact h
theorem RS.putN {k : IntKind} {w : World} {A : Option Addr} {n c : Nat} {zs : List Int} (h : RS k w A n c zs) {B : Nat} (hB : ∀ b o, A = some ⟨b, o, none⟩ → b ≠ B) (i : Bool) (d : Int) : RS k (put B i d w) A n c zs :=
  ⟨h.len, h.cap, h.top, h.nil_, fun h0 => by
    obtain ⟨b, o, e, hb, hr⟩ := h.at_ h0
    exact ⟨b, o, e, by rw [put_size]; exact hb, fun j hj => (put_cell B i d w ⟨b, o + j, none⟩ (hB b o e)).trans (hr j hj)⟩⟩
theorem RL.rs {w : World} {A : Option Addr} {c : Nat} {L : List Int} (h : RL w A L) (h1 : L.length ≤ c ∧ (A = none → c = 0)) (h2 : c ≤ 9223372036854775807) : RS .i64 w A L.length c L :=
  ⟨rfl, h1.1, h2, h1.2, fun h0 => h h0⟩
/-- Two units' blocks, and a struct's that holds both. -/
structure Three (w0 : World) (U V X : Nat) : Prop where
  hU : w0.heap.size ≤ U
  hV : w0.heap.size ≤ V
  hUV : U ≠ V
  hXU : X ≠ U
  hXV : X ≠ V
/-- What holds between two steps. -/
structure VF (w0 : World) (U V X : Nat) (I1 I2 : Option Addr) (e1 e2 : Nat) (a b : List Int) (W : World) (i : Bool) (c : Int) : Prop where
  bel : Below w0.heap.size w0 W
  ua : UA U i c W
  ra : RA V i c W
  x0 : W.cell? ⟨X, 0, none⟩ = some (UP U)
  x1 : W.cell? ⟨X, 1, none⟩ = some (UP V)
  in1 : RS .i64 W I1 a.length e1 a
  f1 : ∀ b o, I1 = some ⟨b, o, none⟩ → b ≠ U ∧ b ≠ V
  in2 : RS .i64 W I2 b.length e2 b
  f2 : ∀ b o, I2 = some ⟨b, o, none⟩ → b ≠ U ∧ b ≠ V
theorem VF.step {w0 : World} {U V X : Nat} {I1 I2 : Option Addr} {e1 e2 : Nat} {a b : List Int} {W : World} {i : Bool} {c : Int} (h : VF w0 U V X I1 I2 e1 e2 a b W i c) (t : Three w0 U V X) {j : Bool} {d : Int} {W' : World}
    (k : Below (put V j d (put U j d W)).heap.size (put V j d (put U j d W)) W') : VF w0 U V X I1 I2 e1 e2 a b W' j d := by
  have hx0 : (put V j d (put U j d W)).cell? ⟨X, 0, none⟩ = some (UP U) := (put_cell V j d _ _ t.hXV).trans ((put_cell U j d W _ t.hXU).trans h.x0)
  have hx1 : (put V j d (put U j d W)).cell? ⟨X, 1, none⟩ = some (UP V) := (put_cell V j d _ _ t.hXV).trans ((put_cell U j d W _ t.hXU).trans h.x1)
  have hb : Below w0.heap.size w0 (put V j d (put U j d W)) := below_putn j d (below_putn j d h.bel t.hU) t.hV
  exact ⟨hb.trans (k.mono hb.size), ((h.ua.put j d).far t.hUV j d).keep k, ((h.ra.far t.hUV.symm j d).put j d).keep k,
    (k.cell (World.block_lt_of_cell? _ _ hx0)).trans hx0, (k.cell (World.block_lt_of_cell? _ _ hx1)).trans hx1,
    ((h.in1.putN (fun b o e => (h.f1 b o e).1) j d).putN (fun b o e => (h.f1 b o e).2) j d).keep k, h.f1,
    ((h.in2.putN (fun b o e => (h.f2 b o e).1) j d).putN (fun b o e => (h.f2 b o e).2) j d).keep k, h.f2⟩
theorem mid {U V : Nat} {j : Bool} {d : Int} {W w2 w3 : World} (h2 : Below (put U j d W).heap.size (put U j d W) w2) (h3 : Below (put V j d w2).heap.size (put V j d w2) w3) :
    Below (put V j d (put U j d W)).heap.size (put V j d (put U j d W)) w3 := by
  have h1 := below_put h2 V j d
  rw [put_size] at h3
  rw [put_size]
  exact h1.trans (h3.mono h2.size)
theorem mid_own {U V : Nat} {j : Bool} {d : Int} {W w2 w3 : World} {v : Value} {R : List Int} (hV : V < W.heap.size) (ho : OwnI W w2 v R) (h3 : Below (put V j d w2).heap.size (put V j d w2) w3) :
    OwnI (put V j d (put U j d W)) w3 v R := ((ownK_put ho hV j d).keep h3).base (by rw [put_size, put_size]; exact Nat.le_refl _)
theorem pairR_cnt {g : Bool → Int → Int → Int × Bool} {n i : Bool} {c cost : Int} (h0 : 0 ≤ cost) (h2 : cost ≤ 2) {a b : List Int} (la : a.length ≤ 150) : c ≤ (pairR g n i c cost a b).2.2.2 ∧ (pairR g n i c cost a b).2.2.2 ≤ c + 300 := by
  have h3 : 0 ≤ cost * (a.length : Int) := Int.mul_nonneg h0 (by omega)
  have h4 : cost * (a.length : Int) ≤ 2 * (a.length : Int) := Int.mul_le_mul_of_nonneg_right h2 (by omega)
  unfold pairR
  split <;> (simp only []; omega)
theorem dotR_cnt {i : Bool} {c : Int} {a b : List Int} (la : a.length ≤ 150) : c ≤ (dotR i c a b).2.2.2 ∧ (dotR i c a b).2.2.2 ≤ c + 300 := by
  unfold dotR
  split <;> (simp only []; omega)
end Go.Proofs.Ytlhadociaekkhaa
