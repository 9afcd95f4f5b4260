/- Ref2 -/
import Derived.Test.YtlhadociaekkhaaQRef1
import Derived.Deep.LoopGhost
namespace Go.Proofs.Ytlhadociaekkhaa
set_option linter.unusedVariables false
open Go.RowKit
/-- A number of 128 bits in a variable of its own. -/
structure WC (b : Nat) (x : Int) (w : World) : Prop where
  hi : w.cell? ⟨b, 0, none⟩ = some (.int .i64 (whi x))
  lo : w.cell? ⟨b, 1, none⟩ = some (.int .u64 (wlo x))
  f0 : w.frozen? ⟨b, 0, none⟩ = false
  f1 : w.frozen? ⟨b, 1, none⟩ = false
theorem WC.lt {b : Nat} {x : Int} {w : World} (h : WC b x w) : b < w.heap.size := World.block_lt_of_cell? w _ h.hi
theorem WC.keep {b : Nat} {x : Int} {w w' : World} (h : WC b x w) (hb : Below w.heap.size w w') : WC b x w' :=
  ⟨cell_keep h.hi hb, cell_keep h.lo hb, ((bcell hb).2 b 0 h.lt).trans h.f0, ((bcell hb).2 b 1 h.lt).trans h.f1⟩
theorem WC.far {b c o : Nat} {x : Int} {w : World} (h : WC b x w) (hne : c ≠ b) (v : Value) : WC b x (w.setCell ⟨c, o, none⟩ v) :=
  ⟨by rw [World.cell?_setCell_far _ _ _ _ hne]; exact h.hi, by rw [World.cell?_setCell_far _ _ _ _ hne]; exact h.lo, by rw [World.frozen?_setCell]; exact h.f0, by rw [World.frozen?_setCell]; exact h.f1⟩
theorem WC.set {b : Nat} {x : Int} {w : World} (h : WC b x w) (y : Int) : WC b y ((w.setCell ⟨b, 0, none⟩ (.int .i64 (whi y))).setCell ⟨b, 1, none⟩ (.int .u64 (wlo y))) := by
  have e : (⟨b, 0, none⟩ : Addr) ≠ ⟨b, 1, none⟩ := by simp
  refine ⟨?_, ?_, by simp only [World.frozen?_setCell]; exact h.f0, by simp only [World.frozen?_setCell]; exact h.f1⟩
  · rw [World.cell?_setCell_other _ _ _ _ (Ne.symm e)]; exact World.cell?_setCell_same _ _ _ h.hi
  · exact World.cell?_setCell_same _ _ _ (u := .int .u64 (wlo x)) (by rw [World.cell?_setCell_other _ _ _ _ e]; exact h.lo)
def macc (a b n : Int) : Int := if n = 63 then 0 else a * (b / 2 ^ (n + 1).toNat)
theorem half_step (b n : Int) (h0 : 0 ≤ n) : b / 2 ^ n.toNat = 2 * (b / 2 ^ (n + 1).toNat) + b / 2 ^ n.toNat % 2 := by
  have : b / 2 ^ (n + 1).toNat = b / 2 ^ n.toNat / 2 := by
    rw [show (n + 1).toNat = n.toNat + 1 from by omega, Int.pow_succ, Int.ediv_ediv_of_nonneg (Int.le_of_lt (pw_pos _))]
  rw [this]; generalize b / 2 ^ n.toNat = s; omega
theorem macc_step (a b n : Int) (h0 : 0 ≤ n) (h : n < 63) : macc a b (n - 1) = if bitB b n = true then 2 * macc a b n + a else 2 * macc a b n := by
  have e := half_step b n h0
  unfold macc bitB
  rw [if_neg (show ¬ (n - 1 = 63) by omega), if_neg (show ¬ (n = 63) by omega), show n - 1 + 1 = n from by omega]
  generalize b / 2 ^ (n + 1).toNat = t at *
  generalize b / 2 ^ n.toNat = s at *
  by_cases hb : s % 2 = 1
  · rw [if_pos (by simp [hb])]
    rw [e, hb, Int.mul_add, Int.mul_one, ← Int.mul_assoc, Int.mul_comm a 2, Int.mul_assoc]
  · have : s % 2 = 0 := by omega
    rw [if_neg (by simp [hb])]
    rw [e, this, Int.add_zero, ← Int.mul_assoc, Int.mul_comm a 2, Int.mul_assoc]
theorem macc_top (a b : Int) (h1 : -9223372036854775808 ≤ b) (h2 : b ≤ 9223372036854775807) : macc a b 62 = if bitB b 63 = true then -a else 0 := by
  unfold macc bitB
  rw [if_neg (by omega), show ((62 : Int) + 1).toNat = 63 from rfl, show (63 : Int).toNat = 63 from rfl, show (2 : Int) ^ 63 = 9223372036854775808 from by decide]
  by_cases hb : b < 0
  · have : b / 9223372036854775808 = -1 := by omega
    rw [this]; simp
  · have : b / 9223372036854775808 = 0 := by omega
    rw [this]; simp
theorem macc_end (a b : Int) : macc a b (-1) = a * b := by unfold macc; simp
theorem Below.set2 {B b : Nat} {w a : World} (h : Below B w a) (hb : B ≤ b) (u v : Value) : Below B w ((a.setCell ⟨b, 0, none⟩ u).setCell ⟨b, 1, none⟩ v) :=
  Below.setCell (Below.setCell h (p := ⟨b, 0, none⟩) hb _) (p := ⟨b, 1, none⟩) hb _
theorem Slot.set2 {b o c : Nat} {w : World} (h : Slot b o w) (u v : Value) : Slot b o ((w.setCell ⟨c, 0, none⟩ u).setCell ⟨c, 1, none⟩ v) := (h.set _ _).set _ _
theorem WC.far2 {b c : Nat} {x : Int} {w : World} (h : WC b x w) (hne : c ≠ b) (u v : Value) : WC b x ((w.setCell ⟨c, 0, none⟩ u).setCell ⟨c, 1, none⟩ v) := (h.far hne _).far hne _
set_option maxHeartbeats 2000000 in
theorem rMul (a b : Int) (w : World) (h1 : -9223372036854775808 ≤ a) (h2 : a ≤ 9223372036854775807) (h3 : -9223372036854775808 ≤ b) (h4 : b ≤ 9223372036854775807) :
    Calls Try.prog 98 #[.int .i64 a, .int .i64 b] w fun e w' => e = .returned (WV (a * b)) ∧ Below w.heap.size w w' := by
  go_enter Try.func98, Try.ntmps98
  go_wp2_with fail
  refine (rOf a _ h1 h2).mono ?_
  rintro e w1 ⟨rfl, hb1⟩
  go_wp2_with fail
  refine (rOf b _ h3 h4).mono ?_
  rintro e w2 ⟨rfl, hb2⟩
  have B2 := Below.next (Below.next (Below.one _ _) hb1 (by simp)) hb2 (by have := hb1.size; simp at this; omega)
  have q1 := hb1.size
  have q2 := hb2.size
  simp at q1
  have s0 : Slot w.heap.size 0 w2 := (Slot.keep ⟨⟨_, by simp [go_sem]; rfl⟩, by simp [go_sem]⟩ hb1).keep hb2
  have s1 : Slot w.heap.size 1 w2 := (Slot.keep ⟨⟨_, by simp [go_sem]; rfl⟩, by simp [go_sem]⟩ hb1).keep hb2
  go_wp2_with fail
  obtain ⟨A, hA⟩ : ∃ A, A = w2.heap.size := ⟨_, rfl⟩
  obtain ⟨B, hB⟩ : ∃ B, B = w2.heap.size + 1 := ⟨_, rfl⟩
  obtain ⟨C, hC⟩ : ∃ C, C = w2.heap.size + 1 + 1 := ⟨_, rfl⟩
  obtain ⟨W, hW⟩ : ∃ W, W = (((w2.alloc (Obj.cells #[.int .i64 (whi a), .int .u64 (wlo a)] 89)).alloc (Obj.cells #[.int .i64 (whi b), .int .u64 (wlo b)] 89)).alloc (Obj.cells #[.int .i64 0, .int .u64 0] 89)) := ⟨_, rfl⟩
  have cA : WC A a W := by rw [hA, hW]; exact ⟨by simp [go_sem], by simp [go_sem], by simp [go_sem], by simp [go_sem]⟩
  have cB : WC B b W := by rw [hB, hW]; exact ⟨by simp [go_sem], by simp [go_sem], by simp [go_sem], by simp [go_sem]⟩
  have cC : WC C 0 W := by rw [hC, hW]; exact ⟨by simp [go_sem, whi_0], by simp [go_sem, wlo_0], by simp [go_sem], by simp [go_sem]⟩
  have S0 : Slot w.heap.size 0 W := by rw [hW]; exact ((s0.keep (Below.one _ _)).keep (Below.one _ _)).keep (Below.one _ _)
  have S1 : Slot w.heap.size 1 W := by rw [hW]; exact ((s1.keep (Below.one _ _)).keep (Below.one _ _)).keep (Below.one _ _)
  have BW : Below w.heap.size w W := by rw [hW]; exact ((B2.alloc (by omega) _).alloc (by simp; omega) _).alloc (by simp; omega) _
  have lC : w.heap.size < C := by omega
  have nAC : C ≠ A := by omega
  have nBC : C ≠ B := by omega
  rw [← hW, ← hC, ← hB, ← hA]
  clear hW s0 s1 B2 q1 q2 hb1 hb2 hA hB hC
  go_loopw [8] (fun i wr => ∃ n : Int, -1 ≤ n ∧ n ≤ 63 ∧ i = .int .i64 n ∧ WC A a wr ∧ WC B b wr ∧ WC C (macc a b n) wr ∧ Slot w.heap.size 0 wr ∧ Slot w.heap.size 1 wr ∧ Below w.heap.size w wr) (fun i _ => (intOf i + 1).toNat)
  case atStart => exact ⟨63, by omega, by omega, rfl, cA, cB, cC, S0, S1, BW⟩
  case round =>
    clear cA cB cC S0 S1 BW
    obtain ⟨n, n0, n1, rfl, cA, cB, cC, S0, S1, BW⟩ := hrel
    by_cases hn : 0 ≤ n
    · have k1 := cC.hi
      have k2 := cC.lo
      go_wp2_with fail
      refine (rTwice _ _ _).mono ?_
      rintro e w3 ⟨rfl, hb3⟩
      have cA3 := cA.keep hb3
      have cB3 := cB.keep hb3
      have cC3 := cC.keep hb3
      have S03 := S0.keep hb3
      have S13 := S1.keep hb3
      have BW3 := Below.next BW hb3 (by have := BW.size; omega)
      clear cA cB cC S0 S1 BW k1 k2 hb3
      have k1 := cC3.hi
      have k2 := cC3.lo
      have k3 := cC3.f0
      have k4 := cC3.f1
      have k5 := cB3.hi
      have k6 := cB3.lo
      rw [show incr false (2 * macc a b n) = 2 * macc a b n from rfl]
      have dA := cA3.far2 nAC (.int .i64 (whi (2 * macc a b n))) (.int .u64 (wlo (2 * macc a b n)))
      have dB := cB3.far2 nBC (.int .i64 (whi (2 * macc a b n))) (.int .u64 (wlo (2 * macc a b n)))
      have dC := cC3.set (2 * macc a b n)
      have dS0 := S03.set2 (c := C) (.int .i64 (whi (2 * macc a b n))) (.int .u64 (wlo (2 * macc a b n)))
      have dS1 := S13.set2 (c := C) (.int .i64 (whi (2 * macc a b n))) (.int .u64 (wlo (2 * macc a b n)))
      have dBW := Below.set2 BW3 (b := C) (by omega) (.int .i64 (whi (2 * macc a b n))) (.int .u64 (wlo (2 * macc a b n)))
      clear cA3 cB3 cC3 S03 S13 BW3
      go_wp2_with fail
      refine (rBit b n _ hn (by omega)).mono ?_
      rintro e w4 ⟨rfl, hb4⟩
      have cA := dA.keep hb4
      have cB := dB.keep hb4
      have cC := dC.keep hb4
      have S0 := dS0.keep hb4
      have S1 := dS1.keep hb4
      have BW := Below.next dBW hb4 (by have := dBW.size; omega)
      clear dA dB dC dS0 dS1 dBW hb4 k1 k2 k3 k4 k5 k6
      have k1 := cC.hi
      have k2 := cC.lo
      have k3 := cC.f0
      have k4 := cC.f1
      have k5 := cA.hi
      have k6 := cA.lo
      cases hbit : bitB b n with
      | false =>
        have hm : Hid (macc a b (n - 1) = 2 * macc a b n) := by
          by_cases h63 : n = 63
          · subst h63; show macc a b 62 = _; rw [macc_top a b h3 h4, hbit]; simp [macc]
          · show macc a b (n - 1) = _; rw [macc_step a b n hn (by omega), hbit]; simp
        go_wp2_with fail
        go_roundw
        case rel => exact ⟨n - 1, by omega, by omega, rfl, cA, cB, by rw [hm.out]; exact cC, S0, S1, BW⟩
        case measure => (simp [intOf]; try omega)
      | true =>
        by_cases h63 : n = 63
        · subst h63
          go_wp2_with fail
          refine (rNeg _ _).mono ?_
          rintro e w5 ⟨rfl, hb5⟩
          have hm : Hid (macc a b (63 - 1) = -a) := by show macc a b 62 = _; rw [macc_top a b h3 h4, hbit]; simp
          have dA := (cA.keep hb5).far2 nAC (.int .i64 (whi (-a))) (.int .u64 (wlo (-a)))
          have dB := (cB.keep hb5).far2 nBC (.int .i64 (whi (-a))) (.int .u64 (wlo (-a)))
          have dC := (cC.keep hb5).set (-a)
          have dS0 := (S0.keep hb5).set2 (c := C) (.int .i64 (whi (-a))) (.int .u64 (wlo (-a)))
          have dS1 := (S1.keep hb5).set2 (c := C) (.int .i64 (whi (-a))) (.int .u64 (wlo (-a)))
          have dBW := Below.set2 (Below.next BW hb5 (by have := BW.size; omega)) (b := C) (by omega) (.int .i64 (whi (-a))) (.int .u64 (wlo (-a)))
          have cC5 := cC.keep hb5
          clear cA cB cC S0 S1 BW hb5 k1 k2 k3 k4 k5 k6
          have k1 := cC5.hi
          have k2 := cC5.lo
          have k3 := cC5.f0
          have k4 := cC5.f1
          go_wp2_with fail
          go_roundw
          case rel => exact ⟨63 - 1, by omega, by omega, rfl, dA, dB, by rw [hm.out]; exact dC, dS0, dS1, dBW⟩
          case measure => (simp [intOf]; try omega)
        · have h63' : (n == 63) = false := by simp [h63]
          go_wp2_with fail
          refine (rAdd _ _ _).mono ?_
          rintro e w5 ⟨rfl, hb5⟩
          have hm : Hid (macc a b (n - 1) = 2 * macc a b n + a) := by show macc a b (n - 1) = _; rw [macc_step a b n hn (by omega), hbit]; simp
          have dA := (cA.keep hb5).far2 nAC (.int .i64 (whi (2 * macc a b n + a))) (.int .u64 (wlo (2 * macc a b n + a)))
          have dB := (cB.keep hb5).far2 nBC (.int .i64 (whi (2 * macc a b n + a))) (.int .u64 (wlo (2 * macc a b n + a)))
          have dC := (cC.keep hb5).set (2 * macc a b n + a)
          have dS0 := (S0.keep hb5).set2 (c := C) (.int .i64 (whi (2 * macc a b n + a))) (.int .u64 (wlo (2 * macc a b n + a)))
          have dS1 := (S1.keep hb5).set2 (c := C) (.int .i64 (whi (2 * macc a b n + a))) (.int .u64 (wlo (2 * macc a b n + a)))
          have dBW := Below.set2 (Below.next BW hb5 (by have := BW.size; omega)) (b := C) (by omega) (.int .i64 (whi (2 * macc a b n + a))) (.int .u64 (wlo (2 * macc a b n + a)))
          have cC5 := cC.keep hb5
          clear cA cB cC S0 S1 BW hb5 k1 k2 k3 k4 k5 k6
          have k1 := cC5.hi
          have k2 := cC5.lo
          have k3 := cC5.f0
          have k4 := cC5.f1
          go_wp2_with fail
          go_roundw
          case rel => exact ⟨n - 1, by omega, by omega, rfl, dA, dB, by rw [hm.out]; exact dC, dS0, dS1, dBW⟩
          case measure => (simp [intOf]; try omega)
    · have : n = -1 := by omega
      subst this
      rw [macc_end] at cC
      have k1 := cC.hi
      have k2 := cC.lo
      obtain ⟨v0, e0⟩ := S0.val
      obtain ⟨v1, e1⟩ := S1.val
      have e2 := S0.fro
      have e3 := S1.fro
      go_wp2
      exact bodyPost_ret (v := WV (a * b)) (by simp [results, Try.results98, go_sem, e0, e1]) rfl ⟨rfl, (BW.setCell (by simp) _).setCell (by simp) _⟩
end Go.Proofs.Ytlhadociaekkhaa
