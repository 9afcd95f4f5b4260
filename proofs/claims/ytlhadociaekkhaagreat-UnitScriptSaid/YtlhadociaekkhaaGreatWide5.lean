
import Derived.Test.YtlhadociaekkhaaGreatWide4
import Derived.Deep.RegionHeld3
namespace Go.Proofs.YtlhadociaekkhaaGreat
set_option linter.unusedVariables false
open Go.RowKit
/-- A cell that may be written. -/
structure Slot (b o : Nat) (w : World) : Prop where
  val : ∃ v, w.cell? ⟨b, o, none⟩ = some v
  fro : w.frozen? ⟨b, o, none⟩ = false
theorem cell_keep {b o : Nat} {v : Value} {w w' : World} (h : w.cell? ⟨b, o, none⟩ = some v) (hb : Below w.heap.size w w') : w'.cell? ⟨b, o, none⟩ = some v :=
  ((bcell hb).1 b o (World.block_lt_of_cell? w _ h)).trans h
theorem Slot.lt {b o : Nat} {w : World} (h : Slot b o w) : b < w.heap.size := World.block_lt_of_cell? w _ h.val.choose_spec
theorem nblk_set (w : World) (a : Addr) (v : Value) : (w.setCell a v).heap.size = w.heap.size := by simp [World.setCell]
theorem Slot.keep {b o : Nat} {w w' : World} (h : Slot b o w) (hb : Below w.heap.size w w') : Slot b o w' :=
  ⟨⟨h.val.choose, cell_keep h.val.choose_spec hb⟩, ((bcell hb).2 b o h.lt).trans h.fro⟩
theorem Slot.set {b o : Nat} {w : World} (h : Slot b o w) (p : Addr) (v : Value) : Slot b o (w.setCell p v) :=
  ⟨cell?_setCell_some h.val.choose_spec, by rw [World.frozen?_setCell]; exact h.fro⟩
theorem Below.one (w : World) (o : Obj) : Below w.heap.size w (w.alloc o) := (Below.refl _ _).alloc (Nat.le_refl _) o
theorem Below.draw (w : World) : Below w.heap.size w w.drew := (Below.refl _ _).drew
theorem Below.next {B : Nat} {w a b : World} (h : Below B w a) (k : Below a.heap.size a b) (hB : B ≤ a.heap.size) : Below B w b := h.trans (k.mono hB)
theorem nx_bd (q : Int) (b : Bool) (h : 0 ≤ q ∧ q ≤ 170141183460469231731687303715884105728) : 0 ≤ incr b q ∧ incr b q < 340282366920938463463374607431768211456 := by
  unfold incr; split <;> omega
theorem rest_bd (s n : Int) (h0 : 0 ≤ s) (h1 : s ≤ 170141183460469231731687303715884105728) (hn0 : 0 ≤ n) (hn : n ≤ 127) :
    0 ≤ s - s / 2 ^ n.toNat * 2 ^ n.toNat ∧ s - s / 2 ^ n.toNat * 2 ^ n.toNat < 2 ^ n.toNat ∧ (2 : Int) ^ n.toNat ≤ 170141183460469231731687303715884105728 ∧ s / 2 ^ n.toNat < 340282366920938463463374607431768211455
      ∧ 0 ≤ s / 2 ^ n.toNat ∧ s / 2 ^ n.toNat ≤ 170141183460469231731687303715884105728 := by
  have hp := pw_pos n.toNat
  have hle : (2 : Int) ^ n.toNat ≤ 2 ^ 127 := by
    have := pw n.toNat (127 - n.toNat)
    rw [show n.toNat + (127 - n.toNat) = 127 from by omega] at this
    have h2 := pw_pos (127 - n.toNat)
    have : (2 : Int) ^ n.toNat * 1 ≤ 2 ^ n.toNat * 2 ^ (127 - n.toNat) := Int.mul_le_mul_of_nonneg_left (by omega) (by omega)
    omega
  have e : (2 : Int) ^ 127 = 170141183460469231731687303715884105728 := by decide
  obtain ⟨p1, p2, p3⟩ := ediv_parts s (2 ^ n.toNat) hp
  have p4 := Int.ediv_le_self (2 ^ n.toNat) h0
  have p5 := Int.ediv_nonneg h0 (Int.le_of_lt hp)
  omega
theorem wUp1 (n : Int) (w : World) (h0 : 0 ≤ n) (h1 : n ≤ 127) :
    Calls Tryz.prog 99 #[.agg #[.int .u64 0, .int .u64 1], .int .i64 n] w fun e w' => e = .returned (SV (2 ^ n.toNat)) ∧ Below w.heap.size w w' := by
  have h := wUp 1 n w h0 h1
  simp only [SV, shi_1, wlo_1, Int.one_mul] at h
  exact h
/-- The whole number nearest to s / d, in the middle the even one. -/
def rh (s d : Int) : Int := incr (near (s / d) (s % d) d) (s / d)
def rnd (x d : Int) : Int := sgn (decide (x < 0)) (rh (iabs x) d)
theorem rnd_eq (x d : Int) : sgn (decide (x < 0)) (incr (near (iabs x / d) (iabs x - iabs x / d * d) d) (iabs x / d)) = rnd x d := by
  have := Int.emod_def (iabs x) d
  unfold rnd rh
  rw [this, Int.mul_comm d]
set_option maxHeartbeats 400000 in
theorem wRound (x n : Int) (w : World) (hx0 : -170141183460469231731687303715884105728 ≤ x) (hx : x < 170141183460469231731687303715884105728) (h0 : 0 ≤ n) (h1 : n ≤ 127) :
    Calls Tryz.prog 79 #[WV x, .int .i64 n] w fun e w' => e = .returned (.tuple #[WV (rnd x (2 ^ n.toNat)), .int .i64 0]) ∧ Below w.heap.size w w' := by
  go_enter Tryz.func79, Tryz.ntmps79
  go_wp2_with fail
  refine (wof x _ hx0 hx).mono ?_
  rintro e w1 ⟨rfl, hb1⟩
  have B1 := (b2 _ _ _).trans (hb1.mono (by simp; omega))
  have hs1 : w.heap.size + 1 < w1.heap.size := Nat.lt_of_lt_of_le (by simp) hb1.size
  have z1 : 0 ≤ iabs x := by unfold iabs; omega
  have z2 : iabs x ≤ 170141183460469231731687303715884105728 := by unfold iabs; omega
  go_wp2_with fail
  refine (wDown (iabs x) n _ z1 (by omega) h0 h1).mono ?_
  rintro e w2 ⟨rfl, hb2⟩
  have hc2 := (bcell hb2).1
  have k1 : w2.cell? ⟨w1.heap.size, 0, none⟩ = some (.int .u64 (shi (iabs x))) := (hc2 _ _ (by simp)).trans (by simp [go_sem])
  have k2 : w2.cell? ⟨w1.heap.size, 1, none⟩ = some (.int .u64 (wlo (iabs x))) := (hc2 _ _ (by simp)).trans (by simp [go_sem])
  have B2 := (B1.alloc (by omega) _).trans (hb2.mono (by simp; omega))
  have hs2 : w1.heap.size < w2.heap.size := Nat.lt_of_lt_of_le (by simp) hb2.size
  clear hc2
  go_wp2_with fail
  have HR : Hid _ := Lib.hid (rest_bd (iabs x) n z1 z2 h0 h1)
  have t1 : Slot (w.heap.size + 1) 0 w1 := Slot.keep ⟨⟨.int .i64 0, by simp [go_sem]⟩, by simp [go_sem]⟩ hb1
  have t2 : Slot (w.heap.size + 1) 1 w1 := Slot.keep ⟨⟨.int .u64 0, by simp [go_sem]⟩, by simp [go_sem]⟩ hb1
  have t3 := (t1.keep (Below.one _ _)).keep hb2
  have t4 := (t2.keep (Below.one _ _)).keep hb2
  go_region_held3 (fun w' => Below w.heap.size w w' ∧ w2.heap.size < w'.heap.size ∧ w'.cell? ⟨w1.heap.size, 0, none⟩ = some (.int .u64 (shi (iabs x))) ∧ w'.cell? ⟨w1.heap.size, 1, none⟩ = some (.int .u64 (wlo (iabs x)))
      ∧ w'.cell? ⟨w2.heap.size, 0, none⟩ = some (.int .u64 (shi (iabs x / 2 ^ n.toNat))) ∧ w'.cell? ⟨w2.heap.size, 1, none⟩ = some (.int .u64 (wlo (iabs x / 2 ^ n.toNat))) ∧ Slot (w.heap.size + 1) 0 w' ∧ Slot (w.heap.size + 1) 1 w')
    (first | exact ⟨(B2.alloc (by omega) _).drew, by simp, cell_keep (cell_keep k1 (Below.one _ _)) (Below.draw _), cell_keep (cell_keep k2 (Below.one _ _)) (Below.draw _), by simp [go_sem], by simp [go_sem], (t3.keep (Below.one _ _)).keep (Below.draw _), (t4.keep (Below.one _ _)).keep (Below.draw _)⟩ | (go_split_ands; refine ⟨?_, ?_, ?_, ?_, ?_, ?_, ?_, ?_⟩ <;> (first | exact Below.next (by assumption) hbz (by omega) | exact cell_keep (by assumption) hbz | exact Slot.keep (by assumption) hbz | exact Nat.lt_of_lt_of_le (by assumption) hbz.size)) | (go_split_ands; refine ⟨?_, ?_, ?_, ?_, ?_, ?_, ?_, ?_⟩ <;> (repeat (first | assumption | refine Below.setCell ?_ (by simp) _ | rw [World.cell?_setCell_far _ _ _ _ (by simp; omega)] | refine Slot.set ?_ _ _ | (rw [nblk_set])))))
    (first | (go_at_call 99; (first | (with_reducible refine (wUp _ _ _ h0 h1).mono ?_) | (with_reducible refine (wUp1 _ _ h0 h1).mono ?_)); rintro e w3 ⟨rfl, hbz⟩) | (go_at_call 98; refine (wWithout _ _ _).mono ?_; rintro e w3 ⟨rfl, hbz⟩) | (go_at_call 97; refine (wNearer _ _ _ _ HR.out.1 HR.out.2.1 HR.out.2.2.1).mono ?_; rintro e w3 ⟨rfl, hbz⟩) | (go_at_call 96; refine (wNext _ _ _ HR.out.2.2.2.1).mono ?_; rintro e w3 ⟨rfl, hbz⟩) | (go_at_call 85; refine (wSigned _ _ _ (nx_bd _ _ HR.out.2.2.2.2).1 (nx_bd _ _ HR.out.2.2.2.2).2).mono ?_; rintro e w3 ⟨rfl, hbz⟩; have hS := (by assumption : Below w.heap.size w _ ∧ _); obtain ⟨va, ea⟩ := (hS.2.2.2.2.2.2.1.keep hbz).val; obtain ⟨vb, eb⟩ := (hS.2.2.2.2.2.2.2.keep hbz).val; have fa := (hS.2.2.2.2.2.2.1.keep hbz).fro; have fb := (hS.2.2.2.2.2.2.2.keep hbz).fro; clear hS))
  have BS := (by assumption : Below w.heap.size w _ ∧ _).1
  rw [rnd_eq] at *
  go_wp2
  exact bodyPost_ret (v := .tuple #[WV (rnd x (2 ^ n.toNat)), .int .i64 0]) (by simp [results, Tryz.results79, go_sem, ea, eb]) rfl ⟨rfl, BS⟩
set_option maxHeartbeats 400000 in
theorem wRound_bad (x n : Int) (w : World) (h0 : n < 0 ∨ 127 < n) :
    Calls Tryz.prog 79 #[WV x, .int .i64 n] w fun e w' => e = .returned (.tuple #[WV 0, .int .i64 2]) ∧ Below w.heap.size w w' := by
  go_enter Tryz.func79, Tryz.ntmps79
  go_wp2_with fail
  all_goals exact bodyPost_ret (v := .tuple #[WV 0, .int .i64 2]) (by simp [results, Tryz.results79, go_sem, whi_0, wlo_0]) rfl ⟨rfl, b2 _ _ _⟩
set_option maxHeartbeats 400000 in
theorem wDiv_zero (x : Int) (w : World) :
    Calls Tryz.prog 80 #[WV x, .int .i64 0] w fun e w' => e = .returned (.tuple #[WV 0, .int .i64 2]) ∧ Below w.heap.size w w' := by
  go_enter Tryz.func80, Tryz.ntmps80
  go_wp2_with fail
  exact bodyPost_ret (v := .tuple #[WV 0, .int .i64 2]) (by simp [results, Tryz.results80, go_sem, whi_0, wlo_0]) rfl ⟨rfl, b2 _ _ _⟩
end Go.Proofs.YtlhadociaekkhaaGreat
