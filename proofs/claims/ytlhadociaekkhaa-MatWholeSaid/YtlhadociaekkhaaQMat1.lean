/- Package mat: the places of a matrix, as an iterator. -/
import Derived.Test.YtlhadociaekkhaaQRVec3
import Derived.Test.YtlhadociaekkhaaQVec7
import Derived.Test.YtlhadociaekkhaaQPastF
import Derived.RangeFuncNested
import Derived.RangeFuncBound
import Derived.RangeFuncCalls
import Derived.RangeFuncLeaves
import Derived.RangeFuncBox
import Derived.RangeFuncFrom
import Derived.Shelf.Abstract
import Derived.Shelf.RegionOpen
import Derived.WalkKit
import Derived.OwnWalkIn
import Derived.TacticsInMore
import Derived.LoopNIn
import Derived.LoopIn
namespace Go.Proofs.Ytlhadociaekkhaa
set_option linter.unusedVariables false
set_option maxRecDepth 100000
open Go.RowKit Go.Shelf
attribute [local go_sem] Oper.semAt_some
/-- A place's number. -/
abbrev Pl (N : Nat) := { x : Nat // x < N }
abbrev encP (c : Nat) {N : Nat} (x : Pl N) : Array Value := #[.int .i64 ((x.1 / c : Nat) : Int), .int .i64 ((x.1 % c : Nat) : Int)]
/-- What a round keeps: the cells that the iterator reads. -/
def KpP (Br Bc : Nat) (W W' : World) : Prop := W.heap.size ≤ W'.heap.size ∧ W'.cell? ⟨Br, 0, none⟩ = W.cell? ⟨Br, 0, none⟩ ∧ W'.cell? ⟨Bc, 0, none⟩ = W.cell? ⟨Bc, 0, none⟩
theorem grownBy_drewN (W : World) (m : Nat) : W.grownBy (W.drewN m) none := ⟨rfl, rfl, rfl, Nat.le_refl _, fun _ _ _ => rfl⟩
theorem grownBy_drew (W : World) : W.grownBy W.drew none := ⟨rfl, rfl, rfl, Nat.le_refl _, fun _ _ _ => rfl⟩
set_option maxHeartbeats 4000000 in
theorem places1 (F : Fence) (n : Nat) (hF : F.fn 76) (hro : F.round = none) (hn : 1 ≤ n) (l Br Bc r c N : Nat) (hr : 1 ≤ r ∧ r ≤ 12) (hc : 1 ≤ c ∧ c ≤ 12) (hN : r * c = N) (J Jx : List (Pl N) → World → Prop)
    (hY : ∀ pre x W, J pre W → pre.length < N → YieldAt F (n - 1) Try.prog l (encP c x) W fun e W' =>
      (e = .returned (.bool true) ∧ J (pre ++ [x]) W' ∧ KpP Br Bc W W') ∨ (e = .returned (.bool false) ∧ Jx (pre ++ [x]) W'))
    (W : World) (hJ : AbidesFrom W.heap.size J) (hBr : W.cell? ⟨Br, 0, none⟩ = some (.int .i64 r)) (hBc : W.cell? ⟨Bc, 0, none⟩ = some (.int .i64 c)) (h0 : J [] W) :
    CallsIn F n Try.prog 76 #[.func (.yield l) #[] #[], .pointer (some ⟨Br, 0, none⟩), .pointer (some ⟨Bc, 0, none⟩)] W fun e W' => (∃ v, e = .returned v) ∧
      ((∃ xs, xs.map (·.1) = List.range N ∧ J xs W') ∨ (∃ pre, True ∧ Jx pre W')) := by
  have hmul : (r : Int) * (c : Int) = (N : Int) := by rw [← hN]; simp
  have hN1 : N ≤ 144 := by
    have := Nat.mul_le_mul hr.2 hc.2
    omega
  have hc0 : 0 < c := by omega
  clear hN
  refine callsIn_of_wp Try.func76 rfl hF ?_ hro
  simp only [Try.ntmps76, List.size_toArray, List.length_cons, List.length_nil, Nat.reduceAdd, Nat.reduceSub, Array.replicate_succ, Array.replicate_zero, List.push_toArray, List.append_toArray, List.nil_append, List.cons_append]
  gi_wp2
  gi_loopw [4, 8] (fun s4 s8 wr => ∃ (k : Nat) (xs : List (Pl N)), k ≤ N ∧ s8 = .int .i64 k ∧ xs.map (·.1) = List.range k ∧ J xs wr ∧ wr.cell? ⟨Br, 0, none⟩ = some (.int .i64 r) ∧ wr.cell? ⟨Bc, 0, none⟩ = some (.int .i64 c) ∧ W.heap.size ≤ wr.heap.size) (fun s4 s8 wr => N - (intOf s8).toNat)
  case atStart => exact ⟨0, [], by omega, rfl, rfl, h0, hBr, hBc, Nat.le_refl _⟩
  case round =>
    obtain ⟨k, xs, hk, rfl, hxs, hJs, hr2, hc2, hsz⟩ := hrel
    have hxl : xs.length = k := by have := congrArg List.length hxs; simpa using this
    by_cases hlt : k < N
    · have hcz : (c : Int) ≠ 0 := by omega
      have hcz2 : ¬ c = 0 := by omega
      have hY2 := fun (m : Nat) => hY xs ⟨k, hlt⟩ (wr.drewN m) (hJ xs wr _ none hJs (grownBy_drewN wr m) (fun r e => by cases e)) (by omega)
      have HY := Lib.hid hY2
      clear hY hY2
      gi_wp2
      refine region_headF (C := fun w' => ∃ m, w' = wr.drewN m) hro 7 (by kernel_rfl) (by kernel_rfl) ⟨1, rfl⟩ ?_
      simp only [List.take_succ_cons, List.take_zero, List.drop_succ_cons, List.drop_zero]
      repeat (gi_big_quiet_step (fail))
      refine wpQuietIn_nil ?_; rintro _ ⟨m, rfl⟩
      obtain ⟨fn, tmps, assign, body, hy, hR⟩ := HY.out m
      dsimp only [encP] at hy
      have hd0 : (k : Int) / (c : Int) = ((k / c : Nat) : Int) := by simp
      have hdl : k / c ≤ k := Nat.div_le_self k c
      have hd1 : ((k / c : Nat) : Int) = wrap64 ((k : Int) / (c : Int)) := by
        rw [hd0]
        generalize k / c = d at hdl ⊢
        rw [IntWalk.wrap64_in _ ⟨by omega, by omega⟩]
      have hd2 : ((k % c : Nat) : Int) = (k : Int) % (c : Int) := by simp
      rw [hd1, hd2] at hy
      clear hd0 hd1 hd2
      gi_wp2
      refine hR.mono ?_
      rintro e W3 (⟨rfl, hJ3, hs3, hk3, hk4⟩ | ⟨rfl, hJx3⟩)
      · gi_wp2
        go_roundw
        case rel => exact ⟨k + 1, xs ++ [⟨k, hlt⟩], by omega, by go_num, by rw [List.map_append, hxs, List.range_succ]; rfl, hJ3, hk3.trans hr2, hk4.trans hc2, Nat.le_trans hsz hs3⟩
        case measure => simp [intOf]; omega
      · gi_wp2
        refine bodyPost_ret (results_none rfl _ _ _) rfl ?_
        exact ⟨⟨_, rfl⟩, .inr ⟨_, trivial, hJx3⟩⟩
    · obtain rfl : k = N := by omega
      gi_wp2
      go_end0
      exact ⟨⟨_, rfl⟩, .inl ⟨xs, hxs, hJs⟩⟩
end Go.Proofs.Ytlhadociaekkhaa
