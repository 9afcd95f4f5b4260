/- Matrices of small whole numbers are a ring, exactly. -/
import Derived.Test.YtlhadociaekkhaaQMatL6
import Derived.Test.YtlhadociaekkhaaQRegS
import Derived.Test.YtlhadociaekkhaaQMatL2
import Derived.Test.YtlhadociaekkhaaQF
import Derived.Deep.DeepCutAuto
import Derived.Deep.LoopGhost
import Derived.Deep.RegionWith
import Derived.WalkKit
import Derived.ProofKit
import Derived.OpenShut
import Derived.ShutString
import Derived.ChangeOld
import Derived.Below
import Derived.Lib.SmallJoins
set_option linter.unusedSimpArgs false
set_option linter.unusedVariables false
namespace Go.Proofs.Ytlhadociaekkhaa.matWhole
open Go.ChangeShapes Go.WideShapes Go.ChangeAt Go.RowKit
open Go.ChangeMaps (open_string shut_string)
open Go.Joins
set_option linter.unusedVariables false
theorem own : ownKnob Try.prog.godebug = none := by kernel_rfl
theorem laidOut : laidOutB Try.prog = true := by kernel_rfl
def IsRow (k : IntKind) (w : World) (a : Option Addr) (len cap : Nat) (zs : List Int) : Prop :=
  (a = none ∧ len = 0 ∧ cap = 0 ∧ zs = []) ∨
  ∃ x, a = some x ∧ len ≤ cap ∧ cap ≤ maxLen ∧ zs.length = cap ∧ (∀ i, i < zs.length → w.cell? (x.add i) = some (.int k (zs.getD i 0))) ∧ ∀ n ∈ zs, (Lit.int k n).wf = true
set_option maxHeartbeats 8000000 in
set_option maxRecDepth 100000 in
theorem walk (w : World) (S : FourX) (w0 : S.ok w) (a1 : Option Addr) (lena1 capa1 : Nat) (za1 : List Int) (w1 : IsRow .i64 w a1 lena1 capa1 za1) (a2 : Option Addr) (lena2 capa2 : Nat) (za2 : List Int) (w2 : IsRow .i64 w a2 lena2 capa2 za2) (a3 : Option Addr) (lena3 capa3 : Nat) (za3 : List Int) (w3 : IsRow .i64 w a3 lena3 capa3 za3) : -- the walk
    Calls Try.prog 9 #[S.val, .slice a1 lena1 capa1, .slice a2 lena2 capa2, .slice a3 lena3 capa3] w fun e w' => e = .returned (.bool true) ∧ Below w.heap.size w w' := by
  obtain ⟨l, rfl, hcapl, hil, hrl⟩ := RL_of w1
  have htl : capa1 ≤ 9223372036854775807 := by rcases w1 with ⟨_, _, e, _⟩ | ⟨_, _, _, e, _⟩ <;> (first | omega | (unfold maxLen at e; exact e))
  clear w1
  have rsl := hrl.rs hcapl htl
  obtain ⟨k, rfl, hcapk, hik, hrk⟩ := RL_of w2
  have htk : capa2 ≤ 9223372036854775807 := by rcases w2 with ⟨_, _, e, _⟩ | ⟨_, _, _, e, _⟩ <;> (first | omega | (unfold maxLen at e; exact e))
  clear w2
  have rsk := hrk.rs hcapk htk
  obtain ⟨n, rfl, hcapn, hin, hrn⟩ := RL_of w3
  have htn : capa3 ≤ 9223372036854775807 := by rcases w3 with ⟨_, _, e, _⟩ | ⟨_, _, _, e, _⟩ <;> (first | omega | (unfold maxLen at e; exact e))
  clear w3
  have rsn := hrn.rs hcapn htn
  have hkn := lKnown7
  go_enter Try.func9, Try.ntmps9
  go_upto_region 2 with ((go_at_call 8; first | (with_reducible refine Calls_past2 (hkn _) (fun z => ?_)) | (with_reducible refine Calls_past (hkn _) (fun z => ?_))))
  refine wp_gen (fun V0 hW => ?_)
  have hB0 : Below w.heap.size w V0 := by rw [hW]; (repeat (first | assumption | exact Below.refl _ _ | with_reducible refine past_t _ ?_ | with_reducible refine below_a _ ?_ | with_reducible refine Below.drew ?_ | with_reducible refine below_d _ ?_ | (with_reducible refine Below.setCell ?_ (by (show _ ≤ _; repeat (first | exact Nat.le_refl _ | assumption | (omega; done) | with_reducible exact le_past (Nat.le_refl _) | with_reducible refine le_past ?_ | with_reducible refine le_al ?_ | with_reducible refine le_set ?_ | with_reducible refine le_p1 ?_))) _)))
  have hb0 : Blk V0 w.heap.size 59 (arr4 S 0) := by rw [hW]; exact (Blk.new w _ _).keep (by (repeat (first | assumption | exact Below.refl _ _ | with_reducible refine past_t _ ?_ | with_reducible refine below_a _ ?_ | with_reducible refine Below.drew ?_ | with_reducible refine below_d _ ?_ | (with_reducible refine Below.setCell ?_ (by (show _ ≤ _; repeat (first | exact Nat.le_refl _ | assumption | (omega; done) | with_reducible exact le_past (Nat.le_refl _) | with_reducible refine le_past ?_ | with_reducible refine le_al ?_ | with_reducible refine le_set ?_ | with_reducible refine le_p1 ?_))) _))))
  clear hW
  go_wp2_with fail
  go_loopg [10] 4 (fun g s10 wr => ∃ k : Nat, k ≤ 4 ∧ 4 ≤ g + k ∧ s10 = .int .i64 k ∧ Below w.heap.size w wr ∧ Blk wr w.heap.size 59 (arr4 S k))
  case atStart => exact ⟨0, by omega, by omega, rfl, hB0, hb0⟩
  case round =>
    obtain ⟨k, hk, hg, rfl, hB, hb⟩ := hrel
    have hz := hb.lt
    rcases (by omega : k = 0 ∨ k = 1 ∨ k = 2 ∨ k = 3 ∨ k = 4) with rfl | rfl | rfl | rfl | rfl
    · have hc : wr.cell? ⟨w.heap.size, 0, none⟩ = some (.int .i64 S.a) := hb.cell 0
      have hm := hb.mark 0
      have hx := w0.ha
      have HB := Lib.hid hB
      have HBL := Lib.hid hb
      clear hB hb hB0 hb0
      have m0 := Int.emod_nonneg S.a (show (5 : Int) ≠ 0 by decide)
      have m1 := Int.emod_lt_of_pos S.a (show (0 : Int) < 5 by decide)
      have hpk : ∀ W, Calls Try.prog 42 #[.int .i64 S.a, .int .i64 5] W fun e w' => e = .returned (.int .i64 (S.a % 5)) ∧ w' = W := fun W => pPick _ 5 W hx.1 hx.2 (by omega) (by omega)
      generalize hy : S.a % 5 = y at m0 m1 hpk
      go_wp2_with (go_at_call 42; refine (hpk _).mono ?_; rintro e w2 ⟨rfl, rfl⟩)
      go_roundg 3
      case measure => omega
      case rel =>
        rw [← hy]
        exact ⟨1, by omega, by omega, rfl, HB.out.setCell (Nat.le_refl _) _, (HBL.out.set 0 _)⟩
    · have hc : wr.cell? ⟨w.heap.size, 1, none⟩ = some (.int .i64 S.b) := hb.cell 1
      have hm := hb.mark 1
      have hx := w0.hb
      have HB := Lib.hid hB
      have HBL := Lib.hid hb
      clear hB hb hB0 hb0
      have m0 := Int.emod_nonneg S.b (show (5 : Int) ≠ 0 by decide)
      have m1 := Int.emod_lt_of_pos S.b (show (0 : Int) < 5 by decide)
      have hpk : ∀ W, Calls Try.prog 42 #[.int .i64 S.b, .int .i64 5] W fun e w' => e = .returned (.int .i64 (S.b % 5)) ∧ w' = W := fun W => pPick _ 5 W hx.1 hx.2 (by omega) (by omega)
      generalize hy : S.b % 5 = y at m0 m1 hpk
      go_wp2_with (go_at_call 42; refine (hpk _).mono ?_; rintro e w2 ⟨rfl, rfl⟩)
      go_roundg 2
      case measure => omega
      case rel =>
        rw [← hy]
        exact ⟨2, by omega, by omega, rfl, HB.out.setCell (Nat.le_refl _) _, (HBL.out.set 1 _)⟩
    · have hc : wr.cell? ⟨w.heap.size, 2, none⟩ = some (.int .i64 S.c) := hb.cell 2
      have hm := hb.mark 2
      have hx := w0.hc
      have HB := Lib.hid hB
      have HBL := Lib.hid hb
      clear hB hb hB0 hb0
      have m0 := Int.emod_nonneg S.c (show (5 : Int) ≠ 0 by decide)
      have m1 := Int.emod_lt_of_pos S.c (show (0 : Int) < 5 by decide)
      have hpk : ∀ W, Calls Try.prog 42 #[.int .i64 S.c, .int .i64 5] W fun e w' => e = .returned (.int .i64 (S.c % 5)) ∧ w' = W := fun W => pPick _ 5 W hx.1 hx.2 (by omega) (by omega)
      generalize hy : S.c % 5 = y at m0 m1 hpk
      go_wp2_with (go_at_call 42; refine (hpk _).mono ?_; rintro e w2 ⟨rfl, rfl⟩)
      go_roundg 1
      case measure => omega
      case rel =>
        rw [← hy]
        exact ⟨3, by omega, by omega, rfl, HB.out.setCell (Nat.le_refl _) _, (HBL.out.set 2 _)⟩
    · have hc : wr.cell? ⟨w.heap.size, 3, none⟩ = some (.int .i64 S.d) := hb.cell 3
      have hm := hb.mark 3
      have hx := w0.hd
      have HB := Lib.hid hB
      have HBL := Lib.hid hb
      clear hB hb hB0 hb0
      have m0 := Int.emod_nonneg S.d (show (5 : Int) ≠ 0 by decide)
      have m1 := Int.emod_lt_of_pos S.d (show (0 : Int) < 5 by decide)
      have hpk : ∀ W, Calls Try.prog 42 #[.int .i64 S.d, .int .i64 5] W fun e w' => e = .returned (.int .i64 (S.d % 5)) ∧ w' = W := fun W => pPick _ 5 W hx.1 hx.2 (by omega) (by omega)
      generalize hy : S.d % 5 = y at m0 m1 hpk
      go_wp2_with (go_at_call 42; refine (hpk _).mono ?_; rintro e w2 ⟨rfl, rfl⟩)
      go_roundg 0
      case measure => omega
      case rel =>
        rw [← hy]
        exact ⟨4, by omega, by omega, rfl, HB.out.setCell (Nat.le_refl _) _, (HBL.out.set 3 _)⟩
    · skip
      clear hB0 hb0
      obtain ⟨R, hRx, hR⟩ : ∃ R : Nat, 1 + S.a % 5 = (R : Int) ∧ (1 ≤ R ∧ R ≤ 5) := ⟨(1 + S.a % 5).toNat, by omega, by omega, by omega⟩
      obtain ⟨K, hKx, hK⟩ : ∃ K : Nat, 1 + S.b % 5 = (K : Int) ∧ (1 ≤ K ∧ K ≤ 5) := ⟨(1 + S.b % 5).toNat, by omega, by omega, by omega⟩
      obtain ⟨J, hJx, hJ⟩ : ∃ J : Nat, 1 + S.c % 5 = (J : Int) ∧ (1 ≤ J ∧ J ≤ 5) := ⟨(1 + S.c % 5).toNat, by omega, by omega, by omega⟩
      obtain ⟨Z, hZx, hZ⟩ : ∃ Z : Nat, 1 + S.d % 5 = (Z : Int) ∧ (1 ≤ Z ∧ Z ≤ 5) := ⟨(1 + S.d % 5).toNat, by omega, by omega, by omega⟩
      have fo0 : Fo wr w.heap.size R K J Z := by have := hb.fo; simp only [sh4, Nat.reduceLT, if_true, hRx, hKx, hJx, hZx] at this; exact this
      go_upto_region 7 with ((go_at_call 10; refine (uNew _).mono ?_; rintro e w1 ⟨rfl, rfl⟩))
      refine wp_gen (fun W1 hW => ?_)
      have hb1 : Below wr.heap.size wr W1 := by rw [hW]; (repeat (first | assumption | exact Below.refl _ _ | with_reducible refine past_t _ ?_ | with_reducible refine below_a _ ?_ | with_reducible refine Below.drew ?_ | with_reducible refine below_d _ ?_ | (with_reducible refine Below.setCell ?_ (by (show _ ≤ _; repeat (first | exact Nat.le_refl _ | assumption | (omega; done) | with_reducible exact le_past (Nat.le_refl _) | with_reducible refine le_past ?_ | with_reducible refine le_al ?_ | with_reducible refine le_set ?_ | with_reducible refine le_p1 ?_))) _)))
      replace hB := bel_trans hB hb1
      have fo := fo0.stp (Stp.bel (U := wr.heap.size) (V := wr.heap.size) hb1) (by omega) (by omega)
      have hU : UA wr.heap.size false 0 W1 := by rw [hW]; exact ⟨by (first | (simp [go_sem]; done) | (simp [go_sem, ↓IntWalk.iteOmega]; done)), by (first | (simp [go_sem]; done) | (simp [go_sem, ↓IntWalk.iteOmega]; done)), by (first | (simp [go_sem]; done) | (simp [go_sem, ↓IntWalk.iteOmega]; done)), by (first | (simp [go_sem]; done) | (simp [go_sem, ↓IntWalk.iteOmega]; done)), by (first | (simp [go_sem]; done) | (simp [go_sem, ↓IntWalk.iteOmega]; done))⟩
      have il := iis_of rsl hB
      have ik := iis_of rsk hB
      have in_ := iis_of rsn hB
      have hUl := hU.lt
      clear hW hb1 fo0 hb hk hg
      have IL := Lib.hid il.1
      have IK := Lib.hid ik.1
      have IN := Lib.hid in_.1
      have FS := Lib.hid (And.intro hB (And.intro hU (And.intro fo (And.intro il (And.intro ik in_)))))
      have keepS : ∀ w' : World, Below W1.heap.size W1 w' → (Below W1.heap.size W1 w' ∧ w'.cell? ⟨w.heap.size, 0, none⟩ = some (.int .i64 (R : Int)) ∧ w'.cell? ⟨w.heap.size, 1, none⟩ = some (.int .i64 (K : Int)) ∧ w'.cell? ⟨w.heap.size, 2, none⟩ = some (.int .i64 (J : Int)) ∧ w'.cell? ⟨w.heap.size, 3, none⟩ = some (.int .i64 (Z : Int))) := fun w' h => ⟨h, cell_keep fo.c0 h, cell_keep fo.c1 h, cell_keep fo.c2 h, cell_keep fo.c3 h⟩
      have KS := Lib.hid keepS
      clear keepS hB hU fo il ik in_
      go_cut [12, 13, 14] (fun s12 s13 s14 wc => ∃ (k1 k2 k3 : Nat) (A1 : Option Addr) (c1 : Nat) (A2 : Option Addr) (c2 : Nat) (A3 : Option Addr) (c3 : Nat), s12 = .pointer (some ⟨k1, 0, none⟩) ∧ s13 = .pointer (some ⟨k2, 0, none⟩) ∧ s14 = .pointer (some ⟨k3, 0, none⟩) ∧ Below W1.heap.size W1 wc ∧ W1.heap.size ≤ k1 ∧ W1.heap.size ≤ k2 ∧ W1.heap.size ≤ k3 ∧ Bx wc k1 (R : Int) (K : Int) (.slice A1 (R * K) c1) ∧ Bx wc k2 (K : Int) (J : Int) (.slice A2 (K * J) c2) ∧ Bx wc k3 (J : Int) (Z : Int) (.slice A3 (J * Z) c3) ∧ LIs wc A1 (R * K) c1 (smlL l (R * K)) W1.heap.size wc.heap.size ∧ LIs wc A2 (K * J) c2 (smlL k (K * J)) W1.heap.size wc.heap.size ∧ LIs wc A3 (J * Z) c3 (smlL n (J * Z)) W1.heap.size wc.heap.size)
      case first =>
        have HC1 := Lib.hid (fun W (h : Below W1.heap.size W1 W) => lSmall (R := R) (C := K) (w := W) (IL.out.keep h) hil hR hK)
        have HC2 := Lib.hid (fun W (h : Below W1.heap.size W1 W) => lSmall (R := K) (C := J) (w := W) (IK.out.keep h) hik hK hJ)
        have HC3 := Lib.hid (fun W (h : Below W1.heap.size W1 W) => lSmall (R := J) (C := Z) (w := W) (IN.out.keep h) hin hJ hZ)
        refine wp_region_held_drew (S := fun w' => Below W1.heap.size W1 w' ∧ w'.cell? ⟨w.heap.size, 0, none⟩ = some (.int .i64 (R : Int)) ∧ w'.cell? ⟨w.heap.size, 1, none⟩ = some (.int .i64 (K : Int)) ∧ w'.cell? ⟨w.heap.size, 2, none⟩ = some (.int .i64 (J : Int)) ∧ w'.cell? ⟨w.heap.size, 3, none⟩ = some (.int .i64 (Z : Int))) (by kernel_rfl) ?_ (fun hS0 => ?_)
        · exact KS.out _ (by (repeat (first | assumption | exact Below.refl _ _ | with_reducible refine past_t _ ?_ | with_reducible refine below_a _ ?_ | with_reducible refine Below.drew ?_ | with_reducible refine below_d _ ?_ | (with_reducible refine Below.setCell ?_ (by (show _ ≤ _; repeat (first | exact Nat.le_refl _ | assumption | (omega; done) | with_reducible exact le_past (Nat.le_refl _) | with_reducible refine le_past ?_ | with_reducible refine le_al ?_ | with_reducible refine le_set ?_ | with_reducible refine le_p1 ?_))) _))))
        refine wpAnyH_take (i := 0) (v := ?_) rfl (by kernel_rfl) (by kernel_rfl) (by kernel_rfl) (fun _ _ _ h => h) (Or.inl ⟨by rfl, ?_⟩) (by assumption) ?_; rotate_left 1
        · intro wS hSw; (try dsimp only at hSw); go_split_ands; go_simp <;> with_reducible rfl
        simp only [Act.put, List.getElem_toArray, List.getElem_cons_zero, List.getElem_cons_succ, List.setIfInBounds_toArray, List.set_cons_zero, List.set_cons_succ]
        refine wpAnyH_take (i := 1) (v := ?_) rfl (by kernel_rfl) (by kernel_rfl) (by kernel_rfl) (fun _ _ _ h => h) (Or.inl ⟨by rfl, ?_⟩) (by assumption) ?_; rotate_left 1
        · intro wS hSw; (try dsimp only at hSw); go_split_ands; go_simp <;> with_reducible rfl
        simp only [Act.put, List.getElem_toArray, List.getElem_cons_zero, List.getElem_cons_succ, List.setIfInBounds_toArray, List.set_cons_zero, List.set_cons_succ]
        refine wpAnyH_take (i := 2) (v := ?_) rfl (by kernel_rfl) (by kernel_rfl) (by kernel_rfl) (fun _ _ _ h => h) (Or.inl ⟨by rfl, ?_⟩) (by assumption) ?_; rotate_left 1
        · intro wS hSw; (try dsimp only at hSw); go_split_ands; go_simp <;> with_reducible rfl
        simp only [Act.put, List.getElem_toArray, List.getElem_cons_zero, List.getElem_cons_succ, List.setIfInBounds_toArray, List.set_cons_zero, List.set_cons_succ]
        refine wpAnyH_take (i := 3) (v := ?_) rfl (by kernel_rfl) (by kernel_rfl) (by kernel_rfl) (fun _ _ _ h => h) (Or.inl ⟨by rfl, ?_⟩) (by assumption) ?_; rotate_left 1
        · intro wS hSw; (try dsimp only at hSw); go_split_ands; go_simp <;> with_reducible rfl
        simp only [Act.put, List.getElem_toArray, List.getElem_cons_zero, List.getElem_cons_succ, List.setIfInBounds_toArray, List.set_cons_zero, List.set_cons_succ]
        refine wpAnyH_take (i := 4) (v := ?_) rfl (by kernel_rfl) (by kernel_rfl) (by kernel_rfl) (fun _ _ _ h => h) (Or.inl ⟨by rfl, ?_⟩) (by assumption) ?_; rotate_left 1
        · intro wS hSw; (try dsimp only at hSw); go_split_ands; go_simp <;> with_reducible rfl
        simp only [Act.put, List.getElem_toArray, List.getElem_cons_zero, List.getElem_cons_succ, List.setIfInBounds_toArray, List.set_cons_zero, List.set_cons_succ]
        refine wpAnyH_take (i := 6) (v := ?_) rfl (by kernel_rfl) (by kernel_rfl) (by kernel_rfl) (fun _ _ _ h => h) (Or.inl ⟨by rfl, ?_⟩) (by assumption) ?_; rotate_left 1
        · intro wS hSw; (try dsimp only at hSw); go_split_ands; go_simp <;> with_reducible rfl
        simp only [Act.put, List.getElem_toArray, List.getElem_cons_zero, List.getElem_cons_succ, List.setIfInBounds_toArray, List.set_cons_zero, List.set_cons_succ]
        refine wpAnyH_take (i := 7) (v := ?_) rfl (by kernel_rfl) (by kernel_rfl) (by kernel_rfl) (fun _ _ _ h => h) (Or.inl ⟨by rfl, ?_⟩) (by assumption) ?_; rotate_left 1
        · intro wS hSw; (try dsimp only at hSw); go_split_ands; go_simp <;> with_reducible rfl
        simp only [Act.put, List.getElem_toArray, List.getElem_cons_zero, List.getElem_cons_succ, List.setIfInBounds_toArray, List.set_cons_zero, List.set_cons_succ]
        refine wpAnyH_take (i := 8) (v := ?_) rfl (by kernel_rfl) (by kernel_rfl) (by kernel_rfl) (fun _ _ _ h => h) (Or.inl ⟨by rfl, ?_⟩) (by assumption) ?_; rotate_left 1
        · intro wS hSw; (try dsimp only at hSw); go_split_ands; go_simp <;> with_reducible rfl
        simp only [Act.put, List.getElem_toArray, List.getElem_cons_zero, List.getElem_cons_succ, List.setIfInBounds_toArray, List.set_cons_zero, List.set_cons_succ]
        refine wpAnyH_take (i := 9) (v := ?_) rfl (by kernel_rfl) (by kernel_rfl) (by kernel_rfl) (fun _ _ _ h => h) (Or.inl ⟨by rfl, ?_⟩) (by assumption) ?_; rotate_left 1
        · intro wS hSw; (try dsimp only at hSw); go_split_ands; go_simp <;> with_reducible rfl
        simp only [Act.put, List.getElem_toArray, List.getElem_cons_zero, List.getElem_cons_succ, List.setIfInBounds_toArray, List.set_cons_zero, List.set_cons_succ]
        refine wpAnyH_take (i := 10) (v := ?_) rfl (by kernel_rfl) (by kernel_rfl) (by kernel_rfl) (fun _ _ _ h => h) (Or.inl ⟨by rfl, ?_⟩) (by assumption) ?_; rotate_left 1
        · intro wS hSw; (try dsimp only at hSw); go_split_ands; go_simp <;> with_reducible rfl
        simp only [Act.put, List.getElem_toArray, List.getElem_cons_zero, List.getElem_cons_succ, List.setIfInBounds_toArray, List.set_cons_zero, List.set_cons_succ]
        refine wpAnyH_take (i := 12) (v := ?_) rfl (by kernel_rfl) (by kernel_rfl) (by kernel_rfl) (fun _ _ _ h => h) (Or.inl ⟨by rfl, ?_⟩) (by assumption) ?_; rotate_left 1
        · intro wS hSw; (try dsimp only at hSw); go_split_ands; go_simp <;> with_reducible rfl
        simp only [Act.put, List.getElem_toArray, List.getElem_cons_zero, List.getElem_cons_succ, List.setIfInBounds_toArray, List.set_cons_zero, List.set_cons_succ]
        refine wpAnyH_take (i := 13) (v := ?_) rfl (by kernel_rfl) (by kernel_rfl) (by kernel_rfl) (fun _ _ _ h => h) (Or.inl ⟨by rfl, ?_⟩) (by assumption) ?_; rotate_left 1
        · intro wS hSw; (try dsimp only at hSw); go_split_ands; go_simp <;> with_reducible rfl
        simp only [Act.put, List.getElem_toArray, List.getElem_cons_zero, List.getElem_cons_succ, List.setIfInBounds_toArray, List.set_cons_zero, List.set_cons_succ]
        refine wpAnyH_take (i := 14) (v := ?_) rfl (by kernel_rfl) (by kernel_rfl) (by kernel_rfl) (fun _ _ _ h => h) (Or.inl ⟨by rfl, ?_⟩) (by assumption) ?_; rotate_left 1
        · intro wS hSw; (try dsimp only at hSw); go_split_ands; go_simp <;> with_reducible rfl
        simp only [Act.put, List.getElem_toArray, List.getElem_cons_zero, List.getElem_cons_succ, List.setIfInBounds_toArray, List.set_cons_zero, List.set_cons_succ]
        refine wpAnyH_take (i := 15) (v := ?_) rfl (by kernel_rfl) (by kernel_rfl) (by kernel_rfl) (fun _ _ _ h => h) (Or.inl ⟨by rfl, ?_⟩) (by assumption) ?_; rotate_left 1
        · intro wS hSw; (try dsimp only at hSw); go_split_ands; go_simp <;> with_reducible rfl
        simp only [Act.put, List.getElem_toArray, List.getElem_cons_zero, List.getElem_cons_succ, List.setIfInBounds_toArray, List.set_cons_zero, List.set_cons_succ]
        refine wpAnyH_take (i := 16) (v := ?_) rfl (by kernel_rfl) (by kernel_rfl) (by kernel_rfl) (fun _ _ _ h => h) (Or.inl ⟨by rfl, ?_⟩) (by assumption) ?_; rotate_left 1
        · intro wS hSw; (try dsimp only at hSw); go_split_ands; go_simp <;> with_reducible rfl
        simp only [Act.put, List.getElem_toArray, List.getElem_cons_zero, List.getElem_cons_succ, List.setIfInBounds_toArray, List.set_cons_zero, List.set_cons_succ]
        refine six_at (fun b1 b2 b3 a1 a2 a3 x1 x2 x3 t1 t2 t3 w => J6 W1 (fun w x => Made W1 w R K (smlL l (R * K)) x) (fun w x => Made W1 w K J (smlL k (K * J)) x) (fun w x => Made W1 w J Z (smlL n (J * Z)) x) b1 b2 b3 a1 a2 a3 x1 x2 x3 t1 t2 t3 w) (by kernel_rfl) (by kernel_rfl) ?_ (by simp only [put6, Act.put, List.setIfInBounds_toArray, List.set_cons_zero, List.set_cons_succ]) ⟨fun h => absurd h (by decide), fun h => absurd h (by decide), fun h => absurd h (by decide), fun h => absurd h (by decide), fun h => absurd h (by decide), fun h => absurd h (by decide), fun h => absurd h (by decide), fun h => absurd h (by decide), fun h => absurd h (by decide)⟩ hS0 ?_ ?_ ?_ ?_ ?_ ?_ ?_
        · intro b1 b2 b3 a1 a2 a3 g1 g2 g3
          cases b1 <;> cases b2 <;> cases b3 <;> cases a1 <;> cases a2 <;> cases a3 <;> first | (exact absurd (g1 rfl) (by decide)) | (exact absurd (g2 rfl) (by decide)) | (exact absurd rfl g3) | kernel_rfl
        · intro a1 a2 a3 a w hJ hSw
          obtain ⟨x1, x2, x3, t1, t2, t3, rfl, f⟩ := hJ
          refine then6 rfl (fun KK hK => ?_)
          simp only [put6, Act.put, List.setIfInBounds_toArray, List.set_cons_zero, List.set_cons_succ]
          go_wp2_with (go_at_call 43; refine (HC1.out _ hSw.1).mono ?_; rintro e w2 ⟨A, cp, rfl, ho, hb⟩)
          exact hK.out _ _ (KS.out _ (hSw.1.trans (hb.mono hSw.1.size))) ⟨_, x2, x3, t1, t2, t3, by simp only [put6, Act.put, List.setIfInBounds_toArray, List.set_cons_zero, List.set_cons_succ], ⟨fun _ => ⟨A, cp, rfl, ho.base hSw.1.size⟩, fun h => absurd h (by decide), fun h => absurd h (by decide), fun h => (f.n1 h).keep hb, fun h => (f.n2 h).keep hb, fun h => (f.n3 h).keep hb, f.d12, f.d13, f.d23⟩⟩
        · intro a1 a2 a3 a w hJ hSw
          obtain ⟨x1, x2, x3, t1, t2, t3, rfl, f⟩ := hJ
          refine then6 rfl (fun KK hK => ?_)
          simp only [put6, Act.put, List.setIfInBounds_toArray, List.set_cons_zero, List.set_cons_succ]
          go_wp2_with (go_at_call 43; refine (HC2.out _ hSw.1).mono ?_; rintro e w2 ⟨A, cp, rfl, ho, hb⟩)
          exact hK.out _ _ (KS.out _ (hSw.1.trans (hb.mono hSw.1.size))) ⟨x1, _, x3, t1, t2, t3, by simp only [put6, Act.put, List.setIfInBounds_toArray, List.set_cons_zero, List.set_cons_succ], ⟨fun h => (f.m1 h).keep hb, fun _ => ⟨A, cp, rfl, ho.base hSw.1.size⟩, fun h => absurd h (by decide), fun h => (f.n1 h).keep hb, fun h => (f.n2 h).keep hb, fun h => (f.n3 h).keep hb, f.d12, f.d13, f.d23⟩⟩
        · intro a1 a2 a3 a w hJ hSw
          obtain ⟨x1, x2, x3, t1, t2, t3, rfl, f⟩ := hJ
          refine then6 rfl (fun KK hK => ?_)
          simp only [put6, Act.put, List.setIfInBounds_toArray, List.set_cons_zero, List.set_cons_succ]
          go_wp2_with (go_at_call 43; refine (HC3.out _ hSw.1).mono ?_; rintro e w2 ⟨A, cp, rfl, ho, hb⟩)
          exact hK.out _ _ (KS.out _ (hSw.1.trans (hb.mono hSw.1.size))) ⟨x1, x2, _, t1, t2, t3, by simp only [put6, Act.put, List.setIfInBounds_toArray, List.set_cons_zero, List.set_cons_succ], ⟨fun h => (f.m1 h).keep hb, fun h => (f.m2 h).keep hb, fun _ => ⟨A, cp, rfl, ho.base hSw.1.size⟩, fun h => (f.n1 h).keep hb, fun h => (f.n2 h).keep hb, fun h => (f.n3 h).keep hb, f.d12, f.d13, f.d23⟩⟩
        · intro b1 b2 b3 a2 a3 a w hJ hSw
          obtain ⟨x1, x2, x3, t1, t2, t3, rfl, f⟩ := hJ
          refine then6 rfl (fun KK hK => ?_)
          simp only [put6, Act.put, List.setIfInBounds_toArray, List.set_cons_zero, List.set_cons_succ]
          go_wp2_with fail
          have hb : Below w.heap.size w (w.alloc (.cells #[.int .i64 0, .int .i64 0, .slice none 0 0] 24)) := (Below.refl _ _).alloc (Nat.le_refl _) _
          exact hK.out _ _ (KS.out _ (hSw.1.trans (hb.mono hSw.1.size))) ⟨x1, x2, x3, _, t2, t3, by simp only [put6, Act.put, List.setIfInBounds_toArray, List.set_cons_zero, List.set_cons_succ], ⟨fun h => (f.m1 h).keep hb, fun h => (f.m2 h).keep hb, fun h => (f.m3 h).keep hb, fun _ => newM W1 w hSw.1.size, fun h => (f.n2 h).keep hb, fun h => (f.n3 h).keep hb, fun _ h => Ne.symm (f.n2 h).ne, fun _ h => Ne.symm (f.n3 h).ne, f.d23⟩⟩
        · intro b1 b2 b3 a1 a3 a w hJ hSw
          obtain ⟨x1, x2, x3, t1, t2, t3, rfl, f⟩ := hJ
          refine then6 rfl (fun KK hK => ?_)
          simp only [put6, Act.put, List.setIfInBounds_toArray, List.set_cons_zero, List.set_cons_succ]
          go_wp2_with fail
          have hb : Below w.heap.size w (w.alloc (.cells #[.int .i64 0, .int .i64 0, .slice none 0 0] 24)) := (Below.refl _ _).alloc (Nat.le_refl _) _
          exact hK.out _ _ (KS.out _ (hSw.1.trans (hb.mono hSw.1.size))) ⟨x1, x2, x3, t1, _, t3, by simp only [put6, Act.put, List.setIfInBounds_toArray, List.set_cons_zero, List.set_cons_succ], ⟨fun h => (f.m1 h).keep hb, fun h => (f.m2 h).keep hb, fun h => (f.m3 h).keep hb, fun h => (f.n1 h).keep hb, fun _ => newM W1 w hSw.1.size, fun h => (f.n3 h).keep hb, fun h _ => (f.n1 h).ne, f.d13, fun _ h => Ne.symm (f.n3 h).ne⟩⟩
        · intro b1 b2 b3 a1 a2 a w hJ hSw
          obtain ⟨x1, x2, x3, t1, t2, t3, rfl, f⟩ := hJ
          refine then6 rfl (fun KK hK => ?_)
          simp only [put6, Act.put, List.setIfInBounds_toArray, List.set_cons_zero, List.set_cons_succ]
          go_wp2_with fail
          have hb : Below w.heap.size w (w.alloc (.cells #[.int .i64 0, .int .i64 0, .slice none 0 0] 24)) := (Below.refl _ _).alloc (Nat.le_refl _) _
          exact hK.out _ _ (KS.out _ (hSw.1.trans (hb.mono hSw.1.size))) ⟨x1, x2, x3, t1, t2, _, by simp only [put6, Act.put, List.setIfInBounds_toArray, List.set_cons_zero, List.set_cons_succ], ⟨fun h => (f.m1 h).keep hb, fun h => (f.m2 h).keep hb, fun h => (f.m3 h).keep hb, fun h => (f.n1 h).keep hb, fun h => (f.n2 h).keep hb, fun _ => newM W1 w hSw.1.size, f.d12, fun h _ => (f.n1 h).ne, fun h _ => (f.n2 h).ne⟩⟩
        · intro a w hJ hSw
          obtain ⟨x1, x2, x3, t1, t2, t3, rfl, f⟩ := hJ
          obtain ⟨A1, c1, rfl, ho1⟩ := f.m1 rfl
          obtain ⟨k1, rfl, hk1, hn1⟩ := f.n1 rfl
          obtain ⟨A2, c2, rfl, ho2⟩ := f.m2 rfl
          obtain ⟨k2, rfl, hk2, hn2⟩ := f.n2 rfl
          obtain ⟨A3, c3, rfl, ho3⟩ := f.m3 rfl
          obtain ⟨k3, rfl, hk3, hn3⟩ := f.n3 rfl
          have e12 : k1 ≠ k2 := fun h => f.d12 rfl rfl (by rw [h])
          have e13 : k1 ≠ k3 := fun h => f.d13 rfl rfl (by rw [h])
          have e23 : k2 ≠ k3 := fun h => f.d23 rfl rfl (by rw [h])
          simp only [put6, Act.put, List.setIfInBounds_toArray, List.set_cons_zero, List.set_cons_succ]
          have hV := hSw.1
          clear f
          have q0 := hn1.cell 0
          have q1 := hn1.cell 1
          have q2 := hn1.cell 2
          have p0 := hn1.mark 0
          have p1 := hn1.mark 1
          have p2 := hn1.mark 2
          simp at q0 q1 q2
          refine wpAnyH_ready (rs := [21]) (by kernel_rfl) (by simp) ?_
          refine AllReadyH.cons rfl (fun KK hK => ?_) AllReadyH.nil
          go_simp
          have hV1 := below_box hV hk1 (.int .i64 (R : Int)) (.int .i64 (K : Int)) (.slice A1 (R * K) c1)
          refine hK.out _ (boxed k1 (.int .i64 (R : Int)) (.int .i64 (K : Int)) (.slice A1 (R * K) c1) w) (KS.out _ hV1) (fun _ => ?_)
          clear q0 q1 q2 p0 p1 p2 hK KK
          replace ho1 := made_box ho1 hn1 (.int .i64 (R : Int)) (.int .i64 (K : Int)) (.slice A1 (R * K) c1)
          replace ho2 := made_box ho2 hn1 (.int .i64 (R : Int)) (.int .i64 (K : Int)) (.slice A1 (R * K) c1)
          replace ho3 := made_box ho3 hn1 (.int .i64 (R : Int)) (.int .i64 (K : Int)) (.slice A1 (R * K) c1)
          replace hn2 := blk_boxfar hn2 (Ne.symm e12) (.int .i64 (R : Int)) (.int .i64 (K : Int)) (.slice A1 (R * K) c1)
          replace hn3 := blk_boxfar hn3 (Ne.symm e13) (.int .i64 (R : Int)) (.int .i64 (K : Int)) (.slice A1 (R * K) c1)
          replace hn1 := hn1.boxed (.int .i64 (R : Int)) (.int .i64 (K : Int)) (.slice A1 (R * K) c1)
          generalize boxed k1 (.int .i64 (R : Int)) (.int .i64 (K : Int)) (.slice A1 (R * K) c1) w = w at ho1 ho2 ho3 hn1 hn2 hn3 hV1 ⊢
          have q0 := hn2.cell 0
          have q1 := hn2.cell 1
          have q2 := hn2.cell 2
          have p0 := hn2.mark 0
          have p1 := hn2.mark 1
          have p2 := hn2.mark 2
          simp at q0 q1 q2
          refine wpAnyH_ready (rs := [22]) (by kernel_rfl) (by simp) ?_
          refine AllReadyH.cons rfl (fun KK hK => ?_) AllReadyH.nil
          go_simp
          have hV2 := below_box hV1 hk2 (.int .i64 (K : Int)) (.int .i64 (J : Int)) (.slice A2 (K * J) c2)
          refine hK.out _ (boxed k2 (.int .i64 (K : Int)) (.int .i64 (J : Int)) (.slice A2 (K * J) c2) w) (KS.out _ hV2) (fun _ => ?_)
          clear q0 q1 q2 p0 p1 p2 hK KK
          replace ho1 := made_box ho1 hn2 (.int .i64 (K : Int)) (.int .i64 (J : Int)) (.slice A2 (K * J) c2)
          replace ho2 := made_box ho2 hn2 (.int .i64 (K : Int)) (.int .i64 (J : Int)) (.slice A2 (K * J) c2)
          replace ho3 := made_box ho3 hn2 (.int .i64 (K : Int)) (.int .i64 (J : Int)) (.slice A2 (K * J) c2)
          replace hn1 := blk_boxfar hn1 e12 (.int .i64 (K : Int)) (.int .i64 (J : Int)) (.slice A2 (K * J) c2)
          replace hn3 := blk_boxfar hn3 (Ne.symm e23) (.int .i64 (K : Int)) (.int .i64 (J : Int)) (.slice A2 (K * J) c2)
          replace hn2 := hn2.boxed (.int .i64 (K : Int)) (.int .i64 (J : Int)) (.slice A2 (K * J) c2)
          generalize boxed k2 (.int .i64 (K : Int)) (.int .i64 (J : Int)) (.slice A2 (K * J) c2) w = w at ho1 ho2 ho3 hn1 hn2 hn3 hV2 ⊢
          have q0 := hn3.cell 0
          have q1 := hn3.cell 1
          have q2 := hn3.cell 2
          have p0 := hn3.mark 0
          have p1 := hn3.mark 1
          have p2 := hn3.mark 2
          simp at q0 q1 q2
          refine wpAnyH_ready (rs := [23]) (by kernel_rfl) (by simp) ?_
          refine AllReadyH.cons rfl (fun KK hK => ?_) AllReadyH.nil
          go_simp
          have hV3 := below_box hV2 hk3 (.int .i64 (J : Int)) (.int .i64 (Z : Int)) (.slice A3 (J * Z) c3)
          refine hK.out _ (boxed k3 (.int .i64 (J : Int)) (.int .i64 (Z : Int)) (.slice A3 (J * Z) c3) w) (KS.out _ hV3) (fun _ => ?_)
          clear q0 q1 q2 p0 p1 p2 hK KK
          replace ho1 := made_box ho1 hn3 (.int .i64 (J : Int)) (.int .i64 (Z : Int)) (.slice A3 (J * Z) c3)
          replace ho2 := made_box ho2 hn3 (.int .i64 (J : Int)) (.int .i64 (Z : Int)) (.slice A3 (J * Z) c3)
          replace ho3 := made_box ho3 hn3 (.int .i64 (J : Int)) (.int .i64 (Z : Int)) (.slice A3 (J * Z) c3)
          replace hn1 := blk_boxfar hn1 e13 (.int .i64 (J : Int)) (.int .i64 (Z : Int)) (.slice A3 (J * Z) c3)
          replace hn2 := blk_boxfar hn2 e23 (.int .i64 (J : Int)) (.int .i64 (Z : Int)) (.slice A3 (J * Z) c3)
          replace hn3 := hn3.boxed (.int .i64 (J : Int)) (.int .i64 (Z : Int)) (.slice A3 (J * Z) c3)
          generalize boxed k3 (.int .i64 (J : Int)) (.int .i64 (Z : Int)) (.slice A3 (J * Z) c3) w = w at ho1 ho2 ho3 hn1 hn2 hn3 hV3 ⊢
          refine wpAnyH_done (by kernel_rfl) ?_ _
          go_wp2_with fail
          go_meet
          exact ⟨k1, k2, k3, A1, c1, A2, c2, A3, c3, rfl, rfl, rfl, hV3, hk1, hk2, hk3, hn1.bx, hn2.bx, hn3.bx, own_ri ho1, own_ri ho2, own_ri ho3⟩
      case rest =>
        obtain ⟨k1, k2, k3, A1, c1, A2, c2, A3, c3, rfl, rfl, rfl, hbc, hk1, hk2, hk3, v1, v2, v3, m1, m2, m3⟩ := hcut
        obtain ⟨hB, hU, fo, il, ik, in_⟩ := FS.out
        clear FS KS IL IK IN
        go_upto_region 8 with fail
        refine wp_gen (fun W2 hW => ?_)
        have hs : Stp W2.heap.size W2.heap.size W1 W2 := by rw [hW]; exact Stp.bel hbc
        have hzW2 := hs.size
        replace hB := hs.below hB (by omega) (by omega)
        replace hU := hU.stp hs (by omega) (by omega)
        replace fo := fo.stp hs (by omega) (by omega)
        replace il := il.stp hs (by omega) (by omega)
        replace ik := ik.stp hs (by omega) (by omega)
        replace in_ := in_.stp hs (by omega) (by omega)
        rw [← hW] at v1 v2 v3 m1 m2 m3
        have y1 := World.block_lt_of_cell? _ _ v1.c0
        have y2 := World.block_lt_of_cell? _ _ v2.c0
        have y3 := World.block_lt_of_cell? _ _ v3.c0
        clear hW hs hbc
        simp only at y1 y2 y3
        obtain ⟨AB, LR, BC, SM, WP, AD, BX, Y, d1, d2, d3, d4, d5, d6, d7, d8, d9, d10, d11, ⟨e1, e2, e3, e4⟩, ⟨e5, e6, e7, e8⟩, ⟨e9, e10, e11, e12⟩, jAB, jBC, jSM, jAD, jBX, ja, jb, jc, jd, jx⟩ := whole_law hR hK hJ hZ (smlL_wh l (R * K)) (smlL_wh k (K * J)) (smlL_wh n (J * Z)) (smlL_wh n (K * J)) (by rw [Nat.one_mul]; exact smlL_wh l J : Wh (smlL l J) (1 * J) (sml l) 20)
        have n1 := Nat.mul_le_mul hK.2 hJ.2
        have n2 := Nat.mul_le_mul hR.2 hJ.2
        have lb := smlL_len k (K * J)
        have lAB : AB.length ≤ 160 := mulM_len hR hJ e1
        have q1 := mulM_cnt e1
        have q2 := mulM_cnt e2
        have q3 := mulM_cnt e3
        have q4 := mulM_cnt e4
        have q5 := pairM_cnt (by omega) (by omega) (by omega) e5
        have q6 := mulM_cnt e6
        have q7 := mulM_cnt e7
        have q8 := pairM_cnt (by omega) (by omega) lAB e8
        have q9 := appM_cnt e10
        have q10 := appM_cnt e11
        have q11 := appM_cnt e12
        simp only at q1 q2 q3 q4 q5 q6 q7 q8 q9 q10 q11
        have hd := fun W A c0 (h : RS .i64 W A n.length c0 n) => lSmall (R := K) (C := J) h hin hK hJ
        have hx : ∀ W A c0, RS .i64 W A l.length c0 l → Calls Try.prog 43 #[.int .i64 1, .int .i64 (J : Int), .slice A l.length c0] W fun e w' => ∃ A' c', e = .returned (.agg #[.int .i64 1, .int .i64 (J : Int), .slice A' J c']) ∧ OwnI W w' (.slice A' J c') (smlL l J) ∧ Below W.heap.size W w' := fun W A c0 h => by have := lSmall (R := 1) (C := J) h hil ⟨by omega, by omega⟩ hJ; rw [Nat.one_mul] at this; exact this
        generalize smlL l (R * K) = la at *
        generalize smlL k (K * J) = lb at *
        generalize smlL n (J * Z) = lc at *
        generalize smlL n (K * J) = ld at *
        generalize smlL l J = lx at *
        have HX := Lib.hid hx
        clear hx n1 n2 lb lAB
        have HC := Lib.hid (hd _ _ _ in_.1)
        clear hd
        have fo_1 := fo.c1
        have fo_2 := fo.c2
        go_upto_region 9 with ((go_at_call 43; refine HC.out.mono ?_; rintro e x4 ⟨A4, c4, rfl, ho4, hb4⟩))
        clear fo_1 fo_2 HC
        have hs2 := hb4.size
        refine wp_gen (fun W3 hW => ?_)
        have hs : Stp W3.heap.size W3.heap.size W2 W3 := (Stp.bel hb4).trans (by rw [hW]; exact Stp.bel (by (repeat (first | assumption | exact Below.refl _ _ | with_reducible refine past_t _ ?_ | with_reducible refine below_a _ ?_ | with_reducible refine Below.drew ?_ | with_reducible refine below_d _ ?_ | (with_reducible refine Below.setCell ?_ (by (show _ ≤ _; repeat (first | exact Nat.le_refl _ | assumption | (omega; done) | with_reducible exact le_past (Nat.le_refl _) | with_reducible refine le_past ?_ | with_reducible refine le_al ?_ | with_reducible refine le_set ?_ | with_reducible refine le_p1 ?_))) _)))))
        have hzW3 := hs.size
        replace hB := hs.below hB (by omega) (by omega)
        replace hU := hU.stp hs (by omega) (by omega)
        replace fo := fo.stp hs (by omega) (by omega)
        replace il := il.stp hs (by omega) (by omega)
        replace ik := ik.stp hs (by omega) (by omega)
        replace in_ := in_.stp hs (by omega) (by omega)
        replace m1 := m1.stp hs (by omega) (by omega)
        replace v1 := v1.stp hs (by omega) (by omega)
        replace m2 := m2.stp hs (by omega) (by omega)
        replace v2 := v2.stp hs (by omega) (by omega)
        replace m3 := m3.stp hs (by omega) (by omega)
        replace v3 := v3.stp hs (by omega) (by omega)
        have b3 : Below x4.heap.size x4 W3 := by rw [hW]; (repeat (first | assumption | exact Below.refl _ _ | with_reducible refine past_t _ ?_ | with_reducible refine below_a _ ?_ | with_reducible refine Below.drew ?_ | with_reducible refine below_d _ ?_ | (with_reducible refine Below.setCell ?_ (by (show _ ≤ _; repeat (first | exact Nat.le_refl _ | assumption | (omega; done) | with_reducible exact le_past (Nat.le_refl _) | with_reducible refine le_past ?_ | with_reducible refine le_al ?_ | with_reducible refine le_set ?_ | with_reducible refine le_p1 ?_))) _)))
        have z_x4 : W2.heap.size ≤ x4.heap.size := hs2
        have m4 := (own_ri ho4).keep b3
        have v4 : Bx W3 x4.heap.size (K : Int) (J : Int) (.slice A4 (K * J) c4) := by rw [hW]; exact ⟨by (first | (simp [go_sem]; done) | (simp [go_sem, ↓IntWalk.iteOmega]; done)), by (first | (simp [go_sem]; done) | (simp [go_sem, ↓IntWalk.iteOmega]; done)), by (first | (simp [go_sem]; done) | (simp [go_sem, ↓IntWalk.iteOmega]; done))⟩
        have y_v4 := World.block_lt_of_cell? _ _ v4.c0
        clear hW b3 hs hs2 ho4 hb4
        generalize x4.heap.size = k4 at *
        simp only at y_v4
        have hc := xMul hU (by omega) (R1 := (R : Int)) (C1 := (K : Int)) m1.1 (m1.fr (by omega)) ja (R2 := (K : Int)) (C2 := (J : Int)) m2.1 (m2.fr (by omega)) jb
        rw [e1] at hc
        have HC := Lib.hid hc
        clear hc
        have v1_0 := v1.c0
        have v1_1 := v1.c1
        have v1_2 := v1.c2
        have v2_0 := v2.c0
        have v2_1 := v2.c1
        have v2_2 := v2.c2
        go_upto_region 10 with ((go_at_call 16; refine HC.out.mono ?_; rintro e x5 ⟨A5, n5, c5, rfl, ho5, hb5⟩))
        clear HC
        have hs2 : W3.heap.size ≤ x5.heap.size := by have := hb5.size; rwa [put_size] at this
        have u3 := (hU.put false d1).keep (by rw [put_size]; exact hb5)
        clear v1_0 v1_1 v1_2
        clear v2_0 v2_1 v2_2
        refine wp_gen (fun W4 hW => ?_)
        have hs : Stp wr.heap.size wr.heap.size W3 W4 := (Stp.put1 hb5).trans (by rw [hW]; exact Stp.bel (by (repeat (first | assumption | exact Below.refl _ _ | with_reducible refine past_t _ ?_ | with_reducible refine below_a _ ?_ | with_reducible refine Below.drew ?_ | with_reducible refine below_d _ ?_ | (with_reducible refine Below.setCell ?_ (by (show _ ≤ _; repeat (first | exact Nat.le_refl _ | assumption | (omega; done) | with_reducible exact le_past (Nat.le_refl _) | with_reducible refine le_past ?_ | with_reducible refine le_al ?_ | with_reducible refine le_set ?_ | with_reducible refine le_p1 ?_))) _)))))
        have hzW4 := hs.size
        replace hB := hs.below hB (by omega) (by omega)
        replace fo := fo.stp hs (by omega) (by omega)
        replace il := il.stp hs (by omega) (by omega)
        replace ik := ik.stp hs (by omega) (by omega)
        replace in_ := in_.stp hs (by omega) (by omega)
        replace m1 := m1.stp hs (by omega) (by omega)
        replace v1 := v1.stp hs (by omega) (by omega)
        replace m2 := m2.stp hs (by omega) (by omega)
        replace v2 := v2.stp hs (by omega) (by omega)
        replace m3 := m3.stp hs (by omega) (by omega)
        replace v3 := v3.stp hs (by omega) (by omega)
        replace m4 := m4.stp hs (by omega) (by omega)
        replace v4 := v4.stp hs (by omega) (by omega)
        replace hU := u3.keep (by rw [hW]; (repeat (first | assumption | exact Below.refl _ _ | with_reducible refine past_t _ ?_ | with_reducible refine below_a _ ?_ | with_reducible refine Below.drew ?_ | with_reducible refine below_d _ ?_ | (with_reducible refine Below.setCell ?_ (by (show _ ≤ _; repeat (first | exact Nat.le_refl _ | assumption | (omega; done) | with_reducible exact le_past (Nat.le_refl _) | with_reducible refine le_past ?_ | with_reducible refine le_al ?_ | with_reducible refine le_set ?_ | with_reducible refine le_p1 ?_))) _))) : Below x5.heap.size x5 W4)
        clear u3
        have b3 : Below x5.heap.size x5 W4 := by rw [hW]; (repeat (first | assumption | exact Below.refl _ _ | with_reducible refine past_t _ ?_ | with_reducible refine below_a _ ?_ | with_reducible refine Below.drew ?_ | with_reducible refine below_d _ ?_ | (with_reducible refine Below.setCell ?_ (by (show _ ≤ _; repeat (first | exact Nat.le_refl _ | assumption | (omega; done) | with_reducible exact le_past (Nat.le_refl _) | with_reducible refine le_past ?_ | with_reducible refine le_al ?_ | with_reducible refine le_set ?_ | with_reducible refine le_p1 ?_))) _)))
        have z_x5 : W3.heap.size ≤ x5.heap.size := hs2
        have m5 := (own_ri ho5).keep b3
        have v5 : Bx W4 x5.heap.size (R : Int) (J : Int) (.slice A5 n5 c5) := by rw [hW]; exact ⟨by (first | (simp [go_sem]; done) | (simp [go_sem, ↓IntWalk.iteOmega]; done)), by (first | (simp [go_sem]; done) | (simp [go_sem, ↓IntWalk.iteOmega]; done)), by (first | (simp [go_sem]; done) | (simp [go_sem, ↓IntWalk.iteOmega]; done))⟩
        have y_v5 := World.block_lt_of_cell? _ _ v5.c0
        clear hW b3 hs hs2 ho5 hb5
        generalize x5.heap.size = k5 at *
        simp only at y_v5
        have hc := xMul hU (by omega) (R1 := (R : Int)) (C1 := (J : Int)) m5.1 (m5.fr (by omega)) jAB (R2 := (J : Int)) (C2 := (Z : Int)) m3.1 (m3.fr (by omega)) jc
        rw [e2] at hc
        have HC := Lib.hid hc
        clear hc
        have v5_0 := v5.c0
        have v5_1 := v5.c1
        have v5_2 := v5.c2
        have v3_0 := v3.c0
        have v3_1 := v3.c1
        have v3_2 := v3.c2
        go_upto_region 11 with ((go_at_call 16; refine HC.out.mono ?_; rintro e x6 ⟨A6, n6, c6, rfl, ho6, hb6⟩))
        clear HC
        have hs2 : W4.heap.size ≤ x6.heap.size := by have := hb6.size; rwa [put_size] at this
        have u3 := (hU.put false d2).keep (by rw [put_size]; exact hb6)
        clear v5_0 v5_1 v5_2
        clear v3_0 v3_1 v3_2
        refine wp_gen (fun W5 hW => ?_)
        have hs : Stp wr.heap.size wr.heap.size W4 W5 := (Stp.put1 hb6).trans (by rw [hW]; exact Stp.bel (by (repeat (first | assumption | exact Below.refl _ _ | with_reducible refine past_t _ ?_ | with_reducible refine below_a _ ?_ | with_reducible refine Below.drew ?_ | with_reducible refine below_d _ ?_ | (with_reducible refine Below.setCell ?_ (by (show _ ≤ _; repeat (first | exact Nat.le_refl _ | assumption | (omega; done) | with_reducible exact le_past (Nat.le_refl _) | with_reducible refine le_past ?_ | with_reducible refine le_al ?_ | with_reducible refine le_set ?_ | with_reducible refine le_p1 ?_))) _)))))
        have hzW5 := hs.size
        replace hB := hs.below hB (by omega) (by omega)
        replace fo := fo.stp hs (by omega) (by omega)
        replace il := il.stp hs (by omega) (by omega)
        replace ik := ik.stp hs (by omega) (by omega)
        replace in_ := in_.stp hs (by omega) (by omega)
        replace m1 := m1.stp hs (by omega) (by omega)
        replace v1 := v1.stp hs (by omega) (by omega)
        replace m2 := m2.stp hs (by omega) (by omega)
        replace v2 := v2.stp hs (by omega) (by omega)
        replace m3 := m3.stp hs (by omega) (by omega)
        replace v3 := v3.stp hs (by omega) (by omega)
        replace m4 := m4.stp hs (by omega) (by omega)
        replace v4 := v4.stp hs (by omega) (by omega)
        replace m5 := m5.stp hs (by omega) (by omega)
        replace v5 := v5.stp hs (by omega) (by omega)
        replace hU := u3.keep (by rw [hW]; (repeat (first | assumption | exact Below.refl _ _ | with_reducible refine past_t _ ?_ | with_reducible refine below_a _ ?_ | with_reducible refine Below.drew ?_ | with_reducible refine below_d _ ?_ | (with_reducible refine Below.setCell ?_ (by (show _ ≤ _; repeat (first | exact Nat.le_refl _ | assumption | (omega; done) | with_reducible exact le_past (Nat.le_refl _) | with_reducible refine le_past ?_ | with_reducible refine le_al ?_ | with_reducible refine le_set ?_ | with_reducible refine le_p1 ?_))) _))) : Below x6.heap.size x6 W5)
        clear u3
        have b3 : Below x6.heap.size x6 W5 := by rw [hW]; (repeat (first | assumption | exact Below.refl _ _ | with_reducible refine past_t _ ?_ | with_reducible refine below_a _ ?_ | with_reducible refine Below.drew ?_ | with_reducible refine below_d _ ?_ | (with_reducible refine Below.setCell ?_ (by (show _ ≤ _; repeat (first | exact Nat.le_refl _ | assumption | (omega; done) | with_reducible exact le_past (Nat.le_refl _) | with_reducible refine le_past ?_ | with_reducible refine le_al ?_ | with_reducible refine le_set ?_ | with_reducible refine le_p1 ?_))) _)))
        have z_x6 : W4.heap.size ≤ x6.heap.size := hs2
        have m6 := (own_ri ho6).keep b3
        have v6 : Bx W5 x6.heap.size (R : Int) (Z : Int) (.slice A6 n6 c6) := by rw [hW]; exact ⟨by (first | (simp [go_sem]; done) | (simp [go_sem, ↓IntWalk.iteOmega]; done)), by (first | (simp [go_sem]; done) | (simp [go_sem, ↓IntWalk.iteOmega]; done)), by (first | (simp [go_sem]; done) | (simp [go_sem, ↓IntWalk.iteOmega]; done))⟩
        have y_v6 := World.block_lt_of_cell? _ _ v6.c0
        clear hW b3 hs hs2 ho6 hb6
        generalize x6.heap.size = k6 at *
        simp only at y_v6
        have hc := xMul hU (by omega) (R1 := (K : Int)) (C1 := (J : Int)) m2.1 (m2.fr (by omega)) jb (R2 := (J : Int)) (C2 := (Z : Int)) m3.1 (m3.fr (by omega)) jc
        rw [e3] at hc
        have HC := Lib.hid hc
        clear hc
        have v2_0 := v2.c0
        have v2_1 := v2.c1
        have v2_2 := v2.c2
        have v3_0 := v3.c0
        have v3_1 := v3.c1
        have v3_2 := v3.c2
        go_upto_region 12 with ((go_at_call 16; refine HC.out.mono ?_; rintro e x7 ⟨A7, n7, c7, rfl, ho7, hb7⟩))
        clear HC
        have hs2 : W5.heap.size ≤ x7.heap.size := by have := hb7.size; rwa [put_size] at this
        have u3 := (hU.put false d3).keep (by rw [put_size]; exact hb7)
        clear v2_0 v2_1 v2_2
        clear v3_0 v3_1 v3_2
        refine wp_gen (fun W6 hW => ?_)
        have hs : Stp wr.heap.size wr.heap.size W5 W6 := (Stp.put1 hb7).trans (by rw [hW]; exact Stp.bel (by (repeat (first | assumption | exact Below.refl _ _ | with_reducible refine past_t _ ?_ | with_reducible refine below_a _ ?_ | with_reducible refine Below.drew ?_ | with_reducible refine below_d _ ?_ | (with_reducible refine Below.setCell ?_ (by (show _ ≤ _; repeat (first | exact Nat.le_refl _ | assumption | (omega; done) | with_reducible exact le_past (Nat.le_refl _) | with_reducible refine le_past ?_ | with_reducible refine le_al ?_ | with_reducible refine le_set ?_ | with_reducible refine le_p1 ?_))) _)))))
        have hzW6 := hs.size
        replace hB := hs.below hB (by omega) (by omega)
        replace fo := fo.stp hs (by omega) (by omega)
        replace il := il.stp hs (by omega) (by omega)
        replace ik := ik.stp hs (by omega) (by omega)
        replace in_ := in_.stp hs (by omega) (by omega)
        replace m1 := m1.stp hs (by omega) (by omega)
        replace v1 := v1.stp hs (by omega) (by omega)
        replace m2 := m2.stp hs (by omega) (by omega)
        replace v2 := v2.stp hs (by omega) (by omega)
        replace m3 := m3.stp hs (by omega) (by omega)
        replace v3 := v3.stp hs (by omega) (by omega)
        replace m4 := m4.stp hs (by omega) (by omega)
        replace v4 := v4.stp hs (by omega) (by omega)
        replace m5 := m5.stp hs (by omega) (by omega)
        replace v5 := v5.stp hs (by omega) (by omega)
        replace m6 := m6.stp hs (by omega) (by omega)
        replace v6 := v6.stp hs (by omega) (by omega)
        replace hU := u3.keep (by rw [hW]; (repeat (first | assumption | exact Below.refl _ _ | with_reducible refine past_t _ ?_ | with_reducible refine below_a _ ?_ | with_reducible refine Below.drew ?_ | with_reducible refine below_d _ ?_ | (with_reducible refine Below.setCell ?_ (by (show _ ≤ _; repeat (first | exact Nat.le_refl _ | assumption | (omega; done) | with_reducible exact le_past (Nat.le_refl _) | with_reducible refine le_past ?_ | with_reducible refine le_al ?_ | with_reducible refine le_set ?_ | with_reducible refine le_p1 ?_))) _))) : Below x7.heap.size x7 W6)
        clear u3
        have b3 : Below x7.heap.size x7 W6 := by rw [hW]; (repeat (first | assumption | exact Below.refl _ _ | with_reducible refine past_t _ ?_ | with_reducible refine below_a _ ?_ | with_reducible refine Below.drew ?_ | with_reducible refine below_d _ ?_ | (with_reducible refine Below.setCell ?_ (by (show _ ≤ _; repeat (first | exact Nat.le_refl _ | assumption | (omega; done) | with_reducible exact le_past (Nat.le_refl _) | with_reducible refine le_past ?_ | with_reducible refine le_al ?_ | with_reducible refine le_set ?_ | with_reducible refine le_p1 ?_))) _)))
        have z_x7 : W5.heap.size ≤ x7.heap.size := hs2
        have m7 := (own_ri ho7).keep b3
        have v7 : Bx W6 x7.heap.size (K : Int) (Z : Int) (.slice A7 n7 c7) := by rw [hW]; exact ⟨by (first | (simp [go_sem]; done) | (simp [go_sem, ↓IntWalk.iteOmega]; done)), by (first | (simp [go_sem]; done) | (simp [go_sem, ↓IntWalk.iteOmega]; done)), by (first | (simp [go_sem]; done) | (simp [go_sem, ↓IntWalk.iteOmega]; done))⟩
        have y_v7 := World.block_lt_of_cell? _ _ v7.c0
        clear hW b3 hs hs2 ho7 hb7
        generalize x7.heap.size = k7 at *
        simp only at y_v7
        have hc := xMul hU (by omega) (R1 := (R : Int)) (C1 := (K : Int)) m1.1 (m1.fr (by omega)) ja (R2 := (K : Int)) (C2 := (Z : Int)) m7.1 (m7.fr (by omega)) jBC
        rw [e4] at hc
        have HC := Lib.hid hc
        clear hc
        have v1_0 := v1.c0
        have v1_1 := v1.c1
        have v1_2 := v1.c2
        have v7_0 := v7.c0
        have v7_1 := v7.c1
        have v7_2 := v7.c2
        go_upto_region 13 with ((go_at_call 16; refine HC.out.mono ?_; rintro e x8 ⟨A8, n8, c8, rfl, ho8, hb8⟩))
        clear HC
        have hs2 : W6.heap.size ≤ x8.heap.size := by have := hb8.size; rwa [put_size] at this
        have u3 := (hU.put false d4).keep (by rw [put_size]; exact hb8)
        clear v1_0 v1_1 v1_2
        clear v7_0 v7_1 v7_2
        refine wp_gen (fun W7 hW => ?_)
        have hs : Stp wr.heap.size wr.heap.size W6 W7 := (Stp.put1 hb8).trans (by rw [hW]; exact Stp.bel (by (repeat (first | assumption | exact Below.refl _ _ | with_reducible refine past_t _ ?_ | with_reducible refine below_a _ ?_ | with_reducible refine Below.drew ?_ | with_reducible refine below_d _ ?_ | (with_reducible refine Below.setCell ?_ (by (show _ ≤ _; repeat (first | exact Nat.le_refl _ | assumption | (omega; done) | with_reducible exact le_past (Nat.le_refl _) | with_reducible refine le_past ?_ | with_reducible refine le_al ?_ | with_reducible refine le_set ?_ | with_reducible refine le_p1 ?_))) _)))))
        have hzW7 := hs.size
        replace hB := hs.below hB (by omega) (by omega)
        replace fo := fo.stp hs (by omega) (by omega)
        replace il := il.stp hs (by omega) (by omega)
        replace ik := ik.stp hs (by omega) (by omega)
        replace in_ := in_.stp hs (by omega) (by omega)
        replace m1 := m1.stp hs (by omega) (by omega)
        replace v1 := v1.stp hs (by omega) (by omega)
        replace m2 := m2.stp hs (by omega) (by omega)
        replace v2 := v2.stp hs (by omega) (by omega)
        replace m3 := m3.stp hs (by omega) (by omega)
        replace v3 := v3.stp hs (by omega) (by omega)
        replace m4 := m4.stp hs (by omega) (by omega)
        replace v4 := v4.stp hs (by omega) (by omega)
        replace m5 := m5.stp hs (by omega) (by omega)
        replace v5 := v5.stp hs (by omega) (by omega)
        replace m6 := m6.stp hs (by omega) (by omega)
        replace v6 := v6.stp hs (by omega) (by omega)
        replace m7 := m7.stp hs (by omega) (by omega)
        replace v7 := v7.stp hs (by omega) (by omega)
        replace hU := u3.keep (by rw [hW]; (repeat (first | assumption | exact Below.refl _ _ | with_reducible refine past_t _ ?_ | with_reducible refine below_a _ ?_ | with_reducible refine Below.drew ?_ | with_reducible refine below_d _ ?_ | (with_reducible refine Below.setCell ?_ (by (show _ ≤ _; repeat (first | exact Nat.le_refl _ | assumption | (omega; done) | with_reducible exact le_past (Nat.le_refl _) | with_reducible refine le_past ?_ | with_reducible refine le_al ?_ | with_reducible refine le_set ?_ | with_reducible refine le_p1 ?_))) _))) : Below x8.heap.size x8 W7)
        clear u3
        have b3 : Below x8.heap.size x8 W7 := by rw [hW]; (repeat (first | assumption | exact Below.refl _ _ | with_reducible refine past_t _ ?_ | with_reducible refine below_a _ ?_ | with_reducible refine Below.drew ?_ | with_reducible refine below_d _ ?_ | (with_reducible refine Below.setCell ?_ (by (show _ ≤ _; repeat (first | exact Nat.le_refl _ | assumption | (omega; done) | with_reducible exact le_past (Nat.le_refl _) | with_reducible refine le_past ?_ | with_reducible refine le_al ?_ | with_reducible refine le_set ?_ | with_reducible refine le_p1 ?_))) _)))
        have z_x8 : W6.heap.size ≤ x8.heap.size := hs2
        have m8 := (own_ri ho8).keep b3
        have v8 : Bx W7 x8.heap.size (R : Int) (Z : Int) (.slice A8 n8 c8) := by rw [hW]; exact ⟨by (first | (simp [go_sem]; done) | (simp [go_sem, ↓IntWalk.iteOmega]; done)), by (first | (simp [go_sem]; done) | (simp [go_sem, ↓IntWalk.iteOmega]; done)), by (first | (simp [go_sem]; done) | (simp [go_sem, ↓IntWalk.iteOmega]; done))⟩
        have y_v8 := World.block_lt_of_cell? _ _ v8.c0
        clear hW b3 hs hs2 ho8 hb8
        generalize x8.heap.size = k8 at *
        simp only at y_v8
        have HP := Lib.hid m6.1
        have HQ := Lib.hid m8.1
        have v6_0 := v6.c0
        have v6_1 := v6.c1
        have v6_2 := v6.c2
        have v8_0 := v8.c0
        have v8_1 := v8.c1
        have v8_2 := v8.c2
        go_upto_region 15 with ((go_at_call 20; with_reducible refine Calls_past (kSameMat (R := (R : Int)) (C := (Z : Int)) (HP.out.keep ?_) (HQ.out.keep ?_)) (fun z => ?_); (focus ((first | ((repeat (first | assumption | exact Below.refl _ _ | with_reducible refine past_t _ ?_ | with_reducible refine below_a _ ?_ | with_reducible refine Below.drew ?_ | with_reducible refine below_d _ ?_ | (with_reducible refine Below.setCell ?_ (by (show _ ≤ _; repeat (first | exact Nat.le_refl _ | assumption | (omega; done) | with_reducible exact le_past (Nat.le_refl _) | with_reducible refine le_past ?_ | with_reducible refine le_al ?_ | with_reducible refine le_set ?_ | with_reducible refine le_p1 ?_))) _))); done) | (with_reducible rfl; done) | omega | (rfl; done) | (simp; done) | (simp [go_sem]; done) | (simp; omega) | (simp [go_sem]; omega)); done)); (focus ((first | ((repeat (first | assumption | exact Below.refl _ _ | with_reducible refine past_t _ ?_ | with_reducible refine below_a _ ?_ | with_reducible refine Below.drew ?_ | with_reducible refine below_d _ ?_ | (with_reducible refine Below.setCell ?_ (by (show _ ≤ _; repeat (first | exact Nat.le_refl _ | assumption | (omega; done) | with_reducible exact le_past (Nat.le_refl _) | with_reducible refine le_past ?_ | with_reducible refine le_al ?_ | with_reducible refine le_set ?_ | with_reducible refine le_p1 ?_))) _))); done) | (with_reducible rfl; done) | omega | (rfl; done) | (simp; done) | (simp [go_sem]; done) | (simp; omega) | (simp [go_sem]; omega)); done))))
        clear HP HQ m6 m8 v6 v8 m7 v7 m3 v3
        clear v6_0 v6_1 v6_2
        clear v8_0 v8_1 v8_2
        refine wp_gen (fun W8 hW => ?_)
        have hs : Stp W8.heap.size W8.heap.size W7 W8 := by rw [hW]; exact Stp.bel (by (repeat (first | assumption | exact Below.refl _ _ | with_reducible refine past_t _ ?_ | with_reducible refine below_a _ ?_ | with_reducible refine Below.drew ?_ | with_reducible refine below_d _ ?_ | (with_reducible refine Below.setCell ?_ (by (show _ ≤ _; repeat (first | exact Nat.le_refl _ | assumption | (omega; done) | with_reducible exact le_past (Nat.le_refl _) | with_reducible refine le_past ?_ | with_reducible refine le_al ?_ | with_reducible refine le_set ?_ | with_reducible refine le_p1 ?_))) _))))
        have hzW8 := hs.size
        replace hB := hs.below hB (by omega) (by omega)
        replace hU := hU.stp hs (by omega) (by omega)
        replace fo := fo.stp hs (by omega) (by omega)
        replace il := il.stp hs (by omega) (by omega)
        replace ik := ik.stp hs (by omega) (by omega)
        replace in_ := in_.stp hs (by omega) (by omega)
        replace m1 := m1.stp hs (by omega) (by omega)
        replace v1 := v1.stp hs (by omega) (by omega)
        replace m2 := m2.stp hs (by omega) (by omega)
        replace v2 := v2.stp hs (by omega) (by omega)
        replace m4 := m4.stp hs (by omega) (by omega)
        replace v4 := v4.stp hs (by omega) (by omega)
        replace m5 := m5.stp hs (by omega) (by omega)
        replace v5 := v5.stp hs (by omega) (by omega)
        clear hW hs
        have hc := xSum hU (by omega) (R1 := (K : Int)) (C1 := (J : Int)) m2.1 (m2.fr (by omega)) jb (R2 := (K : Int)) (C2 := (J : Int)) m4.1 (m4.fr (by omega)) jd
        rw [e5] at hc
        have HC := Lib.hid hc
        clear hc
        have v2_0 := v2.c0
        have v2_1 := v2.c1
        have v2_2 := v2.c2
        have v4_0 := v4.c0
        have v4_1 := v4.c1
        have v4_2 := v4.c2
        go_upto_region 16 with ((go_at_call 35; refine HC.out.mono ?_; rintro e x9 ⟨A9, n9, c9, rfl, ho9, hb9⟩))
        clear HC
        have hs2 : W8.heap.size ≤ x9.heap.size := by have := hb9.size; rwa [put_size] at this
        have u3 := (hU.put false d5).keep (by rw [put_size]; exact hb9)
        clear v2_0 v2_1 v2_2
        clear v4_0 v4_1 v4_2
        refine wp_gen (fun W9 hW => ?_)
        have hs : Stp wr.heap.size wr.heap.size W8 W9 := (Stp.put1 hb9).trans (by rw [hW]; exact Stp.bel (by (repeat (first | assumption | exact Below.refl _ _ | with_reducible refine past_t _ ?_ | with_reducible refine below_a _ ?_ | with_reducible refine Below.drew ?_ | with_reducible refine below_d _ ?_ | (with_reducible refine Below.setCell ?_ (by (show _ ≤ _; repeat (first | exact Nat.le_refl _ | assumption | (omega; done) | with_reducible exact le_past (Nat.le_refl _) | with_reducible refine le_past ?_ | with_reducible refine le_al ?_ | with_reducible refine le_set ?_ | with_reducible refine le_p1 ?_))) _)))))
        have hzW9 := hs.size
        replace hB := hs.below hB (by omega) (by omega)
        replace fo := fo.stp hs (by omega) (by omega)
        replace il := il.stp hs (by omega) (by omega)
        replace ik := ik.stp hs (by omega) (by omega)
        replace in_ := in_.stp hs (by omega) (by omega)
        replace m1 := m1.stp hs (by omega) (by omega)
        replace v1 := v1.stp hs (by omega) (by omega)
        replace m2 := m2.stp hs (by omega) (by omega)
        replace v2 := v2.stp hs (by omega) (by omega)
        replace m4 := m4.stp hs (by omega) (by omega)
        replace v4 := v4.stp hs (by omega) (by omega)
        replace m5 := m5.stp hs (by omega) (by omega)
        replace v5 := v5.stp hs (by omega) (by omega)
        replace hU := u3.keep (by rw [hW]; (repeat (first | assumption | exact Below.refl _ _ | with_reducible refine past_t _ ?_ | with_reducible refine below_a _ ?_ | with_reducible refine Below.drew ?_ | with_reducible refine below_d _ ?_ | (with_reducible refine Below.setCell ?_ (by (show _ ≤ _; repeat (first | exact Nat.le_refl _ | assumption | (omega; done) | with_reducible exact le_past (Nat.le_refl _) | with_reducible refine le_past ?_ | with_reducible refine le_al ?_ | with_reducible refine le_set ?_ | with_reducible refine le_p1 ?_))) _))) : Below x9.heap.size x9 W9)
        clear u3
        have b3 : Below x9.heap.size x9 W9 := by rw [hW]; (repeat (first | assumption | exact Below.refl _ _ | with_reducible refine past_t _ ?_ | with_reducible refine below_a _ ?_ | with_reducible refine Below.drew ?_ | with_reducible refine below_d _ ?_ | (with_reducible refine Below.setCell ?_ (by (show _ ≤ _; repeat (first | exact Nat.le_refl _ | assumption | (omega; done) | with_reducible exact le_past (Nat.le_refl _) | with_reducible refine le_past ?_ | with_reducible refine le_al ?_ | with_reducible refine le_set ?_ | with_reducible refine le_p1 ?_))) _)))
        have z_x9 : W8.heap.size ≤ x9.heap.size := hs2
        have m9 := (own_ri ho9).keep b3
        have v9 : Bx W9 x9.heap.size (K : Int) (J : Int) (.slice A9 n9 c9) := by rw [hW]; exact ⟨by (first | (simp [go_sem]; done) | (simp [go_sem, ↓IntWalk.iteOmega]; done)), by (first | (simp [go_sem]; done) | (simp [go_sem, ↓IntWalk.iteOmega]; done)), by (first | (simp [go_sem]; done) | (simp [go_sem, ↓IntWalk.iteOmega]; done))⟩
        have y_v9 := World.block_lt_of_cell? _ _ v9.c0
        clear hW b3 hs hs2 ho9 hb9
        generalize x9.heap.size = k9 at *
        simp only at y_v9
        have hc := xMul hU (by omega) (R1 := (R : Int)) (C1 := (K : Int)) m1.1 (m1.fr (by omega)) ja (R2 := (K : Int)) (C2 := (J : Int)) m9.1 (m9.fr (by omega)) jSM
        rw [e6] at hc
        have HC := Lib.hid hc
        clear hc
        have v1_0 := v1.c0
        have v1_1 := v1.c1
        have v1_2 := v1.c2
        have v9_0 := v9.c0
        have v9_1 := v9.c1
        have v9_2 := v9.c2
        go_upto_region 17 with ((go_at_call 16; refine HC.out.mono ?_; rintro e x10 ⟨A10, n10, c10, rfl, ho10, hb10⟩))
        clear HC
        have hs2 : W9.heap.size ≤ x10.heap.size := by have := hb10.size; rwa [put_size] at this
        have u3 := (hU.put false d6).keep (by rw [put_size]; exact hb10)
        clear v1_0 v1_1 v1_2
        clear v9_0 v9_1 v9_2
        refine wp_gen (fun W10 hW => ?_)
        have hs : Stp wr.heap.size wr.heap.size W9 W10 := (Stp.put1 hb10).trans (by rw [hW]; exact Stp.bel (by (repeat (first | assumption | exact Below.refl _ _ | with_reducible refine past_t _ ?_ | with_reducible refine below_a _ ?_ | with_reducible refine Below.drew ?_ | with_reducible refine below_d _ ?_ | (with_reducible refine Below.setCell ?_ (by (show _ ≤ _; repeat (first | exact Nat.le_refl _ | assumption | (omega; done) | with_reducible exact le_past (Nat.le_refl _) | with_reducible refine le_past ?_ | with_reducible refine le_al ?_ | with_reducible refine le_set ?_ | with_reducible refine le_p1 ?_))) _)))))
        have hzW10 := hs.size
        replace hB := hs.below hB (by omega) (by omega)
        replace fo := fo.stp hs (by omega) (by omega)
        replace il := il.stp hs (by omega) (by omega)
        replace ik := ik.stp hs (by omega) (by omega)
        replace in_ := in_.stp hs (by omega) (by omega)
        replace m1 := m1.stp hs (by omega) (by omega)
        replace v1 := v1.stp hs (by omega) (by omega)
        replace m2 := m2.stp hs (by omega) (by omega)
        replace v2 := v2.stp hs (by omega) (by omega)
        replace m4 := m4.stp hs (by omega) (by omega)
        replace v4 := v4.stp hs (by omega) (by omega)
        replace m5 := m5.stp hs (by omega) (by omega)
        replace v5 := v5.stp hs (by omega) (by omega)
        replace m9 := m9.stp hs (by omega) (by omega)
        replace v9 := v9.stp hs (by omega) (by omega)
        replace hU := u3.keep (by rw [hW]; (repeat (first | assumption | exact Below.refl _ _ | with_reducible refine past_t _ ?_ | with_reducible refine below_a _ ?_ | with_reducible refine Below.drew ?_ | with_reducible refine below_d _ ?_ | (with_reducible refine Below.setCell ?_ (by (show _ ≤ _; repeat (first | exact Nat.le_refl _ | assumption | (omega; done) | with_reducible exact le_past (Nat.le_refl _) | with_reducible refine le_past ?_ | with_reducible refine le_al ?_ | with_reducible refine le_set ?_ | with_reducible refine le_p1 ?_))) _))) : Below x10.heap.size x10 W10)
        clear u3
        have b3 : Below x10.heap.size x10 W10 := by rw [hW]; (repeat (first | assumption | exact Below.refl _ _ | with_reducible refine past_t _ ?_ | with_reducible refine below_a _ ?_ | with_reducible refine Below.drew ?_ | with_reducible refine below_d _ ?_ | (with_reducible refine Below.setCell ?_ (by (show _ ≤ _; repeat (first | exact Nat.le_refl _ | assumption | (omega; done) | with_reducible exact le_past (Nat.le_refl _) | with_reducible refine le_past ?_ | with_reducible refine le_al ?_ | with_reducible refine le_set ?_ | with_reducible refine le_p1 ?_))) _)))
        have z_x10 : W9.heap.size ≤ x10.heap.size := hs2
        have m10 := (own_ri ho10).keep b3
        have v10 : Bx W10 x10.heap.size (R : Int) (J : Int) (.slice A10 n10 c10) := by rw [hW]; exact ⟨by (first | (simp [go_sem]; done) | (simp [go_sem, ↓IntWalk.iteOmega]; done)), by (first | (simp [go_sem]; done) | (simp [go_sem, ↓IntWalk.iteOmega]; done)), by (first | (simp [go_sem]; done) | (simp [go_sem, ↓IntWalk.iteOmega]; done))⟩
        have y_v10 := World.block_lt_of_cell? _ _ v10.c0
        clear hW b3 hs hs2 ho10 hb10
        generalize x10.heap.size = k10 at *
        simp only at y_v10
        have hc := xMul hU (by omega) (R1 := (R : Int)) (C1 := (K : Int)) m1.1 (m1.fr (by omega)) ja (R2 := (K : Int)) (C2 := (J : Int)) m4.1 (m4.fr (by omega)) jd
        rw [e7] at hc
        have HC := Lib.hid hc
        clear hc
        have v1_0 := v1.c0
        have v1_1 := v1.c1
        have v1_2 := v1.c2
        have v4_0 := v4.c0
        have v4_1 := v4.c1
        have v4_2 := v4.c2
        go_upto_region 18 with ((go_at_call 16; refine HC.out.mono ?_; rintro e x11 ⟨A11, n11, c11, rfl, ho11, hb11⟩))
        clear HC
        have hs2 : W10.heap.size ≤ x11.heap.size := by have := hb11.size; rwa [put_size] at this
        have u3 := (hU.put false d7).keep (by rw [put_size]; exact hb11)
        clear v1_0 v1_1 v1_2
        clear v4_0 v4_1 v4_2
        refine wp_gen (fun W11 hW => ?_)
        have hs : Stp wr.heap.size wr.heap.size W10 W11 := (Stp.put1 hb11).trans (by rw [hW]; exact Stp.bel (by (repeat (first | assumption | exact Below.refl _ _ | with_reducible refine past_t _ ?_ | with_reducible refine below_a _ ?_ | with_reducible refine Below.drew ?_ | with_reducible refine below_d _ ?_ | (with_reducible refine Below.setCell ?_ (by (show _ ≤ _; repeat (first | exact Nat.le_refl _ | assumption | (omega; done) | with_reducible exact le_past (Nat.le_refl _) | with_reducible refine le_past ?_ | with_reducible refine le_al ?_ | with_reducible refine le_set ?_ | with_reducible refine le_p1 ?_))) _)))))
        have hzW11 := hs.size
        replace hB := hs.below hB (by omega) (by omega)
        replace fo := fo.stp hs (by omega) (by omega)
        replace il := il.stp hs (by omega) (by omega)
        replace ik := ik.stp hs (by omega) (by omega)
        replace in_ := in_.stp hs (by omega) (by omega)
        replace m1 := m1.stp hs (by omega) (by omega)
        replace v1 := v1.stp hs (by omega) (by omega)
        replace m2 := m2.stp hs (by omega) (by omega)
        replace v2 := v2.stp hs (by omega) (by omega)
        replace m4 := m4.stp hs (by omega) (by omega)
        replace v4 := v4.stp hs (by omega) (by omega)
        replace m5 := m5.stp hs (by omega) (by omega)
        replace v5 := v5.stp hs (by omega) (by omega)
        replace m9 := m9.stp hs (by omega) (by omega)
        replace v9 := v9.stp hs (by omega) (by omega)
        replace m10 := m10.stp hs (by omega) (by omega)
        replace v10 := v10.stp hs (by omega) (by omega)
        replace hU := u3.keep (by rw [hW]; (repeat (first | assumption | exact Below.refl _ _ | with_reducible refine past_t _ ?_ | with_reducible refine below_a _ ?_ | with_reducible refine Below.drew ?_ | with_reducible refine below_d _ ?_ | (with_reducible refine Below.setCell ?_ (by (show _ ≤ _; repeat (first | exact Nat.le_refl _ | assumption | (omega; done) | with_reducible exact le_past (Nat.le_refl _) | with_reducible refine le_past ?_ | with_reducible refine le_al ?_ | with_reducible refine le_set ?_ | with_reducible refine le_p1 ?_))) _))) : Below x11.heap.size x11 W11)
        clear u3
        have b3 : Below x11.heap.size x11 W11 := by rw [hW]; (repeat (first | assumption | exact Below.refl _ _ | with_reducible refine past_t _ ?_ | with_reducible refine below_a _ ?_ | with_reducible refine Below.drew ?_ | with_reducible refine below_d _ ?_ | (with_reducible refine Below.setCell ?_ (by (show _ ≤ _; repeat (first | exact Nat.le_refl _ | assumption | (omega; done) | with_reducible exact le_past (Nat.le_refl _) | with_reducible refine le_past ?_ | with_reducible refine le_al ?_ | with_reducible refine le_set ?_ | with_reducible refine le_p1 ?_))) _)))
        have z_x11 : W10.heap.size ≤ x11.heap.size := hs2
        have m11 := (own_ri ho11).keep b3
        have v11 : Bx W11 x11.heap.size (R : Int) (J : Int) (.slice A11 n11 c11) := by rw [hW]; exact ⟨by (first | (simp [go_sem]; done) | (simp [go_sem, ↓IntWalk.iteOmega]; done)), by (first | (simp [go_sem]; done) | (simp [go_sem, ↓IntWalk.iteOmega]; done)), by (first | (simp [go_sem]; done) | (simp [go_sem, ↓IntWalk.iteOmega]; done))⟩
        have y_v11 := World.block_lt_of_cell? _ _ v11.c0
        clear hW b3 hs hs2 ho11 hb11
        generalize x11.heap.size = k11 at *
        simp only at y_v11
        have hc := xSum hU (by omega) (R1 := (R : Int)) (C1 := (J : Int)) m5.1 (m5.fr (by omega)) jAB (R2 := (R : Int)) (C2 := (J : Int)) m11.1 (m11.fr (by omega)) jAD
        rw [e8] at hc
        have HC := Lib.hid hc
        clear hc
        have v5_0 := v5.c0
        have v5_1 := v5.c1
        have v5_2 := v5.c2
        have v11_0 := v11.c0
        have v11_1 := v11.c1
        have v11_2 := v11.c2
        go_upto_region 19 with ((go_at_call 35; refine HC.out.mono ?_; rintro e x12 ⟨A12, n12, c12, rfl, ho12, hb12⟩))
        clear HC
        have hs2 : W11.heap.size ≤ x12.heap.size := by have := hb12.size; rwa [put_size] at this
        have u3 := (hU.put false d8).keep (by rw [put_size]; exact hb12)
        clear v5_0 v5_1 v5_2
        clear v11_0 v11_1 v11_2
        refine wp_gen (fun W12 hW => ?_)
        have hs : Stp wr.heap.size wr.heap.size W11 W12 := (Stp.put1 hb12).trans (by rw [hW]; exact Stp.bel (by (repeat (first | assumption | exact Below.refl _ _ | with_reducible refine past_t _ ?_ | with_reducible refine below_a _ ?_ | with_reducible refine Below.drew ?_ | with_reducible refine below_d _ ?_ | (with_reducible refine Below.setCell ?_ (by (show _ ≤ _; repeat (first | exact Nat.le_refl _ | assumption | (omega; done) | with_reducible exact le_past (Nat.le_refl _) | with_reducible refine le_past ?_ | with_reducible refine le_al ?_ | with_reducible refine le_set ?_ | with_reducible refine le_p1 ?_))) _)))))
        have hzW12 := hs.size
        replace hB := hs.below hB (by omega) (by omega)
        replace fo := fo.stp hs (by omega) (by omega)
        replace il := il.stp hs (by omega) (by omega)
        replace ik := ik.stp hs (by omega) (by omega)
        replace in_ := in_.stp hs (by omega) (by omega)
        replace m1 := m1.stp hs (by omega) (by omega)
        replace v1 := v1.stp hs (by omega) (by omega)
        replace m2 := m2.stp hs (by omega) (by omega)
        replace v2 := v2.stp hs (by omega) (by omega)
        replace m4 := m4.stp hs (by omega) (by omega)
        replace v4 := v4.stp hs (by omega) (by omega)
        replace m5 := m5.stp hs (by omega) (by omega)
        replace v5 := v5.stp hs (by omega) (by omega)
        replace m9 := m9.stp hs (by omega) (by omega)
        replace v9 := v9.stp hs (by omega) (by omega)
        replace m10 := m10.stp hs (by omega) (by omega)
        replace v10 := v10.stp hs (by omega) (by omega)
        replace m11 := m11.stp hs (by omega) (by omega)
        replace v11 := v11.stp hs (by omega) (by omega)
        replace hU := u3.keep (by rw [hW]; (repeat (first | assumption | exact Below.refl _ _ | with_reducible refine past_t _ ?_ | with_reducible refine below_a _ ?_ | with_reducible refine Below.drew ?_ | with_reducible refine below_d _ ?_ | (with_reducible refine Below.setCell ?_ (by (show _ ≤ _; repeat (first | exact Nat.le_refl _ | assumption | (omega; done) | with_reducible exact le_past (Nat.le_refl _) | with_reducible refine le_past ?_ | with_reducible refine le_al ?_ | with_reducible refine le_set ?_ | with_reducible refine le_p1 ?_))) _))) : Below x12.heap.size x12 W12)
        clear u3
        have b3 : Below x12.heap.size x12 W12 := by rw [hW]; (repeat (first | assumption | exact Below.refl _ _ | with_reducible refine past_t _ ?_ | with_reducible refine below_a _ ?_ | with_reducible refine Below.drew ?_ | with_reducible refine below_d _ ?_ | (with_reducible refine Below.setCell ?_ (by (show _ ≤ _; repeat (first | exact Nat.le_refl _ | assumption | (omega; done) | with_reducible exact le_past (Nat.le_refl _) | with_reducible refine le_past ?_ | with_reducible refine le_al ?_ | with_reducible refine le_set ?_ | with_reducible refine le_p1 ?_))) _)))
        have z_x12 : W11.heap.size ≤ x12.heap.size := hs2
        have m12 := (own_ri ho12).keep b3
        have v12 : Bx W12 x12.heap.size (R : Int) (J : Int) (.slice A12 n12 c12) := by rw [hW]; exact ⟨by (first | (simp [go_sem]; done) | (simp [go_sem, ↓IntWalk.iteOmega]; done)), by (first | (simp [go_sem]; done) | (simp [go_sem, ↓IntWalk.iteOmega]; done)), by (first | (simp [go_sem]; done) | (simp [go_sem, ↓IntWalk.iteOmega]; done))⟩
        have y_v12 := World.block_lt_of_cell? _ _ v12.c0
        clear hW b3 hs hs2 ho12 hb12
        generalize x12.heap.size = k12 at *
        simp only at y_v12
        have HP := Lib.hid m10.1
        have HQ := Lib.hid m12.1
        have v10_0 := v10.c0
        have v10_1 := v10.c1
        have v10_2 := v10.c2
        have v12_0 := v12.c0
        have v12_1 := v12.c1
        have v12_2 := v12.c2
        go_upto_region 21 with ((go_at_call 20; with_reducible refine Calls_past (kSameMat (R := (R : Int)) (C := (J : Int)) (HP.out.keep ?_) (HQ.out.keep ?_)) (fun z => ?_); (focus ((first | ((repeat (first | assumption | exact Below.refl _ _ | with_reducible refine past_t _ ?_ | with_reducible refine below_a _ ?_ | with_reducible refine Below.drew ?_ | with_reducible refine below_d _ ?_ | (with_reducible refine Below.setCell ?_ (by (show _ ≤ _; repeat (first | exact Nat.le_refl _ | assumption | (omega; done) | with_reducible exact le_past (Nat.le_refl _) | with_reducible refine le_past ?_ | with_reducible refine le_al ?_ | with_reducible refine le_set ?_ | with_reducible refine le_p1 ?_))) _))); done) | (with_reducible rfl; done) | omega | (rfl; done) | (simp; done) | (simp [go_sem]; done) | (simp; omega) | (simp [go_sem]; omega)); done)); (focus ((first | ((repeat (first | assumption | exact Below.refl _ _ | with_reducible refine past_t _ ?_ | with_reducible refine below_a _ ?_ | with_reducible refine Below.drew ?_ | with_reducible refine below_d _ ?_ | (with_reducible refine Below.setCell ?_ (by (show _ ≤ _; repeat (first | exact Nat.le_refl _ | assumption | (omega; done) | with_reducible exact le_past (Nat.le_refl _) | with_reducible refine le_past ?_ | with_reducible refine le_al ?_ | with_reducible refine le_set ?_ | with_reducible refine le_p1 ?_))) _))); done) | (with_reducible rfl; done) | omega | (rfl; done) | (simp; done) | (simp [go_sem]; done) | (simp; omega) | (simp [go_sem]; omega)); done))))
        clear HP HQ m10 m12 v10 v12 m9 v9 m11 v11 m4 v4
        clear v10_0 v10_1 v10_2
        clear v12_0 v12_1 v12_2
        refine wp_gen (fun W13 hW => ?_)
        have hs : Stp W13.heap.size W13.heap.size W12 W13 := by rw [hW]; exact Stp.bel (by (repeat (first | assumption | exact Below.refl _ _ | with_reducible refine past_t _ ?_ | with_reducible refine below_a _ ?_ | with_reducible refine Below.drew ?_ | with_reducible refine below_d _ ?_ | (with_reducible refine Below.setCell ?_ (by (show _ ≤ _; repeat (first | exact Nat.le_refl _ | assumption | (omega; done) | with_reducible exact le_past (Nat.le_refl _) | with_reducible refine le_past ?_ | with_reducible refine le_al ?_ | with_reducible refine le_set ?_ | with_reducible refine le_p1 ?_))) _))))
        have hzW13 := hs.size
        replace hB := hs.below hB (by omega) (by omega)
        replace hU := hU.stp hs (by omega) (by omega)
        replace fo := fo.stp hs (by omega) (by omega)
        replace il := il.stp hs (by omega) (by omega)
        replace ik := ik.stp hs (by omega) (by omega)
        replace in_ := in_.stp hs (by omega) (by omega)
        replace m1 := m1.stp hs (by omega) (by omega)
        replace v1 := v1.stp hs (by omega) (by omega)
        replace m2 := m2.stp hs (by omega) (by omega)
        replace v2 := v2.stp hs (by omega) (by omega)
        replace m5 := m5.stp hs (by omega) (by omega)
        replace v5 := v5.stp hs (by omega) (by omega)
        clear hW hs
        have hrow : ∀ A n c W, RS .i64 W A n c lx → Calls Try.prog 31 #[.agg #[.int .i64 1, .int .i64 (J : Int), .slice A n c], .int .i64 0] W (VP W (lx, 0)) := fun A n c W h => by have := xRow (R := 1) (C := (J : Int)) (i := 0) h; rwa [e9] at this
        have HL := Lib.hid il.1
        have HW := Lib.hid hrow
        have fo_2 := fo.c2
        clear hrow
        go_upto_region 22 with (first | (go_at_call 43; with_reducible refine (HX.out _ _ _ HL.out).mono ?_; rintro e x21 ⟨A21, c21, rfl, ho21, hb21⟩) | (go_at_call 31; with_reducible refine (HW.out _ _ _ _ ho21.rs).mono ?_; rintro e x22 ⟨A22, n22, c22, rfl, ho22, hb22⟩))
        clear fo_2 HL HW HX ho21
        have hs2 : W13.heap.size ≤ x22.heap.size := Nat.le_trans hb21.size hb22.size
        have z21 := hb21.size
        refine wp_gen (fun W14 hW => ?_)
        have hs : Stp W14.heap.size W14.heap.size W13 W14 := ((Stp.bel hb21).trans (Stp.bel hb22)).trans (by rw [hW]; exact Stp.bel (by (repeat (first | assumption | exact Below.refl _ _ | with_reducible refine past_t _ ?_ | with_reducible refine below_a _ ?_ | with_reducible refine Below.drew ?_ | with_reducible refine below_d _ ?_ | (with_reducible refine Below.setCell ?_ (by (show _ ≤ _; repeat (first | exact Nat.le_refl _ | assumption | (omega; done) | with_reducible exact le_past (Nat.le_refl _) | with_reducible refine le_past ?_ | with_reducible refine le_al ?_ | with_reducible refine le_set ?_ | with_reducible refine le_p1 ?_))) _)))))
        have hzW14 := hs.size
        replace hB := hs.below hB (by omega) (by omega)
        replace hU := hU.stp hs (by omega) (by omega)
        replace fo := fo.stp hs (by omega) (by omega)
        replace il := il.stp hs (by omega) (by omega)
        replace ik := ik.stp hs (by omega) (by omega)
        replace in_ := in_.stp hs (by omega) (by omega)
        replace m1 := m1.stp hs (by omega) (by omega)
        replace v1 := v1.stp hs (by omega) (by omega)
        replace m2 := m2.stp hs (by omega) (by omega)
        replace v2 := v2.stp hs (by omega) (by omega)
        replace m5 := m5.stp hs (by omega) (by omega)
        replace v5 := v5.stp hs (by omega) (by omega)
        clear hb21
        have b3 : Below x22.heap.size x22 W14 := by rw [hW]; (repeat (first | assumption | exact Below.refl _ _ | with_reducible refine past_t _ ?_ | with_reducible refine below_a _ ?_ | with_reducible refine Below.drew ?_ | with_reducible refine below_d _ ?_ | (with_reducible refine Below.setCell ?_ (by (show _ ≤ _; repeat (first | exact Nat.le_refl _ | assumption | (omega; done) | with_reducible exact le_past (Nat.le_refl _) | with_reducible refine le_past ?_ | with_reducible refine le_al ?_ | with_reducible refine le_set ?_ | with_reducible refine le_p1 ?_))) _)))
        have z_x22 : W13.heap.size ≤ x22.heap.size := hs2
        have m22 := (own_ri ho22).keep b3
        have y_x22 := b3.size
        clear hW b3 hs hs2 ho22 hb22
        have hc := xApply hU (by omega) (R1 := (K : Int)) (C1 := (J : Int)) m2.1 (m2.fr (by omega)) jb m22.1 (m22.fr (by omega)) jx
        rw [e10] at hc
        have HC := Lib.hid hc
        clear hc
        have v2_0 := v2.c0
        have v2_1 := v2.c1
        have v2_2 := v2.c2
        go_upto_region 23 with ((go_at_call 18; refine HC.out.mono ?_; rintro e x23 ⟨A23, n23, c23, rfl, ho23, hb23⟩))
        clear HC
        have hs2 : W14.heap.size ≤ x23.heap.size := by have := hb23.size; rwa [put_size] at this
        have u3 := (hU.put false d9).keep (by rw [put_size]; exact hb23)
        clear v2_0 v2_1 v2_2
        refine wp_gen (fun W15 hW => ?_)
        have hs : Stp wr.heap.size wr.heap.size W14 W15 := (Stp.put1 hb23).trans (by rw [hW]; exact Stp.bel (by (repeat (first | assumption | exact Below.refl _ _ | with_reducible refine past_t _ ?_ | with_reducible refine below_a _ ?_ | with_reducible refine Below.drew ?_ | with_reducible refine below_d _ ?_ | (with_reducible refine Below.setCell ?_ (by (show _ ≤ _; repeat (first | exact Nat.le_refl _ | assumption | (omega; done) | with_reducible exact le_past (Nat.le_refl _) | with_reducible refine le_past ?_ | with_reducible refine le_al ?_ | with_reducible refine le_set ?_ | with_reducible refine le_p1 ?_))) _)))))
        have hzW15 := hs.size
        replace hB := hs.below hB (by omega) (by omega)
        replace fo := fo.stp hs (by omega) (by omega)
        replace il := il.stp hs (by omega) (by omega)
        replace ik := ik.stp hs (by omega) (by omega)
        replace in_ := in_.stp hs (by omega) (by omega)
        replace m1 := m1.stp hs (by omega) (by omega)
        replace v1 := v1.stp hs (by omega) (by omega)
        replace m2 := m2.stp hs (by omega) (by omega)
        replace v2 := v2.stp hs (by omega) (by omega)
        replace m5 := m5.stp hs (by omega) (by omega)
        replace v5 := v5.stp hs (by omega) (by omega)
        replace m22 := m22.stp hs (by omega) (by omega)
        replace hU := u3.keep (by rw [hW]; (repeat (first | assumption | exact Below.refl _ _ | with_reducible refine past_t _ ?_ | with_reducible refine below_a _ ?_ | with_reducible refine Below.drew ?_ | with_reducible refine below_d _ ?_ | (with_reducible refine Below.setCell ?_ (by (show _ ≤ _; repeat (first | exact Nat.le_refl _ | assumption | (omega; done) | with_reducible exact le_past (Nat.le_refl _) | with_reducible refine le_past ?_ | with_reducible refine le_al ?_ | with_reducible refine le_set ?_ | with_reducible refine le_p1 ?_))) _))) : Below x23.heap.size x23 W15)
        clear u3
        have b3 : Below x23.heap.size x23 W15 := by rw [hW]; (repeat (first | assumption | exact Below.refl _ _ | with_reducible refine past_t _ ?_ | with_reducible refine below_a _ ?_ | with_reducible refine Below.drew ?_ | with_reducible refine below_d _ ?_ | (with_reducible refine Below.setCell ?_ (by (show _ ≤ _; repeat (first | exact Nat.le_refl _ | assumption | (omega; done) | with_reducible exact le_past (Nat.le_refl _) | with_reducible refine le_past ?_ | with_reducible refine le_al ?_ | with_reducible refine le_set ?_ | with_reducible refine le_p1 ?_))) _)))
        have z_x23 : W14.heap.size ≤ x23.heap.size := hs2
        have m23 := (own_ri ho23).keep b3
        have y_x23 := b3.size
        clear hW b3 hs hs2 ho23 hb23
        have hc := xApply hU (by omega) (R1 := (R : Int)) (C1 := (K : Int)) m1.1 (m1.fr (by omega)) ja m23.1 (m23.fr (by omega)) jBX
        rw [e11] at hc
        have HC := Lib.hid hc
        clear hc
        have v1_0 := v1.c0
        have v1_1 := v1.c1
        have v1_2 := v1.c2
        go_upto_region 24 with ((go_at_call 18; refine HC.out.mono ?_; rintro e x24 ⟨A24, n24, c24, rfl, ho24, hb24⟩))
        clear HC
        have hs2 : W15.heap.size ≤ x24.heap.size := by have := hb24.size; rwa [put_size] at this
        have u3 := (hU.put false d10).keep (by rw [put_size]; exact hb24)
        clear v1_0 v1_1 v1_2
        refine wp_gen (fun W16 hW => ?_)
        have hs : Stp wr.heap.size wr.heap.size W15 W16 := (Stp.put1 hb24).trans (by rw [hW]; exact Stp.bel (by (repeat (first | assumption | exact Below.refl _ _ | with_reducible refine past_t _ ?_ | with_reducible refine below_a _ ?_ | with_reducible refine Below.drew ?_ | with_reducible refine below_d _ ?_ | (with_reducible refine Below.setCell ?_ (by (show _ ≤ _; repeat (first | exact Nat.le_refl _ | assumption | (omega; done) | with_reducible exact le_past (Nat.le_refl _) | with_reducible refine le_past ?_ | with_reducible refine le_al ?_ | with_reducible refine le_set ?_ | with_reducible refine le_p1 ?_))) _)))))
        have hzW16 := hs.size
        replace hB := hs.below hB (by omega) (by omega)
        replace fo := fo.stp hs (by omega) (by omega)
        replace il := il.stp hs (by omega) (by omega)
        replace ik := ik.stp hs (by omega) (by omega)
        replace in_ := in_.stp hs (by omega) (by omega)
        replace m1 := m1.stp hs (by omega) (by omega)
        replace v1 := v1.stp hs (by omega) (by omega)
        replace m2 := m2.stp hs (by omega) (by omega)
        replace v2 := v2.stp hs (by omega) (by omega)
        replace m5 := m5.stp hs (by omega) (by omega)
        replace v5 := v5.stp hs (by omega) (by omega)
        replace m22 := m22.stp hs (by omega) (by omega)
        replace m23 := m23.stp hs (by omega) (by omega)
        replace hU := u3.keep (by rw [hW]; (repeat (first | assumption | exact Below.refl _ _ | with_reducible refine past_t _ ?_ | with_reducible refine below_a _ ?_ | with_reducible refine Below.drew ?_ | with_reducible refine below_d _ ?_ | (with_reducible refine Below.setCell ?_ (by (show _ ≤ _; repeat (first | exact Nat.le_refl _ | assumption | (omega; done) | with_reducible exact le_past (Nat.le_refl _) | with_reducible refine le_past ?_ | with_reducible refine le_al ?_ | with_reducible refine le_set ?_ | with_reducible refine le_p1 ?_))) _))) : Below x24.heap.size x24 W16)
        clear u3
        have b3 : Below x24.heap.size x24 W16 := by rw [hW]; (repeat (first | assumption | exact Below.refl _ _ | with_reducible refine past_t _ ?_ | with_reducible refine below_a _ ?_ | with_reducible refine Below.drew ?_ | with_reducible refine below_d _ ?_ | (with_reducible refine Below.setCell ?_ (by (show _ ≤ _; repeat (first | exact Nat.le_refl _ | assumption | (omega; done) | with_reducible exact le_past (Nat.le_refl _) | with_reducible refine le_past ?_ | with_reducible refine le_al ?_ | with_reducible refine le_set ?_ | with_reducible refine le_p1 ?_))) _)))
        have z_x24 : W15.heap.size ≤ x24.heap.size := hs2
        have m24 := (own_ri ho24).keep b3
        have y_x24 := b3.size
        clear hW b3 hs hs2 ho24 hb24
        have hc := xApply hU (by omega) (R1 := (R : Int)) (C1 := (J : Int)) m5.1 (m5.fr (by omega)) jAB m22.1 (m22.fr (by omega)) jx
        rw [e12] at hc
        have HC := Lib.hid hc
        clear hc
        have v5_0 := v5.c0
        have v5_1 := v5.c1
        have v5_2 := v5.c2
        go_upto_region 25 with ((go_at_call 18; refine HC.out.mono ?_; rintro e x25 ⟨A25, n25, c25, rfl, ho25, hb25⟩))
        clear HC
        have hs2 : W16.heap.size ≤ x25.heap.size := by have := hb25.size; rwa [put_size] at this
        have u3 := (hU.put false d11).keep (by rw [put_size]; exact hb25)
        clear v5_0 v5_1 v5_2
        refine wp_gen (fun W17 hW => ?_)
        have hs : Stp wr.heap.size wr.heap.size W16 W17 := (Stp.put1 hb25).trans (by rw [hW]; exact Stp.bel (by (repeat (first | assumption | exact Below.refl _ _ | with_reducible refine past_t _ ?_ | with_reducible refine below_a _ ?_ | with_reducible refine Below.drew ?_ | with_reducible refine below_d _ ?_ | (with_reducible refine Below.setCell ?_ (by (show _ ≤ _; repeat (first | exact Nat.le_refl _ | assumption | (omega; done) | with_reducible exact le_past (Nat.le_refl _) | with_reducible refine le_past ?_ | with_reducible refine le_al ?_ | with_reducible refine le_set ?_ | with_reducible refine le_p1 ?_))) _)))))
        have hzW17 := hs.size
        replace hB := hs.below hB (by omega) (by omega)
        replace fo := fo.stp hs (by omega) (by omega)
        replace il := il.stp hs (by omega) (by omega)
        replace ik := ik.stp hs (by omega) (by omega)
        replace in_ := in_.stp hs (by omega) (by omega)
        replace m1 := m1.stp hs (by omega) (by omega)
        replace v1 := v1.stp hs (by omega) (by omega)
        replace m2 := m2.stp hs (by omega) (by omega)
        replace v2 := v2.stp hs (by omega) (by omega)
        replace m5 := m5.stp hs (by omega) (by omega)
        replace v5 := v5.stp hs (by omega) (by omega)
        replace m22 := m22.stp hs (by omega) (by omega)
        replace m23 := m23.stp hs (by omega) (by omega)
        replace m24 := m24.stp hs (by omega) (by omega)
        replace hU := u3.keep (by rw [hW]; (repeat (first | assumption | exact Below.refl _ _ | with_reducible refine past_t _ ?_ | with_reducible refine below_a _ ?_ | with_reducible refine Below.drew ?_ | with_reducible refine below_d _ ?_ | (with_reducible refine Below.setCell ?_ (by (show _ ≤ _; repeat (first | exact Nat.le_refl _ | assumption | (omega; done) | with_reducible exact le_past (Nat.le_refl _) | with_reducible refine le_past ?_ | with_reducible refine le_al ?_ | with_reducible refine le_set ?_ | with_reducible refine le_p1 ?_))) _))) : Below x25.heap.size x25 W17)
        clear u3
        have b3 : Below x25.heap.size x25 W17 := by rw [hW]; (repeat (first | assumption | exact Below.refl _ _ | with_reducible refine past_t _ ?_ | with_reducible refine below_a _ ?_ | with_reducible refine Below.drew ?_ | with_reducible refine below_d _ ?_ | (with_reducible refine Below.setCell ?_ (by (show _ ≤ _; repeat (first | exact Nat.le_refl _ | assumption | (omega; done) | with_reducible exact le_past (Nat.le_refl _) | with_reducible refine le_past ?_ | with_reducible refine le_al ?_ | with_reducible refine le_set ?_ | with_reducible refine le_p1 ?_))) _)))
        have z_x25 : W16.heap.size ≤ x25.heap.size := hs2
        have m25 := (own_ri ho25).keep b3
        have y_x25 := b3.size
        clear hW b3 hs hs2 ho25 hb25
        have HB := Lib.hid hB
        have HP := Lib.hid m24.1
        have HQ := Lib.hid m25.1
        have HU := Lib.hid hU
        clear hB hU fo il ik in_ m1 m2 v1 v2 m5 v5 m22 m23 m24 m25
        go_wp2_with (first | (go_at_call 21; with_reducible refine Calls_past (iSameT (HP.out.keep ?_) (HQ.out.keep ?_)) (fun z => ?_); (focus ((first | ((repeat (first | assumption | exact Below.refl _ _ | with_reducible refine past_t _ ?_ | with_reducible refine below_a _ ?_ | with_reducible refine Below.drew ?_ | with_reducible refine below_d _ ?_ | (with_reducible refine Below.setCell ?_ (by (show _ ≤ _; repeat (first | exact Nat.le_refl _ | assumption | (omega; done) | with_reducible exact le_past (Nat.le_refl _) | with_reducible refine le_past ?_ | with_reducible refine le_al ?_ | with_reducible refine le_set ?_ | with_reducible refine le_p1 ?_))) _))); done) | (with_reducible rfl; done) | omega | (rfl; done) | (simp; done) | (simp [go_sem]; done) | (simp; omega) | (simp [go_sem]; omega)); done)); (focus ((first | ((repeat (first | assumption | exact Below.refl _ _ | with_reducible refine past_t _ ?_ | with_reducible refine below_a _ ?_ | with_reducible refine Below.drew ?_ | with_reducible refine below_d _ ?_ | (with_reducible refine Below.setCell ?_ (by (show _ ≤ _; repeat (first | exact Nat.le_refl _ | assumption | (omega; done) | with_reducible exact le_past (Nat.le_refl _) | with_reducible refine le_past ?_ | with_reducible refine le_al ?_ | with_reducible refine le_set ?_ | with_reducible refine le_p1 ?_))) _))); done) | (with_reducible rfl; done) | omega | (rfl; done) | (simp; done) | (simp [go_sem]; done) | (simp; omega) | (simp [go_sem]; omega)); done))) | (go_at_call 22; with_reducible refine Calls_past (uCut (HU.out.keep ?_)) (fun z => ?_); (focus ((first | ((repeat (first | assumption | exact Below.refl _ _ | with_reducible refine past_t _ ?_ | with_reducible refine below_a _ ?_ | with_reducible refine Below.drew ?_ | with_reducible refine below_d _ ?_ | (with_reducible refine Below.setCell ?_ (by (show _ ≤ _; repeat (first | exact Nat.le_refl _ | assumption | (omega; done) | with_reducible exact le_past (Nat.le_refl _) | with_reducible refine le_past ?_ | with_reducible refine le_al ?_ | with_reducible refine le_set ?_ | with_reducible refine le_p1 ?_))) _))); done) | (with_reducible rfl; done) | omega | (rfl; done) | (simp; done) | (simp [go_sem]; done) | (simp; omega) | (simp [go_sem]; omega)); done))))
        go_ret
        exact ⟨rfl, bel_trans HB.out (by (repeat (first | assumption | exact Below.refl _ _ | with_reducible refine past_t _ ?_ | with_reducible refine below_a _ ?_ | with_reducible refine Below.drew ?_ | with_reducible refine below_d _ ?_ | (with_reducible refine Below.setCell ?_ (by (show _ ≤ _; repeat (first | exact Nat.le_refl _ | assumption | (omega; done) | with_reducible exact le_past (Nat.le_refl _) | with_reducible refine le_past ?_ | with_reducible refine le_al ?_ | with_reducible refine le_set ?_ | with_reducible refine le_p1 ?_))) _))))⟩
set_option maxRecDepth 100000 in
theorem lifted (os : Os) (started : os.Started) (H : Type) (enc : TypeId × Value → H) :
    ReturnsInHanded {} Try.checked os 9 .any (Rows.matWholeSpec.pre6 enc Try.prog Try.f9 Rows.matWholeRow.domain false) (Rows.matWholeSpec.post enc Try.prog Try.f9 false true false false) := by
  refine returnsInHanded_of_change (C := Try.checked) own started (by kernel_rfl) Try.func9
    (ChangeSpec.witness6 (enc := enc) (C := Try.checked) false ⟨#[], #[.agg #[.int .i64 0, .int .i64 0, .int .i64 0, .int .i64 0], .slice none 0 0, .slice none 0 0, .slice none 0 0], []⟩ 8 (by kernel_rfl) (by kernel_rfl) (by kernel_rfl) (by kernel_rfl)) ?_
  intro W base args ds gs before hval0 hW hcnd _
  have hval : ∀ (j : Nat) t v, Try.f9.params[j]? = some t → args[j]? = some v → Value.okWide Try.prog W .any base t v := hval0
  have hW' := hW
  obtain ⟨p, q, hA0, hV, rfl, hfz, hnd⟩ := hW
  have hA : DataW.TrodAll enc Try.prog W 0 (fun _ => true) true Try.f9.params.toList args.toList ds p := hA0
  rw [Try.params9] at hA hval
  obtain ⟨v0, vs0, d0, ds0, p0, q0, hargs, rfl, rfl, h0, r0⟩ := trodAll_cons hA
  obtain ⟨v1, vs1, d1, ds1, p1, q1, rfl, rfl, rfl, h1, r1⟩ := trodAll_cons r0
  obtain ⟨v2, vs2, d2, ds2, p2, q2, rfl, rfl, rfl, h2, r2⟩ := trodAll_cons r1
  obtain ⟨v3, vs3, d3, ds3, p3, q3, rfl, rfl, rfl, h3, r3⟩ := trodAll_cons r2
  obtain ⟨rfl, rfl, rfl⟩ := trodAll_nil r3
  obtain rfl : args = #[v0, v1, v2, v3] := by cases args; simp_all
  obtain ⟨rfl, rfl⟩ := trodVars_none hV
  have k0 := h0
  have lt0 : ∀ x ∈ p0, x.block < W.heap.size := by obtain ⟨m, hm⟩ := k0; exact DataW.trod_lt m _ _ _ hm
  obtain ⟨S, rfl, w0⟩ := open_four (hval 0 59 v0 rfl rfl) h0
  obtain ⟨a1, lena1, capa1, rfl⟩ := okWide_slice Try.underlying22 (hval 1 22 v1 rfl rfl)
  have k1 := h1
  have lt1 : ∀ x ∈ p1, x.block < W.heap.size := by obtain ⟨m, hm⟩ := k1; exact DataW.trod_lt m _ _ _ hm
  obtain ⟨za1, w1⟩ : ∃ zs, IsRow .i64 W a1 lena1 capa1 zs := by
    obtain ⟨fuel, hf⟩ := h1
    rcases open_ints Try.underlying22 Try.underlying3 (by kernel_rfl) hf with ⟨hcs, _⟩ | ⟨x, l, c, zs, hcs, _, hl, hm, hz, _, hcell, hwz⟩
    · simp [Value.cells] at hcs
      obtain ⟨rfl, rfl, rfl⟩ := hcs
      exact ⟨[], .inl ⟨rfl, rfl, rfl, rfl⟩⟩
    · simp [Value.cells] at hcs
      obtain ⟨rfl, rfl, rfl⟩ := hcs
      exact ⟨zs, .inr ⟨_, rfl, hl, hm, by simpa using hz, hcell, hwz⟩⟩
  obtain ⟨a2, lena2, capa2, rfl⟩ := okWide_slice Try.underlying22 (hval 2 22 v2 rfl rfl)
  have k2 := h2
  have lt2 : ∀ x ∈ p2, x.block < W.heap.size := by obtain ⟨m, hm⟩ := k2; exact DataW.trod_lt m _ _ _ hm
  obtain ⟨za2, w2⟩ : ∃ zs, IsRow .i64 W a2 lena2 capa2 zs := by
    obtain ⟨fuel, hf⟩ := h2
    rcases open_ints Try.underlying22 Try.underlying3 (by kernel_rfl) hf with ⟨hcs, _⟩ | ⟨x, l, c, zs, hcs, _, hl, hm, hz, _, hcell, hwz⟩
    · simp [Value.cells] at hcs
      obtain ⟨rfl, rfl, rfl⟩ := hcs
      exact ⟨[], .inl ⟨rfl, rfl, rfl, rfl⟩⟩
    · simp [Value.cells] at hcs
      obtain ⟨rfl, rfl, rfl⟩ := hcs
      exact ⟨zs, .inr ⟨_, rfl, hl, hm, by simpa using hz, hcell, hwz⟩⟩
  obtain ⟨a3, lena3, capa3, rfl⟩ := okWide_slice Try.underlying22 (hval 3 22 v3 rfl rfl)
  have k3 := h3
  have lt3 : ∀ x ∈ p3, x.block < W.heap.size := by obtain ⟨m, hm⟩ := k3; exact DataW.trod_lt m _ _ _ hm
  obtain ⟨za3, w3⟩ : ∃ zs, IsRow .i64 W a3 lena3 capa3 zs := by
    obtain ⟨fuel, hf⟩ := h3
    rcases open_ints Try.underlying22 Try.underlying3 (by kernel_rfl) hf with ⟨hcs, _⟩ | ⟨x, l, c, zs, hcs, _, hl, hm, hz, _, hcell, hwz⟩
    · simp [Value.cells] at hcs
      obtain ⟨rfl, rfl, rfl⟩ := hcs
      exact ⟨[], .inl ⟨rfl, rfl, rfl, rfl⟩⟩
    · simp [Value.cells] at hcs
      obtain ⟨rfl, rfl, rfl⟩ := hcs
      exact ⟨zs, .inr ⟨_, rfl, hl, hm, by simpa using hz, hcell, hwz⟩⟩
  clear hA0 hval0
  refine (walk W S w0 a1 lena1 capa1 za1 w1 a2 lena2 capa2 za2 w2 a3 lena3 capa3 za3 w3).mono fun e W' ⟨he, bel⟩ => ?_
  subst he
  exact ⟨_, rfl, _, _, _, [], _, [], hW', trodAll_mk1 (shut_bool Try.underlying4 _), (trodAll_cons_mk (Below.trod laidOut (by kernel_rfl) (of_decide_eq_true (by kernel_rfl)) k0 bel lt0) (trodAll_cons_mk (Below.trod laidOut (by kernel_rfl) (of_decide_eq_true (by kernel_rfl)) k1 bel lt1) (trodAll_cons_mk (Below.trod laidOut (by kernel_rfl) (of_decide_eq_true (by kernel_rfl)) k2 bel lt2) (trodAll_cons_mk (Below.trod laidOut (by kernel_rfl) (of_decide_eq_true (by kernel_rfl)) k3 bel lt3) trodAll_mk0)))), rfl, bel.frame _, fun h => by cases h⟩
theorem over : Rows.matWholeRow.holds Try.pinned (OpenSpec.ofChange Rows.matWholeSpec) :=
  OpenClaim.holds_of_wide 9 Try.f9 rfl rfl rfl rfl rfl rfl rfl ⟨rfl, rfl, rfl, rfl, rfl⟩ rfl rfl rfl rfl rfl (by kernel_rfl) Try.func9 (by kernel_rfl)
    (of_decide_eq_true (by kernel_rfl)) (by unfold Func.isWrapper; first | (rw [if_pos (by decide +kernel)]; kernel_rfl) | (rw [if_neg (by decide +kernel)]; exact ⟨rfl, rfl⟩))
    (fun os started H enc _ => lifted os started H enc)
theorem proved : Rows.MatWholeSaid := over
#print axioms proved
end Go.Proofs.Ytlhadociaekkhaa.matWhole
