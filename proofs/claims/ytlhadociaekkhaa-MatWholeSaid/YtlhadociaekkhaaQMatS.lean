/- Matrices of small whole numbers, by any numbers (printed by mk_mats.py). -/
import Derived.Test.YtlhadociaekkhaaQF
import Derived.Test.YtlhadociaekkhaaQMatL5
import Derived.Test.YtlhadociaekkhaaQPick
set_option linter.unusedSimpArgs false
set_option linter.unusedVariables false
namespace Go.Proofs.Ytlhadociaekkhaa
set_option linter.unusedVariables false
set_option linter.unusedSimpArgs false
set_option maxRecDepth 100000
open Go.RowKit Go.Shelf
/-- The j-th small number, by these. -/
def sml (L : List Int) (j : Nat) : Int := if j < L.length then L.getD j 0 % 41 - 20 else 0
theorem sml_bd (L : List Int) (j : Nat) : (sml L j).natAbs ≤ 20 := by unfold sml; split <;> omega
def smlL (L : List Int) (k : Nat) : List Int := (List.range k).map fun j => sml L j * 4294967296
theorem smlL_len (L : List Int) (k : Nat) : (smlL L k).length = k := by simp [smlL]
theorem smlL_next (L : List Int) (k : Nat) : smlL L (k + 1) = smlL L k ++ [sml L k * 4294967296] := by unfold smlL; rw [List.range_succ, List.map_append]; rfl
theorem smlL_wh (L : List Int) (n : Nat) : Wh (smlL L n) n (sml L) 20 := Wh.of fun x _ => sml_bd L x
set_option maxHeartbeats 4000000 in
theorem lSmall {R C : Nat} {A0 : Option Addr} {n0 c0 : Nat} {L : List Int} {w : World} (hr : RS .i64 w A0 n0 c0 L) (hL : AllI L) (hR : 1 ≤ R ∧ R ≤ 5) (hC : 1 ≤ C ∧ C ≤ 5) :
    Calls Try.prog 43 #[.int .i64 (R : Int), .int .i64 (C : Int), .slice A0 n0 c0] w fun e w' => ∃ A' c', e = .returned (.agg #[.int .i64 (R : Int), .int .i64 (C : Int), .slice A' (R * C) c']) ∧ OwnI w w' (.slice A' (R * C) c') (smlL L (R * C)) ∧ Below w.heap.size w w' := by
  obtain rfl := hr.len
  have htop := hr.top
  have hcap := hr.cap
  have hll : L.length ≤ 9223372036854775807 := by omega
  obtain ⟨N, hN⟩ : ∃ N, R * C = N := ⟨_, rfl⟩
  have hN1 : N ≤ 25 := by have := Nat.mul_le_mul hR.2 hC.2; omega
  have hwv : Value.int .i64 (wrap64 ((R : Int) * (C : Int))) = Value.int .i64 (N : Int) := by
    have e : (R : Int) * (C : Int) = ((R * C : Nat) : Int) := by simp
    rw [e, hN, IntWalk.wrap64_in _ ⟨by omega, by omega⟩]
  have hlt0 : ∀ k : Nat, (decide ((k : Int) < wrap64 ((R : Int) * (C : Int)))) = decide (k < N) := fun k => by
    have e : (R : Int) * (C : Int) = ((R * C : Nat) : Int) := by simp
    rw [e, hN, IntWalk.wrap64_in _ ⟨by omega, by omega⟩]
    simp
  rw [hN]
  have HR := Lib.hid hr
  have HL0 := Lib.hid hL
  have HLT := Lib.hid hlt0
  obtain ⟨r, hr0⟩ : ∃ r : Int, (R : Int) = r := ⟨_, rfl⟩
  obtain ⟨c, hc0⟩ : ∃ c : Int, (C : Int) = c := ⟨_, rfl⟩
  rw [hr0, hc0] at hwv HLT
  rw [hr0, hc0]
  clear hr hL hlt0 hN hR hC hr0 hc0
  go_enter Try.func43, Try.ntmps43
  go_upto_region 2 with fail
  refine wp_gen (fun W hW => ?_)
  have f0 : Below w.heap.size w W := by rw [hW]; (repeat (first | assumption | exact Below.refl _ _ | with_reducible refine past_t _ ?_ | with_reducible refine below_a _ ?_ | with_reducible refine Below.drew ?_ | with_reducible refine below_d _ ?_ | (with_reducible refine Below.setCell ?_ (by (show _ ≤ _; repeat (first | exact Nat.le_refl _ | assumption | (omega; done) | with_reducible exact le_past (Nat.le_refl _) | with_reducible refine le_past ?_ | with_reducible refine le_al ?_ | with_reducible refine le_set ?_ | with_reducible refine le_p1 ?_))) _)))
  have f4 : Blk W w.heap.size 24 #[.int .i64 0, .int .i64 0, .slice none 0 0] := by rw [hW]; exact (Blk.new w _ _).keep ((Below.refl _ _).alloc (Nat.le_refl _) _)
  have hBX : Blk W (w.heap.size + 1) 24 #[.int .i64 r, .int .i64 c, .slice none 0 0] := by
    have := Blk.new (w.alloc (.cells #[.int .i64 0, .int .i64 0, .slice none 0 0] 24)) 24 #[.int .i64 r, .int .i64 c, .slice none 0 0]
    simp only [World.size_alloc] at this
    rw [hW]
    exact this
  obtain ⟨X, hX⟩ : ∃ X, w.heap.size + 1 = X := ⟨_, rfl⟩
  rw [hX] at hBX ⊢
  have x0 : W.cell? ⟨X, 0, none⟩ = some (.int .i64 r) := hBX.cell 0
  have x1 : W.cell? ⟨X, 1, none⟩ = some (.int .i64 c) := hBX.cell 1
  have x2 : W.cell? ⟨X, 2, none⟩ = some (.slice none 0 0) := hBX.cell 2
  have xf : W.frozen? ⟨X, 2, none⟩ = false := hBX.mark 2
  have hXW := hBX.lt
  have hws := f0.size
  have G4 := Lib.hid f4
  clear hW hBX f4
  go_wp2_with fail
  go_loopg [8, 9] N (fun g s8 s9 wr => ∃ (k : Nat) (A' : Option Addr) (cp : Nat), k ≤ N ∧ N ≤ g + k ∧ s8 = .int .i64 k ∧ OwnI W wr (.slice A' k cp) (smlL L k) ∧ Below (bx X (.slice A' k cp) W).heap.size (bx X (.slice A' k cp) W) wr)
  case atStart =>
    refine ⟨0, none, 0, by omega, by omega, rfl, OwnK.nil _ _ _ _, ?_⟩
    rw [bx_self x2]
    exact Below.refl _ _
  case round =>
    obtain ⟨k, A', cp, hk, hg, rfl, hown, hbel⟩ := hrel
    have d0 : wr.cell? ⟨X, 0, none⟩ = some (.int .i64 r) := (hbel.cell (p := ⟨X, 0, none⟩) (by rw [bx_size]; exact hXW)).trans ((World.cell?_setCell_other _ _ _ _ (by simp)).trans x0)
    have d1 : wr.cell? ⟨X, 1, none⟩ = some (.int .i64 c) := (hbel.cell (p := ⟨X, 1, none⟩) (by rw [bx_size]; exact hXW)).trans ((World.cell?_setCell_other _ _ _ _ (by simp)).trans x1)
    have d2 := bx_cell x2 hbel
    by_cases hlt : k < N
    · have HN := Lib.hid (smlL_next L k)
      have hl0 := smlL_len L k
      have HL := Lib.hid hl0
      have hsx := sml_bd L k
      have hdk := HLT.out k
      rw [decide_eq_true hlt] at hdk
      obtain ⟨x, hx⟩ : ∃ x, sml L k = x := ⟨_, rfl⟩
      rw [hx] at HN hsx
      generalize smlL L k = L' at *
      have hwx : IntKind.i64.wrap (x * 4294967296) = x * 4294967296 := by rw [IntKind.wrap_i64]; omega
      have HO := Lib.hid hown
      have HX := Lib.hid hx
      clear hown hx
      by_cases hin : k < L.length
      · have HIN := Lib.hid hin
        obtain ⟨p, o, rfl, hpw, hrow⟩ := HR.out.at_ (by omega)
        have fx0 := ((f0.cell (p := ⟨p, o + k, none⟩) hpw).trans (hrow k hin))
        have fx := bx_far (by omega) fx0 hbel
        have hxv : L.getD k 0 % 41 - 20 = x := by rw [← HX.out]; unfold sml; rw [if_pos hin]
        have hy := HL0.out.get hin
        have HXV := Lib.hid hxv
        clear hrow fx0 hxv
        generalize L.getD k 0 = y at *
        have hm0 := Int.emod_nonneg y (show (41 : Int) ≠ 0 by decide)
        have hm1 := Int.emod_lt_of_pos y (show (0 : Int) < 41 by decide)
        obtain ⟨m, hm⟩ : ∃ m, y % 41 = m := ⟨_, rfl⟩
        have hpk : ∀ W, Calls Try.prog 42 #[.int .i64 y, .int .i64 41] W fun e w' => e = .returned (.int .i64 m) ∧ w' = W := fun W => by rw [← hm]; exact pPick y 41 W hy.1 hy.2 (by omega) (by omega)
        rw [hm] at HXV hm0 hm1
        have hxm := HXV.out
        clear hm HXV hy
        go_upto_region 8 with (go_at_call 42; refine (hpk _).mono ?_; rintro e w2 ⟨rfl, rfl⟩)
        go_wp2_with (at_builtin; refine append_w (by rfl) _ _ (by rfl) (bx X (.slice A' k cp) W) (by rfl) (by rfl) ?_ ((HO.out.base (by rw [bx_size]; exact Nat.le_refl _)).keep ?_) (RS.lit .i64 _ [x * 4294967296] _ _ ?_ 1 ?_ ?_ 1 ?_ _ ?_) ?_ ?_; (focus ((first | ((repeat (first | assumption | exact Below.refl _ _ | with_reducible refine past_t _ ?_ | with_reducible refine below_a _ ?_ | with_reducible refine Below.drew ?_ | with_reducible refine below_d _ ?_ | (with_reducible refine Below.setCell ?_ (by (show _ ≤ _; repeat (first | exact Nat.le_refl _ | assumption | (omega; done) | with_reducible exact le_past (Nat.le_refl _) | with_reducible refine le_past ?_ | with_reducible refine le_al ?_ | with_reducible refine le_set ?_ | with_reducible refine le_p1 ?_))) _))); done) | assumption | omega | (simp; done) | (simp [go_sem]; done) | (simp; omega) | (simp [go_sem, *]; done)); done)); (focus ((first | ((repeat (first | assumption | exact Below.refl _ _ | with_reducible refine past_t _ ?_ | with_reducible refine below_a _ ?_ | with_reducible refine Below.drew ?_ | with_reducible refine below_d _ ?_ | (with_reducible refine Below.setCell ?_ (by (show _ ≤ _; repeat (first | exact Nat.le_refl _ | assumption | (omega; done) | with_reducible exact le_past (Nat.le_refl _) | with_reducible refine le_past ?_ | with_reducible refine le_al ?_ | with_reducible refine le_set ?_ | with_reducible refine le_p1 ?_))) _))); done) | assumption | omega | (simp; done) | (simp [go_sem]; done) | (simp; omega) | (simp [go_sem, *]; done)); done)); (focus ((first | ((repeat (first | assumption | exact Below.refl _ _ | with_reducible refine past_t _ ?_ | with_reducible refine below_a _ ?_ | with_reducible refine Below.drew ?_ | with_reducible refine below_d _ ?_ | (with_reducible refine Below.setCell ?_ (by (show _ ≤ _; repeat (first | exact Nat.le_refl _ | assumption | (omega; done) | with_reducible exact le_past (Nat.le_refl _) | with_reducible refine le_past ?_ | with_reducible refine le_al ?_ | with_reducible refine le_set ?_ | with_reducible refine le_p1 ?_))) _))); done) | assumption | omega | (simp; done) | (simp [go_sem]; done) | (simp; omega) | (simp [go_sem, *]; done)); done)); (focus ((first | ((repeat (first | assumption | exact Below.refl _ _ | with_reducible refine past_t _ ?_ | with_reducible refine below_a _ ?_ | with_reducible refine Below.drew ?_ | with_reducible refine below_d _ ?_ | (with_reducible refine Below.setCell ?_ (by (show _ ≤ _; repeat (first | exact Nat.le_refl _ | assumption | (omega; done) | with_reducible exact le_past (Nat.le_refl _) | with_reducible refine le_past ?_ | with_reducible refine le_al ?_ | with_reducible refine le_set ?_ | with_reducible refine le_p1 ?_))) _))); done) | assumption | omega | (simp; done) | (simp [go_sem]; done) | (simp; omega) | (simp [go_sem, *]; done)); done)); (focus ((first | ((repeat (first | assumption | exact Below.refl _ _ | with_reducible refine past_t _ ?_ | with_reducible refine below_a _ ?_ | with_reducible refine Below.drew ?_ | with_reducible refine below_d _ ?_ | (with_reducible refine Below.setCell ?_ (by (show _ ≤ _; repeat (first | exact Nat.le_refl _ | assumption | (omega; done) | with_reducible exact le_past (Nat.le_refl _) | with_reducible refine le_past ?_ | with_reducible refine le_al ?_ | with_reducible refine le_set ?_ | with_reducible refine le_p1 ?_))) _))); done) | assumption | omega | (simp; done) | (simp [go_sem]; done) | (simp; omega) | (simp [go_sem, *]; done)); done)); (focus ((first | ((repeat (first | assumption | exact Below.refl _ _ | with_reducible refine past_t _ ?_ | with_reducible refine below_a _ ?_ | with_reducible refine Below.drew ?_ | with_reducible refine below_d _ ?_ | (with_reducible refine Below.setCell ?_ (by (show _ ≤ _; repeat (first | exact Nat.le_refl _ | assumption | (omega; done) | with_reducible exact le_past (Nat.le_refl _) | with_reducible refine le_past ?_ | with_reducible refine le_al ?_ | with_reducible refine le_set ?_ | with_reducible refine le_p1 ?_))) _))); done) | assumption | omega | (simp; done) | (simp [go_sem]; done) | (simp; omega) | (simp [go_sem, *]; done)); done)); (focus ((first | ((repeat (first | assumption | exact Below.refl _ _ | with_reducible refine past_t _ ?_ | with_reducible refine below_a _ ?_ | with_reducible refine Below.drew ?_ | with_reducible refine below_d _ ?_ | (with_reducible refine Below.setCell ?_ (by (show _ ≤ _; repeat (first | exact Nat.le_refl _ | assumption | (omega; done) | with_reducible exact le_past (Nat.le_refl _) | with_reducible refine le_past ?_ | with_reducible refine le_al ?_ | with_reducible refine le_set ?_ | with_reducible refine le_p1 ?_))) _))); done) | assumption | omega | (simp; done) | (simp [go_sem]; done) | (simp; omega) | (simp [go_sem, *]; done)); done)); (focus ((first | ((repeat (first | assumption | exact Below.refl _ _ | with_reducible refine past_t _ ?_ | with_reducible refine below_a _ ?_ | with_reducible refine Below.drew ?_ | with_reducible refine below_d _ ?_ | (with_reducible refine Below.setCell ?_ (by (show _ ≤ _; repeat (first | exact Nat.le_refl _ | assumption | (omega; done) | with_reducible exact le_past (Nat.le_refl _) | with_reducible refine le_past ?_ | with_reducible refine le_al ?_ | with_reducible refine le_set ?_ | with_reducible refine le_p1 ?_))) _))); done) | assumption | omega | (simp; done) | (simp [go_sem]; done) | (simp; omega) | (simp [go_sem, *]; done)); done)); intro A3 c3 w4 ho4 hb4; have j0 := bx_cell x2 hb4; have j4 := bx_mark x2 xf hb4)
        go_roundg (N - (k + 1))
        case measure => omega
        case rel =>
          refine ⟨k + 1, A3, c3, by omega, by omega, by go_num, ?_, ?_⟩
          · rw [HN.out, ← HL.out]
            exact own_set (ho4.base (U := W) (by rw [bx_size]; exact Nat.le_refl _)) hXW _
          · rw [← HL.out]
            rw [← HL.out] at hb4
            exact bx_next hb4
      · have hxv : 0 = x := by rw [← HX.out]; unfold sml; rw [if_neg hin]
        subst hxv
        go_upto_region 8 with fail
        go_wp2_with (at_builtin; refine append_w (by rfl) _ _ (by rfl) (bx X (.slice A' k cp) W) (by rfl) (by rfl) ?_ ((HO.out.base (by rw [bx_size]; exact Nat.le_refl _)).keep ?_) (RS.lit .i64 _ [0] _ _ ?_ 1 ?_ ?_ 1 ?_ _ ?_) ?_ ?_; (focus ((first | ((repeat (first | assumption | exact Below.refl _ _ | with_reducible refine past_t _ ?_ | with_reducible refine below_a _ ?_ | with_reducible refine Below.drew ?_ | with_reducible refine below_d _ ?_ | (with_reducible refine Below.setCell ?_ (by (show _ ≤ _; repeat (first | exact Nat.le_refl _ | assumption | (omega; done) | with_reducible exact le_past (Nat.le_refl _) | with_reducible refine le_past ?_ | with_reducible refine le_al ?_ | with_reducible refine le_set ?_ | with_reducible refine le_p1 ?_))) _))); done) | assumption | omega | (simp; done) | (simp [go_sem]; done) | (simp; omega) | (simp [go_sem, *]; done)); done)); (focus ((first | ((repeat (first | assumption | exact Below.refl _ _ | with_reducible refine past_t _ ?_ | with_reducible refine below_a _ ?_ | with_reducible refine Below.drew ?_ | with_reducible refine below_d _ ?_ | (with_reducible refine Below.setCell ?_ (by (show _ ≤ _; repeat (first | exact Nat.le_refl _ | assumption | (omega; done) | with_reducible exact le_past (Nat.le_refl _) | with_reducible refine le_past ?_ | with_reducible refine le_al ?_ | with_reducible refine le_set ?_ | with_reducible refine le_p1 ?_))) _))); done) | assumption | omega | (simp; done) | (simp [go_sem]; done) | (simp; omega) | (simp [go_sem, *]; done)); done)); (focus ((first | ((repeat (first | assumption | exact Below.refl _ _ | with_reducible refine past_t _ ?_ | with_reducible refine below_a _ ?_ | with_reducible refine Below.drew ?_ | with_reducible refine below_d _ ?_ | (with_reducible refine Below.setCell ?_ (by (show _ ≤ _; repeat (first | exact Nat.le_refl _ | assumption | (omega; done) | with_reducible exact le_past (Nat.le_refl _) | with_reducible refine le_past ?_ | with_reducible refine le_al ?_ | with_reducible refine le_set ?_ | with_reducible refine le_p1 ?_))) _))); done) | assumption | omega | (simp; done) | (simp [go_sem]; done) | (simp; omega) | (simp [go_sem, *]; done)); done)); (focus ((first | ((repeat (first | assumption | exact Below.refl _ _ | with_reducible refine past_t _ ?_ | with_reducible refine below_a _ ?_ | with_reducible refine Below.drew ?_ | with_reducible refine below_d _ ?_ | (with_reducible refine Below.setCell ?_ (by (show _ ≤ _; repeat (first | exact Nat.le_refl _ | assumption | (omega; done) | with_reducible exact le_past (Nat.le_refl _) | with_reducible refine le_past ?_ | with_reducible refine le_al ?_ | with_reducible refine le_set ?_ | with_reducible refine le_p1 ?_))) _))); done) | assumption | omega | (simp; done) | (simp [go_sem]; done) | (simp; omega) | (simp [go_sem, *]; done)); done)); (focus ((first | ((repeat (first | assumption | exact Below.refl _ _ | with_reducible refine past_t _ ?_ | with_reducible refine below_a _ ?_ | with_reducible refine Below.drew ?_ | with_reducible refine below_d _ ?_ | (with_reducible refine Below.setCell ?_ (by (show _ ≤ _; repeat (first | exact Nat.le_refl _ | assumption | (omega; done) | with_reducible exact le_past (Nat.le_refl _) | with_reducible refine le_past ?_ | with_reducible refine le_al ?_ | with_reducible refine le_set ?_ | with_reducible refine le_p1 ?_))) _))); done) | assumption | omega | (simp; done) | (simp [go_sem]; done) | (simp; omega) | (simp [go_sem, *]; done)); done)); (focus ((first | ((repeat (first | assumption | exact Below.refl _ _ | with_reducible refine past_t _ ?_ | with_reducible refine below_a _ ?_ | with_reducible refine Below.drew ?_ | with_reducible refine below_d _ ?_ | (with_reducible refine Below.setCell ?_ (by (show _ ≤ _; repeat (first | exact Nat.le_refl _ | assumption | (omega; done) | with_reducible exact le_past (Nat.le_refl _) | with_reducible refine le_past ?_ | with_reducible refine le_al ?_ | with_reducible refine le_set ?_ | with_reducible refine le_p1 ?_))) _))); done) | assumption | omega | (simp; done) | (simp [go_sem]; done) | (simp; omega) | (simp [go_sem, *]; done)); done)); (focus ((first | ((repeat (first | assumption | exact Below.refl _ _ | with_reducible refine past_t _ ?_ | with_reducible refine below_a _ ?_ | with_reducible refine Below.drew ?_ | with_reducible refine below_d _ ?_ | (with_reducible refine Below.setCell ?_ (by (show _ ≤ _; repeat (first | exact Nat.le_refl _ | assumption | (omega; done) | with_reducible exact le_past (Nat.le_refl _) | with_reducible refine le_past ?_ | with_reducible refine le_al ?_ | with_reducible refine le_set ?_ | with_reducible refine le_p1 ?_))) _))); done) | assumption | omega | (simp; done) | (simp [go_sem]; done) | (simp; omega) | (simp [go_sem, *]; done)); done)); (focus ((first | ((repeat (first | assumption | exact Below.refl _ _ | with_reducible refine past_t _ ?_ | with_reducible refine below_a _ ?_ | with_reducible refine Below.drew ?_ | with_reducible refine below_d _ ?_ | (with_reducible refine Below.setCell ?_ (by (show _ ≤ _; repeat (first | exact Nat.le_refl _ | assumption | (omega; done) | with_reducible exact le_past (Nat.le_refl _) | with_reducible refine le_past ?_ | with_reducible refine le_al ?_ | with_reducible refine le_set ?_ | with_reducible refine le_p1 ?_))) _))); done) | assumption | omega | (simp; done) | (simp [go_sem]; done) | (simp; omega) | (simp [go_sem, *]; done)); done)); intro A3 c3 w4 ho4 hb4; have j0 := bx_cell x2 hb4; have j4 := bx_mark x2 xf hb4)
        go_roundg (N - (k + 1))
        case measure => omega
        case rel =>
          refine ⟨k + 1, A3, c3, by omega, by omega, by go_num, ?_, ?_⟩
          · rw [HN.out, ← HL.out]
            exact own_set (ho4.base (U := W) (by rw [bx_size]; exact Nat.le_refl _)) hXW _
          · rw [← HL.out]
            rw [← HL.out] at hb4
            exact bx_next hb4
    · obtain rfl : k = N := by omega
      have hdk := HLT.out k
      rw [decide_eq_false hlt] at hdk
      have hq := (G4.out.far (b := X) (by omega) (.slice A' k cp)).keep hbel
      have hT : Below w.heap.size w wr := (f0.setCell (by show w.heap.size ≤ X; omega) _).trans (hbel.mono (by rw [bx_size]; exact hws))
      have q0 := hq.cell 0
      have q1 := hq.cell 1
      have q2 := hq.cell 2
      have q3 := hq.mark 0
      have q4 := hq.mark 1
      have q5 := hq.mark 2
      have q6 := hq.lt
      simp at q0 q1 q2
      have HO := Lib.hid hown
      clear hown hbel
      go_wp2_with fail
      exact bodyPost_ret (results_m1 rfl rfl hq) rfl ⟨_, _, rfl, (own_box HO.out (by omega) _ _ _).base (U := w) hws, below_box hT (Nat.le_refl _) _ _ _⟩
end Go.Proofs.Ytlhadociaekkhaa
