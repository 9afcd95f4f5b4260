/- The document's Sum (printed by mk_matr6.py). -/
import Derived.Test.YtlhadociaekkhaaQD
set_option linter.unusedSimpArgs false
set_option linter.unusedVariables false
namespace Go.Proofs.Ytlhadociaekkhaa
set_option linter.unusedVariables false
set_option maxRecDepth 100000
open Go.RowKit Go.Shelf
set_option maxHeartbeats 4000000 in
theorem r7Sum {B R C : Nat} {i : Bool} {c : Int} {v1 v2 : Value} {a b : List Int} {w : World} (h : RA B i c w) (hc : 0 ≤ c ∧ c ≤ 4611686018427380000) (h1 : MS w B v1 a) (h2 : MS w B v2 b) (hR : 1 ≤ R ∧ R ≤ 12) (hC : 1 ≤ C ∧ C ≤ 12) (hza : a.length = R * C) (hzb : b.length = R * C) (hia : AllI a) (hib : AllI b) :
    Calls Try.prog 36 #[UP B, .agg #[.int .i64 R, .int .i64 C, v1], .agg #[.int .i64 R, .int .i64 C, v2]] w fun e w' =>
      ∃ A cap, e = .returned (.tuple #[.agg #[.int .i64 R, .int .i64 C, .slice A (R * C) cap], .int .i64 0]) ∧ OwnI w w' (.slice A (R * C) cap) (mapG gSum i a b (R * C)).1 ∧ Below w.heap.size (put B (mapG gSum i a b (R * C)).2 (c + 2 * (R * C : Nat)) w) w' := by
  have hN : R * C ≤ 144 := Nat.mul_le_mul hR.2 hC.2
  have hN1 : 1 ≤ R * C := Nat.mul_le_mul hR.1 hC.1
  have hck1 : chk R C a.length = 0 := by unfold chk; rw [if_pos ⟨by omega, by omega, by rw [hza]; simp⟩]
  have hck2 : chk R C b.length = 0 := by unfold chk; rw [if_pos ⟨by omega, by omega, by rw [hzb]; simp⟩]
  rw [← hza] at hzb
  have HZB := Lib.hid hzb
  rw [← hza] at hN hN1 ⊢
  have hBl := h.lt
  have H := Lib.hid h
  obtain ⟨A1, c1, rfl, hr1, hn1⟩ := h1
  obtain ⟨p1, o1, rfl, hw1, hrow1⟩ := hr1.at_ (by omega)
  have hp1 := hn1 p1 o1 rfl
  have HR1 := Lib.hid hrow1
  have hcap1 := hr1.cap
  obtain ⟨A2, c2, rfl, hr2, hn2⟩ := h2
  obtain ⟨p2, o2, rfl, hw2, hrow2⟩ := hr2.at_ (by omega)
  have hp2 := hn2 p2 o2 rfl
  have HR2 := Lib.hid hrow2
  have hcap2 := hr2.cap
  have hak := fun W => r7alikeY (A1 := some ⟨p1, o1, none⟩) (A2 := some ⟨p2, o2, none⟩) (c1 := c1) (c2 := c2) (w := W) hck1 hck2
  clear hr2 hn2 hrow2 hck2 hzb
  have HZA := Lib.hid hza
  clear h hr1 hn1 hrow1 hck1 hza
  go_enter Try.func36, Try.ntmps36
  go_upto_region 3 with ((go_at_call 56; first | (with_reducible refine Calls_past2 (hak _) (fun z => ?_)) | (with_reducible refine Calls_past (hak _) (fun z => ?_))))
  refine wp_gen (fun W0 hW0 => ?_)
  have g0 : Below w.heap.size w W0 := by rw [hW0]; (repeat (first | assumption | exact Below.refl _ _ | with_reducible refine past_t _ ?_ | with_reducible refine below_a _ ?_ | with_reducible refine Below.drew ?_ | with_reducible refine below_d _ ?_ | (with_reducible refine Below.setCell ?_ (by (show _ ≤ _; repeat (first | exact Nat.le_refl _ | assumption | (omega; done) | with_reducible exact le_past (Nat.le_refl _) | with_reducible refine le_past ?_ | with_reducible refine le_al ?_ | with_reducible refine le_set ?_ | with_reducible refine le_p1 ?_))) _)))
  have g1 : W0.cell? ⟨w.heap.size, 0, none⟩ = some (.int .i64 R) := by rw [hW0]; (first | (simp [go_sem]; done) | (simp [go_sem, ↓IntWalk.iteOmega]; done))
  have g2 : W0.cell? ⟨w.heap.size, 1, none⟩ = some (.int .i64 C) := by rw [hW0]; (first | (simp [go_sem]; done) | (simp [go_sem, ↓IntWalk.iteOmega]; done))
  have g3 : W0.cell? ⟨w.heap.size, 2, none⟩ = some (.slice (some ⟨p1, o1, none⟩) a.length c1) := by rw [hW0]; (first | (simp [go_sem]; done) | (simp [go_sem, ↓IntWalk.iteOmega]; done))
  have g33 : W0.cell? ⟨w.heap.size + 1, 2, none⟩ = some (.slice (some ⟨p2, o2, none⟩) b.length c2) := by rw [hW0]; (first | (simp [go_sem]; done) | (simp [go_sem, ↓IntWalk.iteOmega]; done))
  have g4 : Blk W0 (w.heap.size + 1 + 1) 24 #[.int .i64 0, .int .i64 0, .slice none 0 0] := by
    have := Blk.new ((w.alloc (.cells #[.int .i64 R, .int .i64 C, .slice (some ⟨p1, o1, none⟩) a.length c1] 24)).alloc (.cells #[.int .i64 R, .int .i64 C, .slice (some ⟨p2, o2, none⟩) b.length c2] 24)) 24 #[.int .i64 0, .int .i64 0, .slice none 0 0]
    rw [hW0]
    simp only [World.size_alloc] at this
    exact this.keep (by (repeat (first | assumption | exact Below.refl _ _ | with_reducible refine past_t _ ?_ | with_reducible refine below_a _ ?_ | with_reducible refine Below.drew ?_ | with_reducible refine below_d _ ?_ | (with_reducible refine Below.setCell ?_ (by (show _ ≤ _; repeat (first | exact Nat.le_refl _ | assumption | (omega; done) | with_reducible exact le_past (Nat.le_refl _) | with_reducible refine le_past ?_ | with_reducible refine le_al ?_ | with_reducible refine le_set ?_ | with_reducible refine le_p1 ?_))) _))))
  have g5 := g4.lt
  have G4 := Lib.hid g4
  clear hW0 hak g4
  go_upto_region 4 with fail
  obtain ⟨X, hX⟩ : ∃ X, W0.heap.size = X := ⟨_, rfl⟩
  rw [hX] at g5 ⊢
  refine wp_gen (fun W hW => ?_)
  have hb0 : Below W0.heap.size W0 W := by rw [hW]; exact (Below.refl _ _).alloc (Nat.le_refl _) _
  have hBX : Blk W X 24 #[.int .i64 R, .int .i64 C, .slice none 0 0] := by rw [hW, ← hX]; exact Blk.new _ _ _
  clear hW
  have f0 := g0.trans (hb0.mono g0.size)
  have f3 := cell_keep g3 hb0
  have f33 := cell_keep g33 hb0
  have f4 := Lib.hid (G4.out.keep hb0)
  have x0 : W.cell? ⟨X, 0, none⟩ = some (.int .i64 R) := hBX.cell 0
  have x1 : W.cell? ⟨X, 1, none⟩ = some (.int .i64 C) := hBX.cell 1
  have x2 : W.cell? ⟨X, 2, none⟩ = some (.slice none 0 0) := hBX.cell 2
  have xf : W.frozen? ⟨X, 2, none⟩ = false := hBX.mark 2
  have hXW := hBX.lt
  have hws := f0.size
  have hXB : X ≠ B := by omega
  have RU := Lib.hid (H.out.keep f0)
  have hBW : B < W.heap.size := by omega
  clear g0 g1 g2 g3 G4 hb0 hX
  go_wp2_with fail
  go_loopg [9] a.length (fun g s9 wr => ∃ (k : Nat) (A' : Option Addr) (cp : Nat), k ≤ a.length ∧ a.length ≤ g + k ∧ s9 = .int .i64 k ∧ OwnI W wr (.slice A' k cp) (mapG gSum i a b k).1 ∧ Below (put B (mapG gSum i a b k).2 (c + 2 * (k : Nat)) (bx X (.slice A' k cp) W)).heap.size (put B (mapG gSum i a b k).2 (c + 2 * (k : Nat)) (bx X (.slice A' k cp) W)) wr)
  case atStart =>
    refine ⟨0, none, 0, by omega, by omega, rfl, OwnK.nil _ _ _ _, ?_⟩
    have e0 : (mapG gSum i a b 0) = ([], i) := rfl
    rw [e0, bx_self x2]
    simp only [Int.natCast_zero, Int.mul_zero, Int.add_zero]
    rw [rput_self RU.out]
    exact Below.refl _ _
  case round =>
    obtain ⟨k, A', cp, hk, hg, rfl, hown, hbel⟩ := hrel
    have hml := mapG_len gSum i a b k
    obtain ⟨P, hP⟩ : ∃ P, (mapG gSum i a b k) = P := ⟨_, rfl⟩
    have hnx : (mapG gSum i a b (k + 1)) = ((mapG gSum i a b k).1 ++ [(gSum (mapG gSum i a b k).2 (a.getD k 0) (b.getD k 0)).1], (gSum (mapG gSum i a b k).2 (a.getD k 0) (b.getD k 0)).2) := rfl
    rw [hP] at hown hbel hnx hml
    obtain ⟨L, f⟩ := P
    simp only at hown hbel hnx hml
    obtain ⟨cc, hcc⟩ : ∃ cc : Int, c + 2 * (k : Int) = cc := ⟨_, rfl⟩
    rw [hcc] at hbel
    have c2' := bxp_far (by omega) (by omega) f3 hbel
    have d0 : wr.cell? ⟨X, 0, none⟩ = some (.int .i64 R) := (hbel.cell (p := ⟨X, 0, none⟩) (by rw [put_size, bx_size]; exact hXW)).trans ((put_cell _ _ _ _ _ hXB).trans ((World.cell?_setCell_other _ _ _ _ (by simp)).trans x0))
    have d1 : wr.cell? ⟨X, 1, none⟩ = some (.int .i64 C) := (hbel.cell (p := ⟨X, 1, none⟩) (by rw [put_size, bx_size]; exact hXW)).trans ((put_cell _ _ _ _ _ hXB).trans ((World.cell?_setCell_other _ _ _ _ (by simp)).trans x1))
    have d2 := bxp_cell hXB x2 hbel
    by_cases hlt : k < a.length
    · have hx := hia.get hlt
      have fx := (f0.cell (p := ⟨p1, o1 + k, none⟩) hw1).trans (HR1.out k hlt)
      have hltb : k < b.length := by have := HZB.out; omega
      have hy := hib.get hltb
      have fy := (f0.cell (p := ⟨p2, o2 + k, none⟩) hw2).trans (HR2.out k hltb)
      generalize b.getD k 0 = y at *
      generalize a.getD k 0 = x at *
      have hua := ((RU.out.bx hXB (.slice A' k cp)).put f cc).keep hbel
      have hBr : B < wr.heap.size := hua.lt
      have hcb : 0 ≤ cc ∧ cc + 2 ≤ 4611686018427387904 := by omega
      have hst0 := fun (W' : World) (kp : Below wr.heap.size wr W') (v : Value) (hv : SL W' B v [x, y]) => r4Add2 (hua.keep kp) hx hy hv hcb
      skip
      generalize gSum f x y = q at *
      obtain ⟨q1, q2⟩ := q
      simp only at hnx hst0
      have hst : ∀ W', Below wr.heap.size wr W' → ∀ v, SL W' B v [x, y] → Calls Try.prog 57 #[UP B, v] W' fun e w' => e = .returned (.int .i64 q1) ∧ OwnI W w' (.slice A' k cp) L ∧ Below (put B q2 (cc + 2) (bx X (.slice A' k cp) W)).heap.size (put B q2 (cc + 2) (bx X (.slice A' k cp) W)) w' :=
        fun W' kp v hv => (hst0 W' kp v hv).mono fun e w' h => ⟨h.1, (ownK_put (hown.keep kp) hBW _ _).keep h.2, next_put hbel kp h.2⟩
      have HST := Lib.hid hst
      have HX := Lib.hid hnx
      have HCC := Lib.hid hcc
      have HML := Lib.hid hml
      have hRl : L.length ≤ 1000000 := by omega
      clear hst hst0 hown hnx hP hua hcc hml
      go_wp2_with fail
      refine region_heldT (S := fun w' => ∃ q d, Below (put B q d (bx X (.slice A' k cp) W)).heap.size (put B q d (bx X (.slice A' k cp) W)) w') 18 (by kernel_rfl) ?_ (fun hHeld => ?_)
      · (try dsimp only); exact ⟨_, _, by (repeat (first | assumption | exact Below.refl _ _ | with_reducible refine past_t _ ?_ | with_reducible refine below_a _ ?_ | with_reducible refine Below.drew ?_ | with_reducible refine below_d _ ?_ | (with_reducible refine Below.setCell ?_ (by (show _ ≤ _; repeat (first | exact Nat.le_refl _ | assumption | (omega; done) | with_reducible exact le_past (Nat.le_refl _) | with_reducible refine le_past ?_ | with_reducible refine le_al ?_ | with_reducible refine le_set ?_ | with_reducible refine le_p1 ?_))) _)))⟩
      refine wpAnyT_take (i := 0) (v := ?_) rfl (by kernel_rfl) (fun _ _ _ h => h) (Or.inl ⟨by rfl, ?_⟩) (by assumption) ?_; rotate_left 1
      · intro wS hSw; (try dsimp only at hSw); obtain ⟨q', d', hS'⟩ := hSw; have z1 := bxp_far (by omega) (by omega) f3 hS'; have z2 := bxp_cell hXB x2 hS'; have z3 := bxp_far hp1 (by omega) fx hS'; have z4 := bxp_far (by omega) (by omega) f33 hS'; have z5 := bxp_far hp2 (by omega) fy hS'; go_simp <;> with_reducible rfl
      try simp only [Act.put, List.setIfInBounds_toArray, List.set_cons_zero, List.set_cons_succ]
      refine wpAnyT_take (i := 1) (v := ?_) rfl (by kernel_rfl) (fun _ _ _ h => h) (Or.inl ⟨by rfl, ?_⟩) (by assumption) ?_; rotate_left 1
      · intro wS hSw; (try dsimp only at hSw); obtain ⟨q', d', hS'⟩ := hSw; have z1 := bxp_far (by omega) (by omega) f3 hS'; have z2 := bxp_cell hXB x2 hS'; have z3 := bxp_far hp1 (by omega) fx hS'; have z4 := bxp_far (by omega) (by omega) f33 hS'; have z5 := bxp_far hp2 (by omega) fy hS'; go_simp <;> with_reducible rfl
      try simp only [Act.put, List.setIfInBounds_toArray, List.set_cons_zero, List.set_cons_succ]
      refine wpAnyT_take (i := 2) (v := ?_) rfl (by kernel_rfl) (fun _ _ _ h => h) (Or.inl ⟨by rfl, ?_⟩) (by assumption) ?_; rotate_left 1
      · intro wS hSw; (try dsimp only at hSw); obtain ⟨q', d', hS'⟩ := hSw; have z1 := bxp_far (by omega) (by omega) f3 hS'; have z2 := bxp_cell hXB x2 hS'; have z3 := bxp_far hp1 (by omega) fx hS'; have z4 := bxp_far (by omega) (by omega) f33 hS'; have z5 := bxp_far hp2 (by omega) fy hS'; go_simp <;> with_reducible rfl
      try simp only [Act.put, List.setIfInBounds_toArray, List.set_cons_zero, List.set_cons_succ]
      refine wpAnyT_take (i := 3) (v := ?_) rfl (by kernel_rfl) (fun _ _ _ h => h) (Or.inl ⟨by rfl, ?_⟩) (by assumption) ?_; rotate_left 1
      · intro wS hSw; (try dsimp only at hSw); obtain ⟨q', d', hS'⟩ := hSw; have z1 := bxp_far (by omega) (by omega) f3 hS'; have z2 := bxp_cell hXB x2 hS'; have z3 := bxp_far hp1 (by omega) fx hS'; have z4 := bxp_far (by omega) (by omega) f33 hS'; have z5 := bxp_far hp2 (by omega) fy hS'; go_simp <;> with_reducible rfl
      try simp only [Act.put, List.setIfInBounds_toArray, List.set_cons_zero, List.set_cons_succ]
      refine wpAnyT_take (i := 4) (v := ?_) rfl (by kernel_rfl) (fun _ _ _ h => h) (Or.inl ⟨by rfl, ?_⟩) (by assumption) ?_; rotate_left 1
      · intro wS hSw; (try dsimp only at hSw); obtain ⟨q', d', hS'⟩ := hSw; have z1 := bxp_far (by omega) (by omega) f3 hS'; have z2 := bxp_cell hXB x2 hS'; have z3 := bxp_far hp1 (by omega) fx hS'; have z4 := bxp_far (by omega) (by omega) f33 hS'; have z5 := bxp_far hp2 (by omega) fy hS'; go_simp <;> with_reducible rfl
      try simp only [Act.put, List.setIfInBounds_toArray, List.set_cons_zero, List.set_cons_succ]
      refine wpAnyT_take (i := 5) (v := ?_) rfl (by kernel_rfl) (fun _ _ _ h => h) (Or.inl ⟨by rfl, ?_⟩) (by assumption) ?_; rotate_left 1
      · intro wS hSw; (try dsimp only at hSw); obtain ⟨q', d', hS'⟩ := hSw; have z1 := bxp_far (by omega) (by omega) f3 hS'; have z2 := bxp_cell hXB x2 hS'; have z3 := bxp_far hp1 (by omega) fx hS'; have z4 := bxp_far (by omega) (by omega) f33 hS'; have z5 := bxp_far hp2 (by omega) fy hS'; go_simp <;> with_reducible rfl
      try simp only [Act.put, List.setIfInBounds_toArray, List.set_cons_zero, List.set_cons_succ]
      refine wpAnyT_take (i := 6) (v := ?_) rfl (by kernel_rfl) (fun _ _ _ h => h) (Or.inl ⟨by rfl, ?_⟩) (by assumption) ?_; rotate_left 1
      · intro wS hSw; (try dsimp only at hSw); obtain ⟨q', d', hS'⟩ := hSw; have z1 := bxp_far (by omega) (by omega) f3 hS'; have z2 := bxp_cell hXB x2 hS'; have z3 := bxp_far hp1 (by omega) fx hS'; have z4 := bxp_far (by omega) (by omega) f33 hS'; have z5 := bxp_far hp2 (by omega) fy hS'; go_simp <;> with_reducible rfl
      try simp only [Act.put, List.setIfInBounds_toArray, List.set_cons_zero, List.set_cons_succ]
      refine wpAnyT_take (i := 7) (v := ?_) rfl (by kernel_rfl) (fun _ _ _ h => h) (Or.inl ⟨by rfl, ?_⟩) (by assumption) ?_; rotate_left 1
      · intro wS hSw; (try dsimp only at hSw); obtain ⟨q', d', hS'⟩ := hSw; have z1 := bxp_far (by omega) (by omega) f3 hS'; have z2 := bxp_cell hXB x2 hS'; have z3 := bxp_far hp1 (by omega) fx hS'; have z4 := bxp_far (by omega) (by omega) f33 hS'; have z5 := bxp_far hp2 (by omega) fy hS'; go_simp <;> with_reducible rfl
      try simp only [Act.put, List.setIfInBounds_toArray, List.set_cons_zero, List.set_cons_succ]
      refine wpAnyT_take (i := 8) (v := ?_) rfl (by kernel_rfl) (fun _ _ _ h => h) (Or.inl ⟨by rfl, ?_⟩) (by assumption) ?_; rotate_left 1
      · intro wS hSw; (try dsimp only at hSw); obtain ⟨q', d', hS'⟩ := hSw; have z1 := bxp_far (by omega) (by omega) f3 hS'; have z2 := bxp_cell hXB x2 hS'; have z3 := bxp_far hp1 (by omega) fx hS'; have z4 := bxp_far (by omega) (by omega) f33 hS'; have z5 := bxp_far hp2 (by omega) fy hS'; go_simp <;> with_reducible rfl
      try simp only [Act.put, List.setIfInBounds_toArray, List.set_cons_zero, List.set_cons_succ]
      refine wpAnyT_take (i := 9) (v := ?_) rfl (by kernel_rfl) (fun _ _ _ h => h) (Or.inl ⟨by rfl, ?_⟩) (by assumption) ?_; rotate_left 1
      · intro wS hSw; (try dsimp only at hSw); obtain ⟨q', d', hS'⟩ := hSw; have z1 := bxp_far (by omega) (by omega) f3 hS'; have z2 := bxp_cell hXB x2 hS'; have z3 := bxp_far hp1 (by omega) fx hS'; have z4 := bxp_far (by omega) (by omega) f33 hS'; have z5 := bxp_far hp2 (by omega) fy hS'; go_simp <;> with_reducible rfl
      try simp only [Act.put, List.setIfInBounds_toArray, List.set_cons_zero, List.set_cons_succ]
      refine wpAnyT_take (i := 10) (v := ?_) rfl (by kernel_rfl) (fun _ _ _ h => h) (Or.inl ⟨by rfl, ?_⟩) (by assumption) ?_; rotate_left 1
      · intro wS hSw; (try dsimp only at hSw); obtain ⟨q', d', hS'⟩ := hSw; have z1 := bxp_far (by omega) (by omega) f3 hS'; have z2 := bxp_cell hXB x2 hS'; have z3 := bxp_far hp1 (by omega) fx hS'; have z4 := bxp_far (by omega) (by omega) f33 hS'; have z5 := bxp_far hp2 (by omega) fy hS'; go_simp <;> with_reducible rfl
      try simp only [Act.put, List.setIfInBounds_toArray, List.set_cons_zero, List.set_cons_succ]
      refine wpAnyT_take (i := 11) (v := ?_) rfl (by kernel_rfl) (fun _ _ _ h => h) (Or.inl ⟨by rfl, ?_⟩) (by assumption) ?_; rotate_left 1
      · intro wS hSw; (try dsimp only at hSw); obtain ⟨q', d', hS'⟩ := hSw; have z1 := bxp_far (by omega) (by omega) f3 hS'; have z2 := bxp_cell hXB x2 hS'; have z3 := bxp_far hp1 (by omega) fx hS'; have z4 := bxp_far (by omega) (by omega) f33 hS'; have z5 := bxp_far hp2 (by omega) fy hS'; go_simp <;> with_reducible rfl
      try simp only [Act.put, List.setIfInBounds_toArray, List.set_cons_zero, List.set_cons_succ]
      refine wpAnyT_take (i := 12) (v := ?_) rfl (by kernel_rfl) (fun _ _ _ h => h) (Or.inl ⟨by rfl, ?_⟩) (by assumption) ?_; rotate_left 1
      · intro wS hSw; (try dsimp only at hSw); obtain ⟨q', d', hS'⟩ := hSw; have z1 := bxp_far (by omega) (by omega) f3 hS'; have z2 := bxp_cell hXB x2 hS'; have z3 := bxp_far hp1 (by omega) fx hS'; have z4 := bxp_far (by omega) (by omega) f33 hS'; have z5 := bxp_far hp2 (by omega) fy hS'; go_simp <;> with_reducible rfl
      try simp only [Act.put, List.setIfInBounds_toArray, List.set_cons_zero, List.set_cons_succ]
      clear hHeld
      refine wpAnyT_ready (rs := [13]) (by kernel_rfl) (by simp) ?_
      refine AllReadyT.cons rfl (fun K hK => ?_) AllReadyT.nil
      go_simp
      refine hK.out _ _ (fun hne => ?_) (fun _ => ?_); clear hK K
      · (try dsimp only); exact ⟨_, _, by (repeat (first | assumption | exact Below.refl _ _ | with_reducible refine past_t _ ?_ | with_reducible refine below_a _ ?_ | with_reducible refine Below.drew ?_ | with_reducible refine below_d _ ?_ | (with_reducible refine Below.setCell ?_ (by (show _ ≤ _; repeat (first | exact Nat.le_refl _ | assumption | (omega; done) | with_reducible exact le_past (Nat.le_refl _) | with_reducible refine le_past ?_ | with_reducible refine le_al ?_ | with_reducible refine le_set ?_ | with_reducible refine le_p1 ?_))) _)))⟩
      refine wpAnyT_ready (rs := [14]) (by kernel_rfl) (by simp) ?_
      refine AllReadyT.cons rfl (fun K hK => ?_) AllReadyT.nil
      go_simp
      go_wp2_with (go_at_call 57; with_reducible refine Calls.mono (HST.out _ ?_ _ (SL2 ?_ ?_ ?_)) ?_; (focus ((first | ((repeat (first | assumption | exact Below.refl _ _ | with_reducible refine past_t _ ?_ | with_reducible refine below_a _ ?_ | with_reducible refine Below.drew ?_ | with_reducible refine below_d _ ?_ | (with_reducible refine Below.setCell ?_ (by (show _ ≤ _; repeat (first | exact Nat.le_refl _ | assumption | (omega; done) | with_reducible exact le_past (Nat.le_refl _) | with_reducible refine le_past ?_ | with_reducible refine le_al ?_ | with_reducible refine le_set ?_ | with_reducible refine le_p1 ?_))) _))); done) | assumption | omega | (simp; done) | (simp [go_sem]; done) | (simp; omega) | (simp [go_sem, *]; done)); done)); (focus ((first | ((repeat (first | assumption | exact Below.refl _ _ | with_reducible refine past_t _ ?_ | with_reducible refine below_a _ ?_ | with_reducible refine Below.drew ?_ | with_reducible refine below_d _ ?_ | (with_reducible refine Below.setCell ?_ (by (show _ ≤ _; repeat (first | exact Nat.le_refl _ | assumption | (omega; done) | with_reducible exact le_past (Nat.le_refl _) | with_reducible refine le_past ?_ | with_reducible refine le_al ?_ | with_reducible refine le_set ?_ | with_reducible refine le_p1 ?_))) _))); done) | assumption | omega | (simp; done) | (simp [go_sem]; done) | (simp; omega) | (simp [go_sem, *]; done)); done)); (focus ((first | ((repeat (first | assumption | exact Below.refl _ _ | with_reducible refine past_t _ ?_ | with_reducible refine below_a _ ?_ | with_reducible refine Below.drew ?_ | with_reducible refine below_d _ ?_ | (with_reducible refine Below.setCell ?_ (by (show _ ≤ _; repeat (first | exact Nat.le_refl _ | assumption | (omega; done) | with_reducible exact le_past (Nat.le_refl _) | with_reducible refine le_past ?_ | with_reducible refine le_al ?_ | with_reducible refine le_set ?_ | with_reducible refine le_p1 ?_))) _))); done) | assumption | omega | (simp; done) | (simp [go_sem]; done) | (simp; omega) | (simp [go_sem, *]; done)); done)); (focus ((first | ((repeat (first | assumption | exact Below.refl _ _ | with_reducible refine past_t _ ?_ | with_reducible refine below_a _ ?_ | with_reducible refine Below.drew ?_ | with_reducible refine below_d _ ?_ | (with_reducible refine Below.setCell ?_ (by (show _ ≤ _; repeat (first | exact Nat.le_refl _ | assumption | (omega; done) | with_reducible exact le_past (Nat.le_refl _) | with_reducible refine le_past ?_ | with_reducible refine le_al ?_ | with_reducible refine le_set ?_ | with_reducible refine le_p1 ?_))) _))); done) | assumption | omega | (simp; done) | (simp [go_sem]; done) | (simp; omega) | (simp [go_sem, *]; done)); done)); rintro _ w2 ⟨rfl, ho2, hb2⟩)
      refine hK.out _ _ (fun hne => ?_) (fun _ => ?_); clear hK K
      · (try dsimp only); exact ⟨_, _, hb2⟩
      refine wpAnyT_ready (rs := [15]) (by kernel_rfl) (by simp) ?_
      refine AllReadyT.cons rfl (fun K hK => ?_) AllReadyT.nil
      go_simp
      refine hK.out _ _ (fun hne => ?_) (fun _ => ?_); clear hK K
      · (try dsimp only); exact ⟨_, _, by (repeat (first | assumption | exact Below.refl _ _ | with_reducible refine past_t _ ?_ | with_reducible refine below_a _ ?_ | with_reducible refine Below.drew ?_ | with_reducible refine below_d _ ?_ | (with_reducible refine Below.setCell ?_ (by (show _ ≤ _; repeat (first | exact Nat.le_refl _ | assumption | (omega; done) | with_reducible exact le_past (Nat.le_refl _) | with_reducible refine le_past ?_ | with_reducible refine le_al ?_ | with_reducible refine le_set ?_ | with_reducible refine le_p1 ?_))) _)))⟩
      refine wpAnyT_ready (rs := [16]) (by kernel_rfl) (by simp) ?_
      refine AllReadyT.cons rfl (fun K hK => ?_) AllReadyT.nil
      refine step_append_w (by rfl) _ _ (by rfl) (put B q2 (cc + 2) (bx X (.slice A' k cp) W)) (by rfl) (by rfl) ?_ ((ho2.base (by rw [put_size, bx_size]; exact Nat.le_refl _)).keep ?_) (RS.lit .i64 _ [q1] _ _ ?_ 1 ?_ ?_ 1 ?_ _ ?_) ?_ ?_; (focus ((first | ((repeat (first | assumption | exact Below.refl _ _ | with_reducible refine past_t _ ?_ | with_reducible refine below_a _ ?_ | with_reducible refine Below.drew ?_ | with_reducible refine below_d _ ?_ | (with_reducible refine Below.setCell ?_ (by (show _ ≤ _; repeat (first | exact Nat.le_refl _ | assumption | (omega; done) | with_reducible exact le_past (Nat.le_refl _) | with_reducible refine le_past ?_ | with_reducible refine le_al ?_ | with_reducible refine le_set ?_ | with_reducible refine le_p1 ?_))) _))); done) | assumption | omega | (simp; done) | (simp [go_sem]; done) | (simp; omega) | (simp [go_sem, *]; done)); done)); (focus ((first | ((repeat (first | assumption | exact Below.refl _ _ | with_reducible refine past_t _ ?_ | with_reducible refine below_a _ ?_ | with_reducible refine Below.drew ?_ | with_reducible refine below_d _ ?_ | (with_reducible refine Below.setCell ?_ (by (show _ ≤ _; repeat (first | exact Nat.le_refl _ | assumption | (omega; done) | with_reducible exact le_past (Nat.le_refl _) | with_reducible refine le_past ?_ | with_reducible refine le_al ?_ | with_reducible refine le_set ?_ | with_reducible refine le_p1 ?_))) _))); done) | assumption | omega | (simp; done) | (simp [go_sem]; done) | (simp; omega) | (simp [go_sem, *]; done)); done)); (focus ((first | ((repeat (first | assumption | exact Below.refl _ _ | with_reducible refine past_t _ ?_ | with_reducible refine below_a _ ?_ | with_reducible refine Below.drew ?_ | with_reducible refine below_d _ ?_ | (with_reducible refine Below.setCell ?_ (by (show _ ≤ _; repeat (first | exact Nat.le_refl _ | assumption | (omega; done) | with_reducible exact le_past (Nat.le_refl _) | with_reducible refine le_past ?_ | with_reducible refine le_al ?_ | with_reducible refine le_set ?_ | with_reducible refine le_p1 ?_))) _))); done) | assumption | omega | (simp; done) | (simp [go_sem]; done) | (simp; omega) | (simp [go_sem, *]; done)); done)); (focus ((first | ((repeat (first | assumption | exact Below.refl _ _ | with_reducible refine past_t _ ?_ | with_reducible refine below_a _ ?_ | with_reducible refine Below.drew ?_ | with_reducible refine below_d _ ?_ | (with_reducible refine Below.setCell ?_ (by (show _ ≤ _; repeat (first | exact Nat.le_refl _ | assumption | (omega; done) | with_reducible exact le_past (Nat.le_refl _) | with_reducible refine le_past ?_ | with_reducible refine le_al ?_ | with_reducible refine le_set ?_ | with_reducible refine le_p1 ?_))) _))); done) | assumption | omega | (simp; done) | (simp [go_sem]; done) | (simp; omega) | (simp [go_sem, *]; done)); done)); (focus ((first | ((repeat (first | assumption | exact Below.refl _ _ | with_reducible refine past_t _ ?_ | with_reducible refine below_a _ ?_ | with_reducible refine Below.drew ?_ | with_reducible refine below_d _ ?_ | (with_reducible refine Below.setCell ?_ (by (show _ ≤ _; repeat (first | exact Nat.le_refl _ | assumption | (omega; done) | with_reducible exact le_past (Nat.le_refl _) | with_reducible refine le_past ?_ | with_reducible refine le_al ?_ | with_reducible refine le_set ?_ | with_reducible refine le_p1 ?_))) _))); done) | assumption | omega | (simp; done) | (simp [go_sem]; done) | (simp; omega) | (simp [go_sem, *]; done)); done)); (focus ((first | ((repeat (first | assumption | exact Below.refl _ _ | with_reducible refine past_t _ ?_ | with_reducible refine below_a _ ?_ | with_reducible refine Below.drew ?_ | with_reducible refine below_d _ ?_ | (with_reducible refine Below.setCell ?_ (by (show _ ≤ _; repeat (first | exact Nat.le_refl _ | assumption | (omega; done) | with_reducible exact le_past (Nat.le_refl _) | with_reducible refine le_past ?_ | with_reducible refine le_al ?_ | with_reducible refine le_set ?_ | with_reducible refine le_p1 ?_))) _))); done) | assumption | omega | (simp; done) | (simp [go_sem]; done) | (simp; omega) | (simp [go_sem, *]; done)); done)); (focus ((first | ((repeat (first | assumption | exact Below.refl _ _ | with_reducible refine past_t _ ?_ | with_reducible refine below_a _ ?_ | with_reducible refine Below.drew ?_ | with_reducible refine below_d _ ?_ | (with_reducible refine Below.setCell ?_ (by (show _ ≤ _; repeat (first | exact Nat.le_refl _ | assumption | (omega; done) | with_reducible exact le_past (Nat.le_refl _) | with_reducible refine le_past ?_ | with_reducible refine le_al ?_ | with_reducible refine le_set ?_ | with_reducible refine le_p1 ?_))) _))); done) | assumption | omega | (simp; done) | (simp [go_sem]; done) | (simp; omega) | (simp [go_sem, *]; done)); done)); (focus ((first | ((repeat (first | assumption | exact Below.refl _ _ | with_reducible refine past_t _ ?_ | with_reducible refine below_a _ ?_ | with_reducible refine Below.drew ?_ | with_reducible refine below_d _ ?_ | (with_reducible refine Below.setCell ?_ (by (show _ ≤ _; repeat (first | exact Nat.le_refl _ | assumption | (omega; done) | with_reducible exact le_past (Nat.le_refl _) | with_reducible refine le_past ?_ | with_reducible refine le_al ?_ | with_reducible refine le_set ?_ | with_reducible refine le_p1 ?_))) _))); done) | assumption | omega | (simp; done) | (simp [go_sem]; done) | (simp; omega) | (simp [go_sem, *]; done)); done))
      intro A3 c3 w4 ho4 hb4
      have j3 := bxp_cell hXB x2 hb4
      have j4 := bxp_mark x2 xf hb4
      refine hK.out _ _ (fun hne => ?_) (fun _ => ?_); clear hK K
      · (try dsimp only); exact ⟨_, _, hb4⟩
      refine wpAnyT_ready (rs := [17]) (by kernel_rfl) (by simp) ?_
      refine AllReadyT.cons rfl (fun K hK => ?_) AllReadyT.nil
      go_simp
      refine hK.out _ _ (fun hne => ?_) (fun _ => ?_); clear hK K
      · (try dsimp only); exact ⟨_, _, hb4⟩
      refine wpAnyT_ready (rs := [18]) (by kernel_rfl) (by simp) ?_
      refine AllReadyT.cons rfl (fun K hK => ?_) AllReadyT.nil
      go_simp
      refine hK.out _ _ (fun hne => ?_) (fun _ => ?_); clear hK K
      · exact absurd rfl hne
      refine wpAnyT_done (by kernel_rfl) ?_ _
      try simp only [Act.put, List.setIfInBounds_toArray, List.set_cons_zero, List.set_cons_succ]
      go_wp2_with fail
      go_roundg (a.length - (k + 1))
      case measure => omega
      case rel =>
        have hml := HML.out
        have hc2 : c + 2 * ((k + 1 : Nat) : Int) = cc + 2 := by have := HCC.out; omega
        refine ⟨k + 1, A3, c3, by omega, by omega, by go_num, ?_, ?_⟩
        · rw [HX.out, ← hml]
          exact own_set (ho4.base (U := W) (by rw [put_size, bx_size]; exact Nat.le_refl _)) hXW _
        · rw [HX.out, hc2, ← hml]
          rw [← hml] at hb4
          exact bxp_next hXB hb4
    · obtain rfl : k = a.length := by omega
      have hq := ((f4.out.far (b := X) (by omega) (.slice A' a.length cp)).put (B := B) (by omega) f cc).keep hbel
      have hT : Below w.heap.size (put B f cc w) wr := by
        have e1 : Below w.heap.size w (bx X (.slice A' a.length cp) W) := f0.setCell (by show w.heap.size ≤ X; omega) _
        exact (below_put e1 B f cc).trans (hbel.mono (by rw [put_size, bx_size]; exact hws))
      have q0 := hq.cell 0
      have q1 := hq.cell 1
      have q2 := hq.cell 2
      have q3 := hq.mark 0
      have q4 := hq.mark 1
      have q5 := hq.mark 2
      have q6 := hq.lt
      simp at q0 q1 q2
      have HO := Lib.hid hown
      have HP := Lib.hid hP
      have HCC := Lib.hid hcc
      clear hown hbel hP hcc hnx
      go_wp2_with fail
      refine bodyPost_ret (results_bm rfl rfl hq) rfl ?_
      rw [HP.out, HCC.out]
      exact ⟨_, _, rfl, (own_box HO.out (by omega) _ _ _).base (U := w) hws, below_box hT (by omega) _ _ _⟩
end Go.Proofs.Ytlhadociaekkhaa
/- The document's Less (printed by mk_matr6.py). -/
namespace Go.Proofs.Ytlhadociaekkhaa
set_option linter.unusedVariables false
set_option maxRecDepth 100000
open Go.RowKit Go.Shelf
set_option maxHeartbeats 4000000 in
theorem r7Less {B R C : Nat} {i : Bool} {c : Int} {v1 v2 : Value} {a b : List Int} {w : World} (h : RA B i c w) (hc : 0 ≤ c ∧ c ≤ 4611686018427380000) (h1 : MS w B v1 a) (h2 : MS w B v2 b) (hR : 1 ≤ R ∧ R ≤ 12) (hC : 1 ≤ C ∧ C ≤ 12) (hza : a.length = R * C) (hzb : b.length = R * C) (hia : AllI a) (hib : AllI b) :
    Calls Try.prog 38 #[UP B, .agg #[.int .i64 R, .int .i64 C, v1], .agg #[.int .i64 R, .int .i64 C, v2]] w fun e w' =>
      ∃ A cap, e = .returned (.tuple #[.agg #[.int .i64 R, .int .i64 C, .slice A (R * C) cap], .int .i64 0]) ∧ OwnI w w' (.slice A (R * C) cap) (mapG gLess i a b (R * C)).1 ∧ Below w.heap.size (put B (mapG gLess i a b (R * C)).2 (c + 1 * (R * C : Nat)) w) w' := by
  have hN : R * C ≤ 144 := Nat.mul_le_mul hR.2 hC.2
  have hN1 : 1 ≤ R * C := Nat.mul_le_mul hR.1 hC.1
  have hck1 : chk R C a.length = 0 := by unfold chk; rw [if_pos ⟨by omega, by omega, by rw [hza]; simp⟩]
  have hck2 : chk R C b.length = 0 := by unfold chk; rw [if_pos ⟨by omega, by omega, by rw [hzb]; simp⟩]
  rw [← hza] at hzb
  have HZB := Lib.hid hzb
  rw [← hza] at hN hN1 ⊢
  have hBl := h.lt
  have H := Lib.hid h
  obtain ⟨A1, c1, rfl, hr1, hn1⟩ := h1
  obtain ⟨p1, o1, rfl, hw1, hrow1⟩ := hr1.at_ (by omega)
  have hp1 := hn1 p1 o1 rfl
  have HR1 := Lib.hid hrow1
  have hcap1 := hr1.cap
  obtain ⟨A2, c2, rfl, hr2, hn2⟩ := h2
  obtain ⟨p2, o2, rfl, hw2, hrow2⟩ := hr2.at_ (by omega)
  have hp2 := hn2 p2 o2 rfl
  have HR2 := Lib.hid hrow2
  have hcap2 := hr2.cap
  have hak := fun W => r7alikeY (A1 := some ⟨p1, o1, none⟩) (A2 := some ⟨p2, o2, none⟩) (c1 := c1) (c2 := c2) (w := W) hck1 hck2
  clear hr2 hn2 hrow2 hck2 hzb
  have HZA := Lib.hid hza
  clear h hr1 hn1 hrow1 hck1 hza
  go_enter Try.func38, Try.ntmps38
  go_upto_region 3 with ((go_at_call 56; first | (with_reducible refine Calls_past2 (hak _) (fun z => ?_)) | (with_reducible refine Calls_past (hak _) (fun z => ?_))))
  refine wp_gen (fun W0 hW0 => ?_)
  have g0 : Below w.heap.size w W0 := by rw [hW0]; (repeat (first | assumption | exact Below.refl _ _ | with_reducible refine past_t _ ?_ | with_reducible refine below_a _ ?_ | with_reducible refine Below.drew ?_ | with_reducible refine below_d _ ?_ | (with_reducible refine Below.setCell ?_ (by (show _ ≤ _; repeat (first | exact Nat.le_refl _ | assumption | (omega; done) | with_reducible exact le_past (Nat.le_refl _) | with_reducible refine le_past ?_ | with_reducible refine le_al ?_ | with_reducible refine le_set ?_ | with_reducible refine le_p1 ?_))) _)))
  have g1 : W0.cell? ⟨w.heap.size, 0, none⟩ = some (.int .i64 R) := by rw [hW0]; (first | (simp [go_sem]; done) | (simp [go_sem, ↓IntWalk.iteOmega]; done))
  have g2 : W0.cell? ⟨w.heap.size, 1, none⟩ = some (.int .i64 C) := by rw [hW0]; (first | (simp [go_sem]; done) | (simp [go_sem, ↓IntWalk.iteOmega]; done))
  have g3 : W0.cell? ⟨w.heap.size, 2, none⟩ = some (.slice (some ⟨p1, o1, none⟩) a.length c1) := by rw [hW0]; (first | (simp [go_sem]; done) | (simp [go_sem, ↓IntWalk.iteOmega]; done))
  have g33 : W0.cell? ⟨w.heap.size + 1, 2, none⟩ = some (.slice (some ⟨p2, o2, none⟩) b.length c2) := by rw [hW0]; (first | (simp [go_sem]; done) | (simp [go_sem, ↓IntWalk.iteOmega]; done))
  have g4 : Blk W0 (w.heap.size + 1 + 1) 24 #[.int .i64 0, .int .i64 0, .slice none 0 0] := by
    have := Blk.new ((w.alloc (.cells #[.int .i64 R, .int .i64 C, .slice (some ⟨p1, o1, none⟩) a.length c1] 24)).alloc (.cells #[.int .i64 R, .int .i64 C, .slice (some ⟨p2, o2, none⟩) b.length c2] 24)) 24 #[.int .i64 0, .int .i64 0, .slice none 0 0]
    rw [hW0]
    simp only [World.size_alloc] at this
    exact this.keep (by (repeat (first | assumption | exact Below.refl _ _ | with_reducible refine past_t _ ?_ | with_reducible refine below_a _ ?_ | with_reducible refine Below.drew ?_ | with_reducible refine below_d _ ?_ | (with_reducible refine Below.setCell ?_ (by (show _ ≤ _; repeat (first | exact Nat.le_refl _ | assumption | (omega; done) | with_reducible exact le_past (Nat.le_refl _) | with_reducible refine le_past ?_ | with_reducible refine le_al ?_ | with_reducible refine le_set ?_ | with_reducible refine le_p1 ?_))) _))))
  have g5 := g4.lt
  have G4 := Lib.hid g4
  clear hW0 hak g4
  go_upto_region 4 with fail
  obtain ⟨X, hX⟩ : ∃ X, W0.heap.size = X := ⟨_, rfl⟩
  rw [hX] at g5 ⊢
  refine wp_gen (fun W hW => ?_)
  have hb0 : Below W0.heap.size W0 W := by rw [hW]; exact (Below.refl _ _).alloc (Nat.le_refl _) _
  have hBX : Blk W X 24 #[.int .i64 R, .int .i64 C, .slice none 0 0] := by rw [hW, ← hX]; exact Blk.new _ _ _
  clear hW
  have f0 := g0.trans (hb0.mono g0.size)
  have f3 := cell_keep g3 hb0
  have f33 := cell_keep g33 hb0
  have f4 := Lib.hid (G4.out.keep hb0)
  have x0 : W.cell? ⟨X, 0, none⟩ = some (.int .i64 R) := hBX.cell 0
  have x1 : W.cell? ⟨X, 1, none⟩ = some (.int .i64 C) := hBX.cell 1
  have x2 : W.cell? ⟨X, 2, none⟩ = some (.slice none 0 0) := hBX.cell 2
  have xf : W.frozen? ⟨X, 2, none⟩ = false := hBX.mark 2
  have hXW := hBX.lt
  have hws := f0.size
  have hXB : X ≠ B := by omega
  have RU := Lib.hid (H.out.keep f0)
  have hBW : B < W.heap.size := by omega
  clear g0 g1 g2 g3 G4 hb0 hX
  go_wp2_with fail
  go_loopg [9] a.length (fun g s9 wr => ∃ (k : Nat) (A' : Option Addr) (cp : Nat), k ≤ a.length ∧ a.length ≤ g + k ∧ s9 = .int .i64 k ∧ OwnI W wr (.slice A' k cp) (mapG gLess i a b k).1 ∧ Below (put B (mapG gLess i a b k).2 (c + 1 * (k : Nat)) (bx X (.slice A' k cp) W)).heap.size (put B (mapG gLess i a b k).2 (c + 1 * (k : Nat)) (bx X (.slice A' k cp) W)) wr)
  case atStart =>
    refine ⟨0, none, 0, by omega, by omega, rfl, OwnK.nil _ _ _ _, ?_⟩
    have e0 : (mapG gLess i a b 0) = ([], i) := rfl
    rw [e0, bx_self x2]
    simp only [Int.natCast_zero, Int.mul_zero, Int.add_zero]
    rw [rput_self RU.out]
    exact Below.refl _ _
  case round =>
    obtain ⟨k, A', cp, hk, hg, rfl, hown, hbel⟩ := hrel
    have hml := mapG_len gLess i a b k
    obtain ⟨P, hP⟩ : ∃ P, (mapG gLess i a b k) = P := ⟨_, rfl⟩
    have hnx : (mapG gLess i a b (k + 1)) = ((mapG gLess i a b k).1 ++ [(gLess (mapG gLess i a b k).2 (a.getD k 0) (b.getD k 0)).1], (gLess (mapG gLess i a b k).2 (a.getD k 0) (b.getD k 0)).2) := rfl
    rw [hP] at hown hbel hnx hml
    obtain ⟨L, f⟩ := P
    simp only at hown hbel hnx hml
    obtain ⟨cc, hcc⟩ : ∃ cc : Int, c + 1 * (k : Int) = cc := ⟨_, rfl⟩
    rw [hcc] at hbel
    have c2' := bxp_far (by omega) (by omega) f3 hbel
    have d0 : wr.cell? ⟨X, 0, none⟩ = some (.int .i64 R) := (hbel.cell (p := ⟨X, 0, none⟩) (by rw [put_size, bx_size]; exact hXW)).trans ((put_cell _ _ _ _ _ hXB).trans ((World.cell?_setCell_other _ _ _ _ (by simp)).trans x0))
    have d1 : wr.cell? ⟨X, 1, none⟩ = some (.int .i64 C) := (hbel.cell (p := ⟨X, 1, none⟩) (by rw [put_size, bx_size]; exact hXW)).trans ((put_cell _ _ _ _ _ hXB).trans ((World.cell?_setCell_other _ _ _ _ (by simp)).trans x1))
    have d2 := bxp_cell hXB x2 hbel
    by_cases hlt : k < a.length
    · have hx := hia.get hlt
      have fx := (f0.cell (p := ⟨p1, o1 + k, none⟩) hw1).trans (HR1.out k hlt)
      have hltb : k < b.length := by have := HZB.out; omega
      have hy := hib.get hltb
      have fy := (f0.cell (p := ⟨p2, o2 + k, none⟩) hw2).trans (HR2.out k hltb)
      generalize b.getD k 0 = y at *
      generalize a.getD k 0 = x at *
      have hua := ((RU.out.bx hXB (.slice A' k cp)).put f cc).keep hbel
      have hBr : B < wr.heap.size := hua.lt
      have hcb : 0 ≤ cc ∧ cc + 2 ≤ 4611686018427387904 := by omega
      have hst0 := fun (W' : World) (kp : Below wr.heap.size wr W')  => r4Less2 (hua.keep kp) hx hy (by omega)
      skip
      generalize gLess f x y = q at *
      obtain ⟨q1, q2⟩ := q
      simp only at hnx hst0
      have hst : ∀ W', Below wr.heap.size wr W' → Calls Try.prog 59 #[UP B, .int .i64 x, .int .i64 y] W' fun e w' => e = .returned (.int .i64 q1) ∧ OwnI W w' (.slice A' k cp) L ∧ Below (put B q2 (cc + 1) (bx X (.slice A' k cp) W)).heap.size (put B q2 (cc + 1) (bx X (.slice A' k cp) W)) w' :=
        fun W' kp  => (hst0 W' kp ).mono fun e w' h => ⟨h.1, (ownK_put (hown.keep kp) hBW _ _).keep h.2, next_put hbel kp h.2⟩
      have HST := Lib.hid hst
      have HX := Lib.hid hnx
      have HCC := Lib.hid hcc
      have HML := Lib.hid hml
      have hRl : L.length ≤ 1000000 := by omega
      clear hst hst0 hown hnx hP hua hcc hml
      go_wp2_with fail
      refine region_heldT (S := fun w' => ∃ q d, Below (put B q d (bx X (.slice A' k cp) W)).heap.size (put B q d (bx X (.slice A' k cp) W)) w') 17 (by kernel_rfl) ?_ (fun hHeld => ?_)
      · (try dsimp only); exact ⟨_, _, by (repeat (first | assumption | exact Below.refl _ _ | with_reducible refine past_t _ ?_ | with_reducible refine below_a _ ?_ | with_reducible refine Below.drew ?_ | with_reducible refine below_d _ ?_ | (with_reducible refine Below.setCell ?_ (by (show _ ≤ _; repeat (first | exact Nat.le_refl _ | assumption | (omega; done) | with_reducible exact le_past (Nat.le_refl _) | with_reducible refine le_past ?_ | with_reducible refine le_al ?_ | with_reducible refine le_set ?_ | with_reducible refine le_p1 ?_))) _)))⟩
      refine wpAnyT_take (i := 0) (v := ?_) rfl (by kernel_rfl) (fun _ _ _ h => h) (Or.inl ⟨by rfl, ?_⟩) (by assumption) ?_; rotate_left 1
      · intro wS hSw; (try dsimp only at hSw); obtain ⟨q', d', hS'⟩ := hSw; have z1 := bxp_far (by omega) (by omega) f3 hS'; have z2 := bxp_cell hXB x2 hS'; have z3 := bxp_far hp1 (by omega) fx hS'; have z4 := bxp_far (by omega) (by omega) f33 hS'; have z5 := bxp_far hp2 (by omega) fy hS'; go_simp <;> with_reducible rfl
      try simp only [Act.put, List.setIfInBounds_toArray, List.set_cons_zero, List.set_cons_succ]
      refine wpAnyT_take (i := 1) (v := ?_) rfl (by kernel_rfl) (fun _ _ _ h => h) (Or.inl ⟨by rfl, ?_⟩) (by assumption) ?_; rotate_left 1
      · intro wS hSw; (try dsimp only at hSw); obtain ⟨q', d', hS'⟩ := hSw; have z1 := bxp_far (by omega) (by omega) f3 hS'; have z2 := bxp_cell hXB x2 hS'; have z3 := bxp_far hp1 (by omega) fx hS'; have z4 := bxp_far (by omega) (by omega) f33 hS'; have z5 := bxp_far hp2 (by omega) fy hS'; go_simp <;> with_reducible rfl
      try simp only [Act.put, List.setIfInBounds_toArray, List.set_cons_zero, List.set_cons_succ]
      refine wpAnyT_take (i := 2) (v := ?_) rfl (by kernel_rfl) (fun _ _ _ h => h) (Or.inl ⟨by rfl, ?_⟩) (by assumption) ?_; rotate_left 1
      · intro wS hSw; (try dsimp only at hSw); obtain ⟨q', d', hS'⟩ := hSw; have z1 := bxp_far (by omega) (by omega) f3 hS'; have z2 := bxp_cell hXB x2 hS'; have z3 := bxp_far hp1 (by omega) fx hS'; have z4 := bxp_far (by omega) (by omega) f33 hS'; have z5 := bxp_far hp2 (by omega) fy hS'; go_simp <;> with_reducible rfl
      try simp only [Act.put, List.setIfInBounds_toArray, List.set_cons_zero, List.set_cons_succ]
      refine wpAnyT_take (i := 3) (v := ?_) rfl (by kernel_rfl) (fun _ _ _ h => h) (Or.inl ⟨by rfl, ?_⟩) (by assumption) ?_; rotate_left 1
      · intro wS hSw; (try dsimp only at hSw); obtain ⟨q', d', hS'⟩ := hSw; have z1 := bxp_far (by omega) (by omega) f3 hS'; have z2 := bxp_cell hXB x2 hS'; have z3 := bxp_far hp1 (by omega) fx hS'; have z4 := bxp_far (by omega) (by omega) f33 hS'; have z5 := bxp_far hp2 (by omega) fy hS'; go_simp <;> with_reducible rfl
      try simp only [Act.put, List.setIfInBounds_toArray, List.set_cons_zero, List.set_cons_succ]
      refine wpAnyT_take (i := 4) (v := ?_) rfl (by kernel_rfl) (fun _ _ _ h => h) (Or.inl ⟨by rfl, ?_⟩) (by assumption) ?_; rotate_left 1
      · intro wS hSw; (try dsimp only at hSw); obtain ⟨q', d', hS'⟩ := hSw; have z1 := bxp_far (by omega) (by omega) f3 hS'; have z2 := bxp_cell hXB x2 hS'; have z3 := bxp_far hp1 (by omega) fx hS'; have z4 := bxp_far (by omega) (by omega) f33 hS'; have z5 := bxp_far hp2 (by omega) fy hS'; go_simp <;> with_reducible rfl
      try simp only [Act.put, List.setIfInBounds_toArray, List.set_cons_zero, List.set_cons_succ]
      refine wpAnyT_take (i := 5) (v := ?_) rfl (by kernel_rfl) (fun _ _ _ h => h) (Or.inl ⟨by rfl, ?_⟩) (by assumption) ?_; rotate_left 1
      · intro wS hSw; (try dsimp only at hSw); obtain ⟨q', d', hS'⟩ := hSw; have z1 := bxp_far (by omega) (by omega) f3 hS'; have z2 := bxp_cell hXB x2 hS'; have z3 := bxp_far hp1 (by omega) fx hS'; have z4 := bxp_far (by omega) (by omega) f33 hS'; have z5 := bxp_far hp2 (by omega) fy hS'; go_simp <;> with_reducible rfl
      try simp only [Act.put, List.setIfInBounds_toArray, List.set_cons_zero, List.set_cons_succ]
      refine wpAnyT_take (i := 6) (v := ?_) rfl (by kernel_rfl) (fun _ _ _ h => h) (Or.inl ⟨by rfl, ?_⟩) (by assumption) ?_; rotate_left 1
      · intro wS hSw; (try dsimp only at hSw); obtain ⟨q', d', hS'⟩ := hSw; have z1 := bxp_far (by omega) (by omega) f3 hS'; have z2 := bxp_cell hXB x2 hS'; have z3 := bxp_far hp1 (by omega) fx hS'; have z4 := bxp_far (by omega) (by omega) f33 hS'; have z5 := bxp_far hp2 (by omega) fy hS'; go_simp <;> with_reducible rfl
      try simp only [Act.put, List.setIfInBounds_toArray, List.set_cons_zero, List.set_cons_succ]
      refine wpAnyT_take (i := 7) (v := ?_) rfl (by kernel_rfl) (fun _ _ _ h => h) (Or.inl ⟨by rfl, ?_⟩) (by assumption) ?_; rotate_left 1
      · intro wS hSw; (try dsimp only at hSw); obtain ⟨q', d', hS'⟩ := hSw; have z1 := bxp_far (by omega) (by omega) f3 hS'; have z2 := bxp_cell hXB x2 hS'; have z3 := bxp_far hp1 (by omega) fx hS'; have z4 := bxp_far (by omega) (by omega) f33 hS'; have z5 := bxp_far hp2 (by omega) fy hS'; go_simp <;> with_reducible rfl
      try simp only [Act.put, List.setIfInBounds_toArray, List.set_cons_zero, List.set_cons_succ]
      refine wpAnyT_take (i := 8) (v := ?_) rfl (by kernel_rfl) (fun _ _ _ h => h) (Or.inl ⟨by rfl, ?_⟩) (by assumption) ?_; rotate_left 1
      · intro wS hSw; (try dsimp only at hSw); obtain ⟨q', d', hS'⟩ := hSw; have z1 := bxp_far (by omega) (by omega) f3 hS'; have z2 := bxp_cell hXB x2 hS'; have z3 := bxp_far hp1 (by omega) fx hS'; have z4 := bxp_far (by omega) (by omega) f33 hS'; have z5 := bxp_far hp2 (by omega) fy hS'; go_simp <;> with_reducible rfl
      try simp only [Act.put, List.setIfInBounds_toArray, List.set_cons_zero, List.set_cons_succ]
      refine wpAnyT_take (i := 9) (v := ?_) rfl (by kernel_rfl) (fun _ _ _ h => h) (Or.inl ⟨by rfl, ?_⟩) (by assumption) ?_; rotate_left 1
      · intro wS hSw; (try dsimp only at hSw); obtain ⟨q', d', hS'⟩ := hSw; have z1 := bxp_far (by omega) (by omega) f3 hS'; have z2 := bxp_cell hXB x2 hS'; have z3 := bxp_far hp1 (by omega) fx hS'; have z4 := bxp_far (by omega) (by omega) f33 hS'; have z5 := bxp_far hp2 (by omega) fy hS'; go_simp <;> with_reducible rfl
      try simp only [Act.put, List.setIfInBounds_toArray, List.set_cons_zero, List.set_cons_succ]
      refine wpAnyT_take (i := 10) (v := ?_) rfl (by kernel_rfl) (fun _ _ _ h => h) (Or.inl ⟨by rfl, ?_⟩) (by assumption) ?_; rotate_left 1
      · intro wS hSw; (try dsimp only at hSw); obtain ⟨q', d', hS'⟩ := hSw; have z1 := bxp_far (by omega) (by omega) f3 hS'; have z2 := bxp_cell hXB x2 hS'; have z3 := bxp_far hp1 (by omega) fx hS'; have z4 := bxp_far (by omega) (by omega) f33 hS'; have z5 := bxp_far hp2 (by omega) fy hS'; go_simp <;> with_reducible rfl
      try simp only [Act.put, List.setIfInBounds_toArray, List.set_cons_zero, List.set_cons_succ]
      refine wpAnyT_take (i := 11) (v := ?_) rfl (by kernel_rfl) (fun _ _ _ h => h) (Or.inl ⟨by rfl, ?_⟩) (by assumption) ?_; rotate_left 1
      · intro wS hSw; (try dsimp only at hSw); obtain ⟨q', d', hS'⟩ := hSw; have z1 := bxp_far (by omega) (by omega) f3 hS'; have z2 := bxp_cell hXB x2 hS'; have z3 := bxp_far hp1 (by omega) fx hS'; have z4 := bxp_far (by omega) (by omega) f33 hS'; have z5 := bxp_far hp2 (by omega) fy hS'; go_simp <;> with_reducible rfl
      try simp only [Act.put, List.setIfInBounds_toArray, List.set_cons_zero, List.set_cons_succ]
      refine wpAnyT_take (i := 12) (v := ?_) rfl (by kernel_rfl) (fun _ _ _ h => h) (Or.inl ⟨by rfl, ?_⟩) (by assumption) ?_; rotate_left 1
      · intro wS hSw; (try dsimp only at hSw); obtain ⟨q', d', hS'⟩ := hSw; have z1 := bxp_far (by omega) (by omega) f3 hS'; have z2 := bxp_cell hXB x2 hS'; have z3 := bxp_far hp1 (by omega) fx hS'; have z4 := bxp_far (by omega) (by omega) f33 hS'; have z5 := bxp_far hp2 (by omega) fy hS'; go_simp <;> with_reducible rfl
      try simp only [Act.put, List.setIfInBounds_toArray, List.set_cons_zero, List.set_cons_succ]
      clear hHeld
      refine wpAnyT_ready (rs := [13]) (by kernel_rfl) (by simp) ?_
      refine AllReadyT.cons rfl (fun K hK => ?_) AllReadyT.nil
      go_simp
      go_wp2_with (go_at_call 59; with_reducible refine Calls.mono (HST.out _ ?_) ?_; (focus ((first | ((repeat (first | assumption | exact Below.refl _ _ | with_reducible refine past_t _ ?_ | with_reducible refine below_a _ ?_ | with_reducible refine Below.drew ?_ | with_reducible refine below_d _ ?_ | (with_reducible refine Below.setCell ?_ (by (show _ ≤ _; repeat (first | exact Nat.le_refl _ | assumption | (omega; done) | with_reducible exact le_past (Nat.le_refl _) | with_reducible refine le_past ?_ | with_reducible refine le_al ?_ | with_reducible refine le_set ?_ | with_reducible refine le_p1 ?_))) _))); done) | assumption | omega | (simp; done) | (simp [go_sem]; done) | (simp; omega) | (simp [go_sem, *]; done)); done)); rintro _ w2 ⟨rfl, ho2, hb2⟩)
      refine hK.out _ _ (fun hne => ?_) (fun _ => ?_); clear hK K
      · (try dsimp only); exact ⟨_, _, hb2⟩
      refine wpAnyT_ready (rs := [14]) (by kernel_rfl) (by simp) ?_
      refine AllReadyT.cons rfl (fun K hK => ?_) AllReadyT.nil
      go_simp
      refine hK.out _ _ (fun hne => ?_) (fun _ => ?_); clear hK K
      · (try dsimp only); exact ⟨_, _, by (repeat (first | assumption | exact Below.refl _ _ | with_reducible refine past_t _ ?_ | with_reducible refine below_a _ ?_ | with_reducible refine Below.drew ?_ | with_reducible refine below_d _ ?_ | (with_reducible refine Below.setCell ?_ (by (show _ ≤ _; repeat (first | exact Nat.le_refl _ | assumption | (omega; done) | with_reducible exact le_past (Nat.le_refl _) | with_reducible refine le_past ?_ | with_reducible refine le_al ?_ | with_reducible refine le_set ?_ | with_reducible refine le_p1 ?_))) _)))⟩
      refine wpAnyT_ready (rs := [15]) (by kernel_rfl) (by simp) ?_
      refine AllReadyT.cons rfl (fun K hK => ?_) AllReadyT.nil
      refine step_append_w (by rfl) _ _ (by rfl) (put B q2 (cc + 1) (bx X (.slice A' k cp) W)) (by rfl) (by rfl) ?_ ((ho2.base (by rw [put_size, bx_size]; exact Nat.le_refl _)).keep ?_) (RS.lit .i64 _ [q1] _ _ ?_ 1 ?_ ?_ 1 ?_ _ ?_) ?_ ?_; (focus ((first | ((repeat (first | assumption | exact Below.refl _ _ | with_reducible refine past_t _ ?_ | with_reducible refine below_a _ ?_ | with_reducible refine Below.drew ?_ | with_reducible refine below_d _ ?_ | (with_reducible refine Below.setCell ?_ (by (show _ ≤ _; repeat (first | exact Nat.le_refl _ | assumption | (omega; done) | with_reducible exact le_past (Nat.le_refl _) | with_reducible refine le_past ?_ | with_reducible refine le_al ?_ | with_reducible refine le_set ?_ | with_reducible refine le_p1 ?_))) _))); done) | assumption | omega | (simp; done) | (simp [go_sem]; done) | (simp; omega) | (simp [go_sem, *]; done)); done)); (focus ((first | ((repeat (first | assumption | exact Below.refl _ _ | with_reducible refine past_t _ ?_ | with_reducible refine below_a _ ?_ | with_reducible refine Below.drew ?_ | with_reducible refine below_d _ ?_ | (with_reducible refine Below.setCell ?_ (by (show _ ≤ _; repeat (first | exact Nat.le_refl _ | assumption | (omega; done) | with_reducible exact le_past (Nat.le_refl _) | with_reducible refine le_past ?_ | with_reducible refine le_al ?_ | with_reducible refine le_set ?_ | with_reducible refine le_p1 ?_))) _))); done) | assumption | omega | (simp; done) | (simp [go_sem]; done) | (simp; omega) | (simp [go_sem, *]; done)); done)); (focus ((first | ((repeat (first | assumption | exact Below.refl _ _ | with_reducible refine past_t _ ?_ | with_reducible refine below_a _ ?_ | with_reducible refine Below.drew ?_ | with_reducible refine below_d _ ?_ | (with_reducible refine Below.setCell ?_ (by (show _ ≤ _; repeat (first | exact Nat.le_refl _ | assumption | (omega; done) | with_reducible exact le_past (Nat.le_refl _) | with_reducible refine le_past ?_ | with_reducible refine le_al ?_ | with_reducible refine le_set ?_ | with_reducible refine le_p1 ?_))) _))); done) | assumption | omega | (simp; done) | (simp [go_sem]; done) | (simp; omega) | (simp [go_sem, *]; done)); done)); (focus ((first | ((repeat (first | assumption | exact Below.refl _ _ | with_reducible refine past_t _ ?_ | with_reducible refine below_a _ ?_ | with_reducible refine Below.drew ?_ | with_reducible refine below_d _ ?_ | (with_reducible refine Below.setCell ?_ (by (show _ ≤ _; repeat (first | exact Nat.le_refl _ | assumption | (omega; done) | with_reducible exact le_past (Nat.le_refl _) | with_reducible refine le_past ?_ | with_reducible refine le_al ?_ | with_reducible refine le_set ?_ | with_reducible refine le_p1 ?_))) _))); done) | assumption | omega | (simp; done) | (simp [go_sem]; done) | (simp; omega) | (simp [go_sem, *]; done)); done)); (focus ((first | ((repeat (first | assumption | exact Below.refl _ _ | with_reducible refine past_t _ ?_ | with_reducible refine below_a _ ?_ | with_reducible refine Below.drew ?_ | with_reducible refine below_d _ ?_ | (with_reducible refine Below.setCell ?_ (by (show _ ≤ _; repeat (first | exact Nat.le_refl _ | assumption | (omega; done) | with_reducible exact le_past (Nat.le_refl _) | with_reducible refine le_past ?_ | with_reducible refine le_al ?_ | with_reducible refine le_set ?_ | with_reducible refine le_p1 ?_))) _))); done) | assumption | omega | (simp; done) | (simp [go_sem]; done) | (simp; omega) | (simp [go_sem, *]; done)); done)); (focus ((first | ((repeat (first | assumption | exact Below.refl _ _ | with_reducible refine past_t _ ?_ | with_reducible refine below_a _ ?_ | with_reducible refine Below.drew ?_ | with_reducible refine below_d _ ?_ | (with_reducible refine Below.setCell ?_ (by (show _ ≤ _; repeat (first | exact Nat.le_refl _ | assumption | (omega; done) | with_reducible exact le_past (Nat.le_refl _) | with_reducible refine le_past ?_ | with_reducible refine le_al ?_ | with_reducible refine le_set ?_ | with_reducible refine le_p1 ?_))) _))); done) | assumption | omega | (simp; done) | (simp [go_sem]; done) | (simp; omega) | (simp [go_sem, *]; done)); done)); (focus ((first | ((repeat (first | assumption | exact Below.refl _ _ | with_reducible refine past_t _ ?_ | with_reducible refine below_a _ ?_ | with_reducible refine Below.drew ?_ | with_reducible refine below_d _ ?_ | (with_reducible refine Below.setCell ?_ (by (show _ ≤ _; repeat (first | exact Nat.le_refl _ | assumption | (omega; done) | with_reducible exact le_past (Nat.le_refl _) | with_reducible refine le_past ?_ | with_reducible refine le_al ?_ | with_reducible refine le_set ?_ | with_reducible refine le_p1 ?_))) _))); done) | assumption | omega | (simp; done) | (simp [go_sem]; done) | (simp; omega) | (simp [go_sem, *]; done)); done)); (focus ((first | ((repeat (first | assumption | exact Below.refl _ _ | with_reducible refine past_t _ ?_ | with_reducible refine below_a _ ?_ | with_reducible refine Below.drew ?_ | with_reducible refine below_d _ ?_ | (with_reducible refine Below.setCell ?_ (by (show _ ≤ _; repeat (first | exact Nat.le_refl _ | assumption | (omega; done) | with_reducible exact le_past (Nat.le_refl _) | with_reducible refine le_past ?_ | with_reducible refine le_al ?_ | with_reducible refine le_set ?_ | with_reducible refine le_p1 ?_))) _))); done) | assumption | omega | (simp; done) | (simp [go_sem]; done) | (simp; omega) | (simp [go_sem, *]; done)); done))
      intro A3 c3 w4 ho4 hb4
      have j3 := bxp_cell hXB x2 hb4
      have j4 := bxp_mark x2 xf hb4
      refine hK.out _ _ (fun hne => ?_) (fun _ => ?_); clear hK K
      · (try dsimp only); exact ⟨_, _, hb4⟩
      refine wpAnyT_ready (rs := [16]) (by kernel_rfl) (by simp) ?_
      refine AllReadyT.cons rfl (fun K hK => ?_) AllReadyT.nil
      go_simp
      refine hK.out _ _ (fun hne => ?_) (fun _ => ?_); clear hK K
      · (try dsimp only); exact ⟨_, _, hb4⟩
      refine wpAnyT_ready (rs := [17]) (by kernel_rfl) (by simp) ?_
      refine AllReadyT.cons rfl (fun K hK => ?_) AllReadyT.nil
      go_simp
      refine hK.out _ _ (fun hne => ?_) (fun _ => ?_); clear hK K
      · exact absurd rfl hne
      refine wpAnyT_done (by kernel_rfl) ?_ _
      try simp only [Act.put, List.setIfInBounds_toArray, List.set_cons_zero, List.set_cons_succ]
      go_wp2_with fail
      go_roundg (a.length - (k + 1))
      case measure => omega
      case rel =>
        have hml := HML.out
        have hc2 : c + 1 * ((k + 1 : Nat) : Int) = cc + 1 := by have := HCC.out; omega
        refine ⟨k + 1, A3, c3, by omega, by omega, by go_num, ?_, ?_⟩
        · rw [HX.out, ← hml]
          exact own_set (ho4.base (U := W) (by rw [put_size, bx_size]; exact Nat.le_refl _)) hXW _
        · rw [HX.out, hc2, ← hml]
          rw [← hml] at hb4
          exact bxp_next hXB hb4
    · obtain rfl : k = a.length := by omega
      have hq := ((f4.out.far (b := X) (by omega) (.slice A' a.length cp)).put (B := B) (by omega) f cc).keep hbel
      have hT : Below w.heap.size (put B f cc w) wr := by
        have e1 : Below w.heap.size w (bx X (.slice A' a.length cp) W) := f0.setCell (by show w.heap.size ≤ X; omega) _
        exact (below_put e1 B f cc).trans (hbel.mono (by rw [put_size, bx_size]; exact hws))
      have q0 := hq.cell 0
      have q1 := hq.cell 1
      have q2 := hq.cell 2
      have q3 := hq.mark 0
      have q4 := hq.mark 1
      have q5 := hq.mark 2
      have q6 := hq.lt
      simp at q0 q1 q2
      have HO := Lib.hid hown
      have HP := Lib.hid hP
      have HCC := Lib.hid hcc
      clear hown hbel hP hcc hnx
      go_wp2_with fail
      refine bodyPost_ret (results_bm rfl rfl hq) rfl ?_
      rw [HP.out, HCC.out]
      exact ⟨_, _, rfl, (own_box HO.out (by omega) _ _ _).base (U := w) hws, below_box hT (by omega) _ _ _⟩
end Go.Proofs.Ytlhadociaekkhaa
/- The document's Scale (printed by mk_matr6.py). -/
namespace Go.Proofs.Ytlhadociaekkhaa
set_option linter.unusedVariables false
set_option maxRecDepth 100000
open Go.RowKit Go.Shelf
set_option maxHeartbeats 4000000 in
theorem r7Scale {B R C : Nat} {i : Bool} {c s : Int} {v1 : Value} {a : List Int} {w : World} (h : RA B i c w) (hc : 0 ≤ c ∧ c ≤ 4611686018427380000) (h1 : MS w B v1 a) (hs : InI s) (hR : 1 ≤ R ∧ R ≤ 12) (hC : 1 ≤ C ∧ C ≤ 12) (hza : a.length = R * C) (hia : AllI a) :
    Calls Try.prog 40 #[UP B, .agg #[.int .i64 R, .int .i64 C, v1], .int .i64 s] w fun e w' =>
      ∃ A cap, e = .returned (.tuple #[.agg #[.int .i64 R, .int .i64 C, .slice A (R * C) cap], .int .i64 0]) ∧ OwnI w w' (.slice A (R * C) cap) (mapG (gScaleS s) i a a (R * C)).1 ∧ Below w.heap.size (put B (mapG (gScaleS s) i a a (R * C)).2 (c + 2 * (R * C : Nat)) w) w' := by
  have hN : R * C ≤ 144 := Nat.mul_le_mul hR.2 hC.2
  have hN1 : 1 ≤ R * C := Nat.mul_le_mul hR.1 hC.1
  have hck1 : chk R C a.length = 0 := by unfold chk; rw [if_pos ⟨by omega, by omega, by rw [hza]; simp⟩]
  rw [← hza] at hN hN1 ⊢
  have hBl := h.lt
  have H := Lib.hid h
  obtain ⟨A1, c1, rfl, hr1, hn1⟩ := h1
  obtain ⟨p1, o1, rfl, hw1, hrow1⟩ := hr1.at_ (by omega)
  have hp1 := hn1 p1 o1 rfl
  have HR1 := Lib.hid hrow1
  have hcap1 := hr1.cap
  have hak := fun W => r7Check R C (some ⟨p1, o1, none⟩) a.length c1 W
  rw [hck1] at hak
  have HZA := Lib.hid hza
  clear h hr1 hn1 hrow1 hck1 hza
  go_enter Try.func40, Try.ntmps40
  go_upto_region 3 with ((go_at_call 33; first | (with_reducible refine Calls_past2 (hak _) (fun z => ?_)) | (with_reducible refine Calls_past (hak _) (fun z => ?_))))
  refine wp_gen (fun W0 hW0 => ?_)
  have g0 : Below w.heap.size w W0 := by rw [hW0]; (repeat (first | assumption | exact Below.refl _ _ | with_reducible refine past_t _ ?_ | with_reducible refine below_a _ ?_ | with_reducible refine Below.drew ?_ | with_reducible refine below_d _ ?_ | (with_reducible refine Below.setCell ?_ (by (show _ ≤ _; repeat (first | exact Nat.le_refl _ | assumption | (omega; done) | with_reducible exact le_past (Nat.le_refl _) | with_reducible refine le_past ?_ | with_reducible refine le_al ?_ | with_reducible refine le_set ?_ | with_reducible refine le_p1 ?_))) _)))
  have g1 : W0.cell? ⟨w.heap.size, 0, none⟩ = some (.int .i64 R) := by rw [hW0]; (first | (simp [go_sem]; done) | (simp [go_sem, ↓IntWalk.iteOmega]; done))
  have g2 : W0.cell? ⟨w.heap.size, 1, none⟩ = some (.int .i64 C) := by rw [hW0]; (first | (simp [go_sem]; done) | (simp [go_sem, ↓IntWalk.iteOmega]; done))
  have g3 : W0.cell? ⟨w.heap.size, 2, none⟩ = some (.slice (some ⟨p1, o1, none⟩) a.length c1) := by rw [hW0]; (first | (simp [go_sem]; done) | (simp [go_sem, ↓IntWalk.iteOmega]; done))
  have g4 : Blk W0 (w.heap.size + 1) 24 #[.int .i64 0, .int .i64 0, .slice none 0 0] := by
    have := Blk.new (w.alloc (.cells #[.int .i64 R, .int .i64 C, .slice (some ⟨p1, o1, none⟩) a.length c1] 24)) 24 #[.int .i64 0, .int .i64 0, .slice none 0 0]
    rw [hW0]
    simp only [World.size_alloc] at this
    exact this.keep (by (repeat (first | assumption | exact Below.refl _ _ | with_reducible refine past_t _ ?_ | with_reducible refine below_a _ ?_ | with_reducible refine Below.drew ?_ | with_reducible refine below_d _ ?_ | (with_reducible refine Below.setCell ?_ (by (show _ ≤ _; repeat (first | exact Nat.le_refl _ | assumption | (omega; done) | with_reducible exact le_past (Nat.le_refl _) | with_reducible refine le_past ?_ | with_reducible refine le_al ?_ | with_reducible refine le_set ?_ | with_reducible refine le_p1 ?_))) _))))
  have g5 := g4.lt
  have G4 := Lib.hid g4
  clear hW0 hak g4
  go_upto_region 4 with fail
  obtain ⟨X, hX⟩ : ∃ X, W0.heap.size = X := ⟨_, rfl⟩
  rw [hX] at g5 ⊢
  refine wp_gen (fun W hW => ?_)
  have hb0 : Below W0.heap.size W0 W := by rw [hW]; exact (Below.refl _ _).alloc (Nat.le_refl _) _
  have hBX : Blk W X 24 #[.int .i64 R, .int .i64 C, .slice none 0 0] := by rw [hW, ← hX]; exact Blk.new _ _ _
  clear hW
  have f0 := g0.trans (hb0.mono g0.size)
  have f3 := cell_keep g3 hb0
  have f4 := Lib.hid (G4.out.keep hb0)
  have x0 : W.cell? ⟨X, 0, none⟩ = some (.int .i64 R) := hBX.cell 0
  have x1 : W.cell? ⟨X, 1, none⟩ = some (.int .i64 C) := hBX.cell 1
  have x2 : W.cell? ⟨X, 2, none⟩ = some (.slice none 0 0) := hBX.cell 2
  have xf : W.frozen? ⟨X, 2, none⟩ = false := hBX.mark 2
  have hXW := hBX.lt
  have hws := f0.size
  have hXB : X ≠ B := by omega
  have RU := Lib.hid (H.out.keep f0)
  have hBW : B < W.heap.size := by omega
  clear g0 g1 g2 g3 G4 hb0 hX
  go_wp2_with fail
  go_loopg [9] a.length (fun g s9 wr => ∃ (k : Nat) (A' : Option Addr) (cp : Nat), k ≤ a.length ∧ a.length ≤ g + k ∧ s9 = .int .i64 k ∧ OwnI W wr (.slice A' k cp) (mapG (gScaleS s) i a a k).1 ∧ Below (put B (mapG (gScaleS s) i a a k).2 (c + 2 * (k : Nat)) (bx X (.slice A' k cp) W)).heap.size (put B (mapG (gScaleS s) i a a k).2 (c + 2 * (k : Nat)) (bx X (.slice A' k cp) W)) wr)
  case atStart =>
    refine ⟨0, none, 0, by omega, by omega, rfl, OwnK.nil _ _ _ _, ?_⟩
    have e0 : (mapG (gScaleS s) i a a 0) = ([], i) := rfl
    rw [e0, bx_self x2]
    simp only [Int.natCast_zero, Int.mul_zero, Int.add_zero]
    rw [rput_self RU.out]
    exact Below.refl _ _
  case round =>
    obtain ⟨k, A', cp, hk, hg, rfl, hown, hbel⟩ := hrel
    have hml := mapG_len (gScaleS s) i a a k
    obtain ⟨P, hP⟩ : ∃ P, (mapG (gScaleS s) i a a k) = P := ⟨_, rfl⟩
    have hnx : (mapG (gScaleS s) i a a (k + 1)) = ((mapG (gScaleS s) i a a k).1 ++ [((gScaleS s) (mapG (gScaleS s) i a a k).2 (a.getD k 0) (a.getD k 0)).1], ((gScaleS s) (mapG (gScaleS s) i a a k).2 (a.getD k 0) (a.getD k 0)).2) := rfl
    rw [hP] at hown hbel hnx hml
    obtain ⟨L, f⟩ := P
    simp only at hown hbel hnx hml
    obtain ⟨cc, hcc⟩ : ∃ cc : Int, c + 2 * (k : Int) = cc := ⟨_, rfl⟩
    rw [hcc] at hbel
    have c2' := bxp_far (by omega) (by omega) f3 hbel
    have d0 : wr.cell? ⟨X, 0, none⟩ = some (.int .i64 R) := (hbel.cell (p := ⟨X, 0, none⟩) (by rw [put_size, bx_size]; exact hXW)).trans ((put_cell _ _ _ _ _ hXB).trans ((World.cell?_setCell_other _ _ _ _ (by simp)).trans x0))
    have d1 : wr.cell? ⟨X, 1, none⟩ = some (.int .i64 C) := (hbel.cell (p := ⟨X, 1, none⟩) (by rw [put_size, bx_size]; exact hXW)).trans ((put_cell _ _ _ _ _ hXB).trans ((World.cell?_setCell_other _ _ _ _ (by simp)).trans x1))
    have d2 := bxp_cell hXB x2 hbel
    by_cases hlt : k < a.length
    · have hx := hia.get hlt
      have fx := (f0.cell (p := ⟨p1, o1 + k, none⟩) hw1).trans (HR1.out k hlt)
      generalize a.getD k 0 = x at *
      have hua := ((RU.out.bx hXB (.slice A' k cp)).put f cc).keep hbel
      have hBr : B < wr.heap.size := hua.lt
      have hcb : 0 ≤ cc ∧ cc + 2 ≤ 4611686018427387904 := by omega
      have hst0 := fun (W' : World) (kp : Below wr.heap.size wr W') (v : Value) (hv : SL W' B v [x, s]) => r4Mul2 (hua.keep kp) hx hs hv hcb
      simp only [gScaleS] at hnx
      generalize gScale f x s = q at *
      obtain ⟨q1, q2⟩ := q
      simp only at hnx hst0
      have hst : ∀ W', Below wr.heap.size wr W' → ∀ v, SL W' B v [x, s] → Calls Try.prog 62 #[UP B, v] W' fun e w' => e = .returned (.int .i64 q1) ∧ OwnI W w' (.slice A' k cp) L ∧ Below (put B q2 (cc + 2) (bx X (.slice A' k cp) W)).heap.size (put B q2 (cc + 2) (bx X (.slice A' k cp) W)) w' :=
        fun W' kp v hv => (hst0 W' kp v hv).mono fun e w' h => ⟨h.1, (ownK_put (hown.keep kp) hBW _ _).keep h.2, next_put hbel kp h.2⟩
      have HST := Lib.hid hst
      have HX := Lib.hid hnx
      have HCC := Lib.hid hcc
      have HML := Lib.hid hml
      have hRl : L.length ≤ 1000000 := by omega
      clear hst hst0 hown hnx hP hua hcc hml
      go_wp2_with fail
      refine region_heldT (S := fun w' => ∃ q d, Below (put B q d (bx X (.slice A' k cp) W)).heap.size (put B q d (bx X (.slice A' k cp) W)) w') 14 (by kernel_rfl) ?_ (fun hHeld => ?_)
      · (try dsimp only); exact ⟨_, _, by (repeat (first | assumption | exact Below.refl _ _ | with_reducible refine past_t _ ?_ | with_reducible refine below_a _ ?_ | with_reducible refine Below.drew ?_ | with_reducible refine below_d _ ?_ | (with_reducible refine Below.setCell ?_ (by (show _ ≤ _; repeat (first | exact Nat.le_refl _ | assumption | (omega; done) | with_reducible exact le_past (Nat.le_refl _) | with_reducible refine le_past ?_ | with_reducible refine le_al ?_ | with_reducible refine le_set ?_ | with_reducible refine le_p1 ?_))) _)))⟩
      refine wpAnyT_take (i := 0) (v := ?_) rfl (by kernel_rfl) (fun _ _ _ h => h) (Or.inl ⟨by rfl, ?_⟩) (by assumption) ?_; rotate_left 1
      · intro wS hSw; (try dsimp only at hSw); obtain ⟨q', d', hS'⟩ := hSw; have z1 := bxp_far (by omega) (by omega) f3 hS'; have z2 := bxp_cell hXB x2 hS'; have z3 := bxp_far hp1 (by omega) fx hS'; go_simp <;> with_reducible rfl
      try simp only [Act.put, List.setIfInBounds_toArray, List.set_cons_zero, List.set_cons_succ]
      refine wpAnyT_take (i := 1) (v := ?_) rfl (by kernel_rfl) (fun _ _ _ h => h) (Or.inl ⟨by rfl, ?_⟩) (by assumption) ?_; rotate_left 1
      · intro wS hSw; (try dsimp only at hSw); obtain ⟨q', d', hS'⟩ := hSw; have z1 := bxp_far (by omega) (by omega) f3 hS'; have z2 := bxp_cell hXB x2 hS'; have z3 := bxp_far hp1 (by omega) fx hS'; go_simp <;> with_reducible rfl
      try simp only [Act.put, List.setIfInBounds_toArray, List.set_cons_zero, List.set_cons_succ]
      refine wpAnyT_take (i := 2) (v := ?_) rfl (by kernel_rfl) (fun _ _ _ h => h) (Or.inl ⟨by rfl, ?_⟩) (by assumption) ?_; rotate_left 1
      · intro wS hSw; (try dsimp only at hSw); obtain ⟨q', d', hS'⟩ := hSw; have z1 := bxp_far (by omega) (by omega) f3 hS'; have z2 := bxp_cell hXB x2 hS'; have z3 := bxp_far hp1 (by omega) fx hS'; go_simp <;> with_reducible rfl
      try simp only [Act.put, List.setIfInBounds_toArray, List.set_cons_zero, List.set_cons_succ]
      refine wpAnyT_take (i := 3) (v := ?_) rfl (by kernel_rfl) (fun _ _ _ h => h) (Or.inl ⟨by rfl, ?_⟩) (by assumption) ?_; rotate_left 1
      · intro wS hSw; (try dsimp only at hSw); obtain ⟨q', d', hS'⟩ := hSw; have z1 := bxp_far (by omega) (by omega) f3 hS'; have z2 := bxp_cell hXB x2 hS'; have z3 := bxp_far hp1 (by omega) fx hS'; go_simp <;> with_reducible rfl
      try simp only [Act.put, List.setIfInBounds_toArray, List.set_cons_zero, List.set_cons_succ]
      refine wpAnyT_take (i := 4) (v := ?_) rfl (by kernel_rfl) (fun _ _ _ h => h) (Or.inl ⟨by rfl, ?_⟩) (by assumption) ?_; rotate_left 1
      · intro wS hSw; (try dsimp only at hSw); obtain ⟨q', d', hS'⟩ := hSw; have z1 := bxp_far (by omega) (by omega) f3 hS'; have z2 := bxp_cell hXB x2 hS'; have z3 := bxp_far hp1 (by omega) fx hS'; go_simp <;> with_reducible rfl
      try simp only [Act.put, List.setIfInBounds_toArray, List.set_cons_zero, List.set_cons_succ]
      refine wpAnyT_take (i := 5) (v := ?_) rfl (by kernel_rfl) (fun _ _ _ h => h) (Or.inl ⟨by rfl, ?_⟩) (by assumption) ?_; rotate_left 1
      · intro wS hSw; (try dsimp only at hSw); obtain ⟨q', d', hS'⟩ := hSw; have z1 := bxp_far (by omega) (by omega) f3 hS'; have z2 := bxp_cell hXB x2 hS'; have z3 := bxp_far hp1 (by omega) fx hS'; go_simp <;> with_reducible rfl
      try simp only [Act.put, List.setIfInBounds_toArray, List.set_cons_zero, List.set_cons_succ]
      refine wpAnyT_take (i := 6) (v := ?_) rfl (by kernel_rfl) (fun _ _ _ h => h) (Or.inl ⟨by rfl, ?_⟩) (by assumption) ?_; rotate_left 1
      · intro wS hSw; (try dsimp only at hSw); obtain ⟨q', d', hS'⟩ := hSw; have z1 := bxp_far (by omega) (by omega) f3 hS'; have z2 := bxp_cell hXB x2 hS'; have z3 := bxp_far hp1 (by omega) fx hS'; go_simp <;> with_reducible rfl
      try simp only [Act.put, List.setIfInBounds_toArray, List.set_cons_zero, List.set_cons_succ]
      refine wpAnyT_take (i := 7) (v := ?_) rfl (by kernel_rfl) (fun _ _ _ h => h) (Or.inl ⟨by rfl, ?_⟩) (by assumption) ?_; rotate_left 1
      · intro wS hSw; (try dsimp only at hSw); obtain ⟨q', d', hS'⟩ := hSw; have z1 := bxp_far (by omega) (by omega) f3 hS'; have z2 := bxp_cell hXB x2 hS'; have z3 := bxp_far hp1 (by omega) fx hS'; go_simp <;> with_reducible rfl
      try simp only [Act.put, List.setIfInBounds_toArray, List.set_cons_zero, List.set_cons_succ]
      refine wpAnyT_take (i := 8) (v := ?_) rfl (by kernel_rfl) (fun _ _ _ h => h) (Or.inl ⟨by rfl, ?_⟩) (by assumption) ?_; rotate_left 1
      · intro wS hSw; (try dsimp only at hSw); obtain ⟨q', d', hS'⟩ := hSw; have z1 := bxp_far (by omega) (by omega) f3 hS'; have z2 := bxp_cell hXB x2 hS'; have z3 := bxp_far hp1 (by omega) fx hS'; go_simp <;> with_reducible rfl
      try simp only [Act.put, List.setIfInBounds_toArray, List.set_cons_zero, List.set_cons_succ]
      clear hHeld
      refine wpAnyT_ready (rs := [9]) (by kernel_rfl) (by simp) ?_
      refine AllReadyT.cons rfl (fun K hK => ?_) AllReadyT.nil
      go_simp
      refine hK.out _ _ (fun hne => ?_) (fun _ => ?_); clear hK K
      · (try dsimp only); exact ⟨_, _, by (repeat (first | assumption | exact Below.refl _ _ | with_reducible refine past_t _ ?_ | with_reducible refine below_a _ ?_ | with_reducible refine Below.drew ?_ | with_reducible refine below_d _ ?_ | (with_reducible refine Below.setCell ?_ (by (show _ ≤ _; repeat (first | exact Nat.le_refl _ | assumption | (omega; done) | with_reducible exact le_past (Nat.le_refl _) | with_reducible refine le_past ?_ | with_reducible refine le_al ?_ | with_reducible refine le_set ?_ | with_reducible refine le_p1 ?_))) _)))⟩
      refine wpAnyT_ready (rs := [10]) (by kernel_rfl) (by simp) ?_
      refine AllReadyT.cons rfl (fun K hK => ?_) AllReadyT.nil
      go_simp
      go_wp2_with (go_at_call 62; with_reducible refine Calls.mono (HST.out _ ?_ _ (SL2 ?_ ?_ ?_)) ?_; (focus ((first | ((repeat (first | assumption | exact Below.refl _ _ | with_reducible refine past_t _ ?_ | with_reducible refine below_a _ ?_ | with_reducible refine Below.drew ?_ | with_reducible refine below_d _ ?_ | (with_reducible refine Below.setCell ?_ (by (show _ ≤ _; repeat (first | exact Nat.le_refl _ | assumption | (omega; done) | with_reducible exact le_past (Nat.le_refl _) | with_reducible refine le_past ?_ | with_reducible refine le_al ?_ | with_reducible refine le_set ?_ | with_reducible refine le_p1 ?_))) _))); done) | assumption | omega | (simp; done) | (simp [go_sem]; done) | (simp; omega) | (simp [go_sem, *]; done)); done)); (focus ((first | ((repeat (first | assumption | exact Below.refl _ _ | with_reducible refine past_t _ ?_ | with_reducible refine below_a _ ?_ | with_reducible refine Below.drew ?_ | with_reducible refine below_d _ ?_ | (with_reducible refine Below.setCell ?_ (by (show _ ≤ _; repeat (first | exact Nat.le_refl _ | assumption | (omega; done) | with_reducible exact le_past (Nat.le_refl _) | with_reducible refine le_past ?_ | with_reducible refine le_al ?_ | with_reducible refine le_set ?_ | with_reducible refine le_p1 ?_))) _))); done) | assumption | omega | (simp; done) | (simp [go_sem]; done) | (simp; omega) | (simp [go_sem, *]; done)); done)); (focus ((first | ((repeat (first | assumption | exact Below.refl _ _ | with_reducible refine past_t _ ?_ | with_reducible refine below_a _ ?_ | with_reducible refine Below.drew ?_ | with_reducible refine below_d _ ?_ | (with_reducible refine Below.setCell ?_ (by (show _ ≤ _; repeat (first | exact Nat.le_refl _ | assumption | (omega; done) | with_reducible exact le_past (Nat.le_refl _) | with_reducible refine le_past ?_ | with_reducible refine le_al ?_ | with_reducible refine le_set ?_ | with_reducible refine le_p1 ?_))) _))); done) | assumption | omega | (simp; done) | (simp [go_sem]; done) | (simp; omega) | (simp [go_sem, *]; done)); done)); (focus ((first | ((repeat (first | assumption | exact Below.refl _ _ | with_reducible refine past_t _ ?_ | with_reducible refine below_a _ ?_ | with_reducible refine Below.drew ?_ | with_reducible refine below_d _ ?_ | (with_reducible refine Below.setCell ?_ (by (show _ ≤ _; repeat (first | exact Nat.le_refl _ | assumption | (omega; done) | with_reducible exact le_past (Nat.le_refl _) | with_reducible refine le_past ?_ | with_reducible refine le_al ?_ | with_reducible refine le_set ?_ | with_reducible refine le_p1 ?_))) _))); done) | assumption | omega | (simp; done) | (simp [go_sem]; done) | (simp; omega) | (simp [go_sem, *]; done)); done)); rintro _ w2 ⟨rfl, ho2, hb2⟩)
      refine hK.out _ _ (fun hne => ?_) (fun _ => ?_); clear hK K
      · (try dsimp only); exact ⟨_, _, hb2⟩
      refine wpAnyT_ready (rs := [11]) (by kernel_rfl) (by simp) ?_
      refine AllReadyT.cons rfl (fun K hK => ?_) AllReadyT.nil
      go_simp
      refine hK.out _ _ (fun hne => ?_) (fun _ => ?_); clear hK K
      · (try dsimp only); exact ⟨_, _, by (repeat (first | assumption | exact Below.refl _ _ | with_reducible refine past_t _ ?_ | with_reducible refine below_a _ ?_ | with_reducible refine Below.drew ?_ | with_reducible refine below_d _ ?_ | (with_reducible refine Below.setCell ?_ (by (show _ ≤ _; repeat (first | exact Nat.le_refl _ | assumption | (omega; done) | with_reducible exact le_past (Nat.le_refl _) | with_reducible refine le_past ?_ | with_reducible refine le_al ?_ | with_reducible refine le_set ?_ | with_reducible refine le_p1 ?_))) _)))⟩
      refine wpAnyT_ready (rs := [12]) (by kernel_rfl) (by simp) ?_
      refine AllReadyT.cons rfl (fun K hK => ?_) AllReadyT.nil
      refine step_append_w (by rfl) _ _ (by rfl) (put B q2 (cc + 2) (bx X (.slice A' k cp) W)) (by rfl) (by rfl) ?_ ((ho2.base (by rw [put_size, bx_size]; exact Nat.le_refl _)).keep ?_) (RS.lit .i64 _ [q1] _ _ ?_ 1 ?_ ?_ 1 ?_ _ ?_) ?_ ?_; (focus ((first | ((repeat (first | assumption | exact Below.refl _ _ | with_reducible refine past_t _ ?_ | with_reducible refine below_a _ ?_ | with_reducible refine Below.drew ?_ | with_reducible refine below_d _ ?_ | (with_reducible refine Below.setCell ?_ (by (show _ ≤ _; repeat (first | exact Nat.le_refl _ | assumption | (omega; done) | with_reducible exact le_past (Nat.le_refl _) | with_reducible refine le_past ?_ | with_reducible refine le_al ?_ | with_reducible refine le_set ?_ | with_reducible refine le_p1 ?_))) _))); done) | assumption | omega | (simp; done) | (simp [go_sem]; done) | (simp; omega) | (simp [go_sem, *]; done)); done)); (focus ((first | ((repeat (first | assumption | exact Below.refl _ _ | with_reducible refine past_t _ ?_ | with_reducible refine below_a _ ?_ | with_reducible refine Below.drew ?_ | with_reducible refine below_d _ ?_ | (with_reducible refine Below.setCell ?_ (by (show _ ≤ _; repeat (first | exact Nat.le_refl _ | assumption | (omega; done) | with_reducible exact le_past (Nat.le_refl _) | with_reducible refine le_past ?_ | with_reducible refine le_al ?_ | with_reducible refine le_set ?_ | with_reducible refine le_p1 ?_))) _))); done) | assumption | omega | (simp; done) | (simp [go_sem]; done) | (simp; omega) | (simp [go_sem, *]; done)); done)); (focus ((first | ((repeat (first | assumption | exact Below.refl _ _ | with_reducible refine past_t _ ?_ | with_reducible refine below_a _ ?_ | with_reducible refine Below.drew ?_ | with_reducible refine below_d _ ?_ | (with_reducible refine Below.setCell ?_ (by (show _ ≤ _; repeat (first | exact Nat.le_refl _ | assumption | (omega; done) | with_reducible exact le_past (Nat.le_refl _) | with_reducible refine le_past ?_ | with_reducible refine le_al ?_ | with_reducible refine le_set ?_ | with_reducible refine le_p1 ?_))) _))); done) | assumption | omega | (simp; done) | (simp [go_sem]; done) | (simp; omega) | (simp [go_sem, *]; done)); done)); (focus ((first | ((repeat (first | assumption | exact Below.refl _ _ | with_reducible refine past_t _ ?_ | with_reducible refine below_a _ ?_ | with_reducible refine Below.drew ?_ | with_reducible refine below_d _ ?_ | (with_reducible refine Below.setCell ?_ (by (show _ ≤ _; repeat (first | exact Nat.le_refl _ | assumption | (omega; done) | with_reducible exact le_past (Nat.le_refl _) | with_reducible refine le_past ?_ | with_reducible refine le_al ?_ | with_reducible refine le_set ?_ | with_reducible refine le_p1 ?_))) _))); done) | assumption | omega | (simp; done) | (simp [go_sem]; done) | (simp; omega) | (simp [go_sem, *]; done)); done)); (focus ((first | ((repeat (first | assumption | exact Below.refl _ _ | with_reducible refine past_t _ ?_ | with_reducible refine below_a _ ?_ | with_reducible refine Below.drew ?_ | with_reducible refine below_d _ ?_ | (with_reducible refine Below.setCell ?_ (by (show _ ≤ _; repeat (first | exact Nat.le_refl _ | assumption | (omega; done) | with_reducible exact le_past (Nat.le_refl _) | with_reducible refine le_past ?_ | with_reducible refine le_al ?_ | with_reducible refine le_set ?_ | with_reducible refine le_p1 ?_))) _))); done) | assumption | omega | (simp; done) | (simp [go_sem]; done) | (simp; omega) | (simp [go_sem, *]; done)); done)); (focus ((first | ((repeat (first | assumption | exact Below.refl _ _ | with_reducible refine past_t _ ?_ | with_reducible refine below_a _ ?_ | with_reducible refine Below.drew ?_ | with_reducible refine below_d _ ?_ | (with_reducible refine Below.setCell ?_ (by (show _ ≤ _; repeat (first | exact Nat.le_refl _ | assumption | (omega; done) | with_reducible exact le_past (Nat.le_refl _) | with_reducible refine le_past ?_ | with_reducible refine le_al ?_ | with_reducible refine le_set ?_ | with_reducible refine le_p1 ?_))) _))); done) | assumption | omega | (simp; done) | (simp [go_sem]; done) | (simp; omega) | (simp [go_sem, *]; done)); done)); (focus ((first | ((repeat (first | assumption | exact Below.refl _ _ | with_reducible refine past_t _ ?_ | with_reducible refine below_a _ ?_ | with_reducible refine Below.drew ?_ | with_reducible refine below_d _ ?_ | (with_reducible refine Below.setCell ?_ (by (show _ ≤ _; repeat (first | exact Nat.le_refl _ | assumption | (omega; done) | with_reducible exact le_past (Nat.le_refl _) | with_reducible refine le_past ?_ | with_reducible refine le_al ?_ | with_reducible refine le_set ?_ | with_reducible refine le_p1 ?_))) _))); done) | assumption | omega | (simp; done) | (simp [go_sem]; done) | (simp; omega) | (simp [go_sem, *]; done)); done)); (focus ((first | ((repeat (first | assumption | exact Below.refl _ _ | with_reducible refine past_t _ ?_ | with_reducible refine below_a _ ?_ | with_reducible refine Below.drew ?_ | with_reducible refine below_d _ ?_ | (with_reducible refine Below.setCell ?_ (by (show _ ≤ _; repeat (first | exact Nat.le_refl _ | assumption | (omega; done) | with_reducible exact le_past (Nat.le_refl _) | with_reducible refine le_past ?_ | with_reducible refine le_al ?_ | with_reducible refine le_set ?_ | with_reducible refine le_p1 ?_))) _))); done) | assumption | omega | (simp; done) | (simp [go_sem]; done) | (simp; omega) | (simp [go_sem, *]; done)); done))
      intro A3 c3 w4 ho4 hb4
      have j3 := bxp_cell hXB x2 hb4
      have j4 := bxp_mark x2 xf hb4
      refine hK.out _ _ (fun hne => ?_) (fun _ => ?_); clear hK K
      · (try dsimp only); exact ⟨_, _, hb4⟩
      refine wpAnyT_ready (rs := [13]) (by kernel_rfl) (by simp) ?_
      refine AllReadyT.cons rfl (fun K hK => ?_) AllReadyT.nil
      go_simp
      refine hK.out _ _ (fun hne => ?_) (fun _ => ?_); clear hK K
      · (try dsimp only); exact ⟨_, _, hb4⟩
      refine wpAnyT_ready (rs := [14]) (by kernel_rfl) (by simp) ?_
      refine AllReadyT.cons rfl (fun K hK => ?_) AllReadyT.nil
      go_simp
      refine hK.out _ _ (fun hne => ?_) (fun _ => ?_); clear hK K
      · exact absurd rfl hne
      refine wpAnyT_done (by kernel_rfl) ?_ _
      try simp only [Act.put, List.setIfInBounds_toArray, List.set_cons_zero, List.set_cons_succ]
      go_wp2_with fail
      go_roundg (a.length - (k + 1))
      case measure => omega
      case rel =>
        have hml := HML.out
        have hc2 : c + 2 * ((k + 1 : Nat) : Int) = cc + 2 := by have := HCC.out; omega
        refine ⟨k + 1, A3, c3, by omega, by omega, by go_num, ?_, ?_⟩
        · rw [HX.out, ← hml]
          exact own_set (ho4.base (U := W) (by rw [put_size, bx_size]; exact Nat.le_refl _)) hXW _
        · rw [HX.out, hc2, ← hml]
          rw [← hml] at hb4
          exact bxp_next hXB hb4
    · obtain rfl : k = a.length := by omega
      have hq := ((f4.out.far (b := X) (by omega) (.slice A' a.length cp)).put (B := B) (by omega) f cc).keep hbel
      have hT : Below w.heap.size (put B f cc w) wr := by
        have e1 : Below w.heap.size w (bx X (.slice A' a.length cp) W) := f0.setCell (by show w.heap.size ≤ X; omega) _
        exact (below_put e1 B f cc).trans (hbel.mono (by rw [put_size, bx_size]; exact hws))
      have q0 := hq.cell 0
      have q1 := hq.cell 1
      have q2 := hq.cell 2
      have q3 := hq.mark 0
      have q4 := hq.mark 1
      have q5 := hq.mark 2
      have q6 := hq.lt
      simp at q0 q1 q2
      have HO := Lib.hid hown
      have HP := Lib.hid hP
      have HCC := Lib.hid hcc
      clear hown hbel hP hcc hnx
      go_wp2_with fail
      refine bodyPost_ret (results_bm rfl rfl hq) rfl ?_
      rw [HP.out, HCC.out]
      exact ⟨_, _, rfl, (own_box HO.out (by omega) _ _ _).base (U := w) hws, below_box hT (by omega) _ _ _⟩
end Go.Proofs.Ytlhadociaekkhaa
/- The document's Turn. -/
namespace Go.Proofs.Ytlhadociaekkhaa
set_option linter.unusedVariables false
set_option maxRecDepth 100000
open Go.RowKit Go.Shelf
set_option maxHeartbeats 4000000 in
theorem r7Turn {R C c : Nat} {A : Option Addr} {zs : List Int} {w : World} (hv : RS .i64 w A zs.length c zs) (hR : 1 ≤ R ∧ R ≤ 12) (hC : 1 ≤ C ∧ C ≤ 12) (hz : zs.length = R * C) :
    Calls Try.prog 30 #[.agg #[.int .i64 R, .int .i64 C, .slice A zs.length c]] w fun e w' => ∃ A' c', e = .returned (.tuple #[.agg #[.int .i64 C, .int .i64 R, .slice A' (C * R) c'], .int .i64 0]) ∧ OwnI w w' (.slice A' (C * R) c') (turnL R C zs) ∧ Below w.heap.size w w' := by
  have hck : chk R C zs.length = 0 := by unfold chk; rw [if_pos ⟨by omega, by omega, by rw [hz]; simp⟩]
  have hs := fun W => r7Check R C A zs.length c W
  rw [hck] at hs
  have HV := Lib.hid hv
  have HZ := Lib.hid hz
  clear hck hv hz
  go_enter Try.func30, Try.ntmps30
  go_upto_region 3 with ((go_at_call 33; first | (with_reducible refine Calls_past2 (hs _) (fun z => ?_)) | (with_reducible refine Calls_past (hs _) (fun z => ?_))))
  refine wp_gen (fun W0 hW0 => ?_)
  have g0 : Below w.heap.size w W0 := by rw [hW0]; (repeat (first | assumption | exact Below.refl _ _ | with_reducible refine past_t _ ?_ | with_reducible refine below_a _ ?_ | with_reducible refine Below.drew ?_ | with_reducible refine below_d _ ?_ | (with_reducible refine Below.setCell ?_ (by (show _ ≤ _; repeat (first | exact Nat.le_refl _ | assumption | (omega; done) | with_reducible exact le_past (Nat.le_refl _) | with_reducible refine le_past ?_ | with_reducible refine le_al ?_ | with_reducible refine le_set ?_ | with_reducible refine le_p1 ?_))) _)))
  have g1 : W0.cell? ⟨w.heap.size, 0, none⟩ = some (.int .i64 R) := by rw [hW0]; (first | (simp [go_sem]; done) | (simp [go_sem, ↓IntWalk.iteOmega]; done))
  have g2 : W0.cell? ⟨w.heap.size, 1, none⟩ = some (.int .i64 C) := by rw [hW0]; (first | (simp [go_sem]; done) | (simp [go_sem, ↓IntWalk.iteOmega]; done))
  have g3 : W0.cell? ⟨w.heap.size, 2, none⟩ = some (.slice A zs.length c) := by rw [hW0]; (first | (simp [go_sem]; done) | (simp [go_sem, ↓IntWalk.iteOmega]; done))
  have g4 : Blk W0 (w.heap.size + 1) 24 #[.int .i64 0, .int .i64 0, .slice none 0 0] := by
    have := Blk.new (w.alloc (.cells #[.int .i64 R, .int .i64 C, .slice A zs.length c] 24)) 24 #[.int .i64 0, .int .i64 0, .slice none 0 0]
    rw [hW0]
    simp only [World.size_alloc] at this
    exact this.keep (by (repeat (first | assumption | exact Below.refl _ _ | with_reducible refine past_t _ ?_ | with_reducible refine below_a _ ?_ | with_reducible refine Below.drew ?_ | with_reducible refine below_d _ ?_ | (with_reducible refine Below.setCell ?_ (by (show _ ≤ _; repeat (first | exact Nat.le_refl _ | assumption | (omega; done) | with_reducible exact le_past (Nat.le_refl _) | with_reducible refine le_past ?_ | with_reducible refine le_al ?_ | with_reducible refine le_set ?_ | with_reducible refine le_p1 ?_))) _))))
  have g5 := g4.lt
  have G4 := Lib.hid g4
  clear hW0 hs g4
  go_upto_region 4 with fail
  obtain ⟨X, hX⟩ : ∃ X, W0.heap.size = X := ⟨_, rfl⟩
  rw [hX] at g5 ⊢
  refine wp_gen (fun W hW => ?_)
  have hb0 : Below W0.heap.size W0 W := by rw [hW]; exact (Below.refl _ _).alloc (Nat.le_refl _) _
  have hBX : Blk W X 24 #[.int .i64 C, .int .i64 R, .slice none 0 0] := by rw [hW, ← hX]; exact Blk.new _ _ _
  clear hW
  have f0 := g0.trans (hb0.mono g0.size)
  have f1 := cell_keep g1 hb0
  have f2 := cell_keep g2 hb0
  have f3 := cell_keep g3 hb0
  have f4 := Lib.hid (G4.out.keep hb0)
  have x0 : W.cell? ⟨X, 0, none⟩ = some (.int .i64 C) := hBX.cell 0
  have x1 : W.cell? ⟨X, 1, none⟩ = some (.int .i64 R) := hBX.cell 1
  have x2 : W.cell? ⟨X, 2, none⟩ = some (.slice none 0 0) := hBX.cell 2
  have xf : W.frozen? ⟨X, 2, none⟩ = false := hBX.mark 2
  have hXW := hBX.lt
  have hws := f0.size
  have FV := Lib.hid (HV.out.keep f0)
  clear g0 g1 g2 g3 G4 hb0 hX
  go_wp2_with fail
  go_loopg [5] C (fun g s5 wr => ∃ (k : Nat) (A' : Option Addr) (cp : Nat), k ≤ C ∧ C ≤ g + k ∧ s5 = .int .i64 k ∧ OwnI W wr (.slice A' (k * R) cp) (turnK R C zs k) ∧ Below (bx X (.slice A' (k * R) cp) W).heap.size (bx X (.slice A' (k * R) cp) W) wr)
  case atStart =>
    refine ⟨0, none, 0, by omega, by omega, rfl, ?_, ?_⟩
    · have e0 : turnK R C zs 0 = [] := by simp [turnK]
      rw [e0, Nat.zero_mul]
      exact OwnK.nil _ _ _ _
    · rw [Nat.zero_mul, bx_self x2]
      exact Below.refl _ _
  case round =>
    obtain ⟨k, A', cp, hk, hg, rfl, hown, hbel⟩ := hrel
    have c0 := bx_far (by omega) f1 hbel
    have c1 := bx_far (by omega) f2 hbel
    have c2 := bx_far (by omega) f3 hbel
    have d0 : wr.cell? ⟨X, 0, none⟩ = some (.int .i64 C) := (hbel.cell (p := ⟨X, 0, none⟩) (by rw [bx_size]; exact hXW)).trans ((World.cell?_setCell_other _ _ _ _ (by simp)).trans x0)
    have d1 : wr.cell? ⟨X, 1, none⟩ = some (.int .i64 R) := (hbel.cell (p := ⟨X, 1, none⟩) (by rw [bx_size]; exact hXW)).trans ((World.cell?_setCell_other _ _ _ _ (by simp)).trans x1)
    have d2 := bx_cell x2 hbel
    have df := bx_mark x2 xf hbel
    by_cases hlt : k < C
    · have hcol : ∀ W', Below wr.heap.size wr W' → Calls Try.prog 49 #[.agg #[.int .i64 R, .int .i64 C, .slice A zs.length c], .int .i64 k] W' fun e w' => ∃ A2 c2, e = .returned (.slice A2 R c2) ∧ RS .i64 w' A2 R c2 (colL R C k zs) ∧ OwnI W w' (.slice A' (k * R) cp) (turnK R C zs k) ∧
          Below (bx X (.slice A' (k * R) cp) W).heap.size (bx X (.slice A' (k * R) cp) W) w' ∧ w'.cell? ⟨w.heap.size, 0, none⟩ = some (.int .i64 R) ∧ w'.cell? ⟨w.heap.size, 1, none⟩ = some (.int .i64 C) ∧ w'.cell? ⟨w.heap.size, 2, none⟩ = some (.slice A zs.length c) ∧ w'.cell? ⟨X, 2, none⟩ = some (.slice A' (k * R) cp) ∧ w'.frozen? ⟨X, 2, none⟩ = false := fun W' hW' => by
        have hbW := hbel.trans (hW'.mono hbel.size)
        have hb2 : Below W.heap.size (bx X (.slice A' (k * R) cp) W) W' := by rw [bx_size] at hbW; exact hbW
        have hrs : RS .i64 W' A zs.length c zs := by
          refine ⟨FV.out.len, FV.out.cap, FV.out.top, FV.out.nil_, fun h0 => ?_⟩
          obtain ⟨b, o, e, hbw, hrw⟩ := HV.out.at_ h0
          refine ⟨b, o, e, Nat.lt_of_lt_of_le hbw (Nat.le_trans hws (by have := hb2.size; rwa [bx_size] at this)), fun j hj => ?_⟩
          exact bx_far (by omega) ((f0.cell (p := ⟨b, o + j, none⟩) hbw).trans (hrw j hj)) hbW
        refine (r7column hrs hR hC HZ.out hlt).mono ?_
        rintro e w' ⟨A2, c2, rfl, ho2, hb3⟩
        have hb4 := hbW.trans (hb3.mono hbW.size)
        exact ⟨A2, c2, rfl, ho2.rs, (hown.keep hW').keep hb3, hb4, bx_far (by omega) f1 hb4, bx_far (by omega) f2 hb4, bx_far (by omega) f3 hb4, bx_cell x2 hb4, bx_mark x2 xf hb4⟩
      have HCOL := Lib.hid hcol
      have hl0 := turnK_len R C zs k
      have hl1 := colL_len R C k zs
      have hkR : k * R ≤ 144 := Nat.mul_le_mul (Nat.le_trans hk hC.2) hR.2
      have HN := Lib.hid (turnK_next R C zs k (by omega))
      have hsR : (k + 1) * R = k * R + R := Nat.succ_mul k R
      have HSR := Lib.hid hsR
      clear hcol hown hbel hsR
      generalize turnK R C zs k = L at *
      generalize colL R C k zs = M at *
      generalize k * R = n at *
      go_wp2_with fail
      refine region_heldT (S := fun w' => w'.cell? ⟨w.heap.size, 0, none⟩ = some (.int .i64 R) ∧ w'.cell? ⟨w.heap.size, 1, none⟩ = some (.int .i64 C) ∧ w'.cell? ⟨w.heap.size, 2, none⟩ = some (.slice A zs.length c) ∧ w'.cell? ⟨X, 2, none⟩ = some (.slice A' n cp)) 7 (by kernel_rfl) ?_ (fun hHeld => ?_)
      · (try dsimp only); exact ⟨c0, c1, c2, d2⟩
      refine wpAnyT_take (i := 0) (v := ?_) rfl (by kernel_rfl) (fun _ _ _ h => h) (Or.inl ⟨by rfl, ?_⟩) (by assumption) ?_; rotate_left 1
      · intro wS hSw; (try dsimp only at hSw); go_split_ands; go_simp <;> with_reducible rfl
      try simp only [Act.put, List.setIfInBounds_toArray, List.set_cons_zero, List.set_cons_succ]
      refine wpAnyT_take (i := 1) (v := ?_) rfl (by kernel_rfl) (fun _ _ _ h => h) (Or.inl ⟨by rfl, ?_⟩) (by assumption) ?_; rotate_left 1
      · intro wS hSw; (try dsimp only at hSw); go_split_ands; go_simp <;> with_reducible rfl
      try simp only [Act.put, List.setIfInBounds_toArray, List.set_cons_zero, List.set_cons_succ]
      refine wpAnyT_take (i := 2) (v := ?_) rfl (by kernel_rfl) (fun _ _ _ h => h) (Or.inl ⟨by rfl, ?_⟩) (by assumption) ?_; rotate_left 1
      · intro wS hSw; (try dsimp only at hSw); go_split_ands; go_simp <;> with_reducible rfl
      try simp only [Act.put, List.setIfInBounds_toArray, List.set_cons_zero, List.set_cons_succ]
      refine wpAnyT_take (i := 3) (v := ?_) rfl (by kernel_rfl) (fun _ _ _ h => h) (Or.inl ⟨by rfl, ?_⟩) (by assumption) ?_; rotate_left 1
      · intro wS hSw; (try dsimp only at hSw); go_split_ands; go_simp <;> with_reducible rfl
      try simp only [Act.put, List.setIfInBounds_toArray, List.set_cons_zero, List.set_cons_succ]
      clear hHeld
      refine wpAnyT_ready (rs := [4]) (by kernel_rfl) (by simp) ?_
      refine AllReadyT.cons rfl (fun K hK => ?_) AllReadyT.nil
      go_simp
      go_wp2_with (go_at_call 49; refine Calls.mono (HCOL.out _ ?_) ?_; (focus ((first | ((repeat (first | assumption | exact Below.refl _ _ | with_reducible refine past_t _ ?_ | with_reducible refine below_a _ ?_ | with_reducible refine Below.drew ?_ | with_reducible refine below_d _ ?_ | (with_reducible refine Below.setCell ?_ (by (show _ ≤ _; repeat (first | exact Nat.le_refl _ | assumption | (omega; done) | with_reducible exact le_past (Nat.le_refl _) | with_reducible refine le_past ?_ | with_reducible refine le_al ?_ | with_reducible refine le_set ?_ | with_reducible refine le_p1 ?_))) _))); done) | assumption | omega | (simp; done) | (simp [go_sem]; done) | (simp; omega) | (simp [go_sem, *]; done)); done)); rintro _ w2 ⟨A2, cc2, rfl, hr2, ho2, hb2, i0, i1, i2, i3, i4⟩)
      refine hK.out _ _ (fun hne => ?_) (fun _ => ?_); clear hK K
      · (try dsimp only); exact ⟨by assumption, by assumption, by assumption, by assumption⟩
      refine wpAnyT_ready (rs := [5]) (by kernel_rfl) (by simp) ?_
      refine AllReadyT.cons rfl (fun K hK => ?_) AllReadyT.nil
      refine step_append_w (by rfl) _ _ (by rfl) (bx X (.slice A' n cp) W) (by rfl) (by rfl) ?_ (ho2.base (by rw [bx_size]; exact Nat.le_refl _)) hr2 ?_ ?_
      · exact hb2
      · omega
      intro A3 c3 w4 ho4 hb4
      have j0 := bx_far (by omega) f1 hb4
      have j1 := bx_far (by omega) f2 hb4
      have j2 := bx_far (by omega) f3 hb4
      have j3 := bx_cell x2 hb4
      have j4 := bx_mark x2 xf hb4
      refine hK.out _ _ (fun hne => ?_) (fun _ => ?_); clear hK K
      · (try dsimp only); exact ⟨by assumption, by assumption, by assumption, by assumption⟩
      refine wpAnyT_ready (rs := [6]) (by kernel_rfl) (by simp) ?_
      refine AllReadyT.cons rfl (fun K hK => ?_) AllReadyT.nil
      go_simp
      refine hK.out _ _ (fun hne => ?_) (fun _ => ?_); clear hK K
      · (try dsimp only); exact ⟨by assumption, by assumption, by assumption, by assumption⟩
      refine wpAnyT_ready (rs := [7]) (by kernel_rfl) (by simp) ?_
      refine AllReadyT.cons rfl (fun K hK => ?_) AllReadyT.nil
      go_simp
      refine hK.out _ _ (fun hne => ?_) (fun _ => ?_); clear hK K
      · exact absurd rfl hne
      refine wpAnyT_done (by kernel_rfl) ?_ _
      try simp only [Act.put, List.setIfInBounds_toArray, List.set_cons_zero, List.set_cons_succ]
      go_wp2_with fail
      go_roundg (C - (k + 1))
      case measure => omega
      case rel =>
        refine ⟨k + 1, A3, c3, by omega, by omega, by go_num, ?_, ?_⟩
        · rw [HN.out, HSR.out, ← hl0, ← hl1]
          exact own_set (ho4.base (U := W) (by rw [bx_size]; exact Nat.le_refl _)) hXW _
        · rw [HSR.out, ← hl0, ← hl1]
          rw [← hl0] at hb4
          exact bx_next hb4
    · obtain rfl : k = C := by omega
      have hq := (f4.out.far (b := X) (by omega) (.slice A' (k * R) cp)).keep hbel
      have hT : Below w.heap.size w wr := (f0.setCell (by show w.heap.size ≤ X; omega) _).trans (hbel.mono (by rw [bx_size]; exact hws))
      have q0 := hq.cell 0
      have q1 := hq.cell 1
      have q2 := hq.cell 2
      have q3 := hq.mark 0
      have q4 := hq.mark 1
      have q5 := hq.mark 2
      have q6 := hq.lt
      simp at q0 q1 q2
      have HO := Lib.hid hown
      clear hown hbel
      go_wp2_with fail
      exact bodyPost_ret (results_bm rfl rfl hq) rfl ⟨_, _, rfl, (own_box HO.out (by omega) _ _ _).base (U := w) hws, below_box hT (by omega) _ _ _⟩
end Go.Proofs.Ytlhadociaekkhaa
