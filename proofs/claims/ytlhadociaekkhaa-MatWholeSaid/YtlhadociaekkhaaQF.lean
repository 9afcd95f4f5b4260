/- The document's Mul. -/
import Derived.Test.YtlhadociaekkhaaQD
import Derived.Test.YtlhadociaekkhaaQC
import Derived.Test.YtlhadociaekkhaaQE
import Derived.Test.YtlhadociaekkhaaQVec4
import Derived.Test.YtlhadociaekkhaaQMat8
import Derived.Test.YtlhadociaekkhaaQRows1
import Derived.Deep.Slices
import Derived.Deep.Fields
import Derived.OpenShut
import Derived.Test.YtlhadociaekkhaaQOver
import Derived.Lib.Hide
import Derived.Deep.RegionHeld3
set_option linter.unusedSimpArgs false
set_option linter.unusedVariables false
namespace Go.Proofs.Ytlhadociaekkhaa
set_option linter.unusedVariables false
set_option maxRecDepth 100000
open Go.RowKit Go.Shelf
/-- One row of one by one column of the other. -/
def gR (a b : List Int) (K C : Nat) (j : Bool) (x : Nat) : Int × Bool := runD (0, j) (rowL a K (x / C)) (colL K C (x % C) b) K
theorem gR_at (a b : List Int) (K C r k : Nat) (hk : k < C) (j : Bool) : gR a b K C j (r * C + k) = runD (0, j) (rowL a K r) (colL K C k b) K := by
  have e1 : (r * C + k) / C = r := by rw [Nat.mul_comm, Nat.mul_add_div (by omega), Nat.div_eq_of_lt hk, Nat.add_zero]
  have e2 : (r * C + k) % C = k := by rw [Nat.mul_comm, Nat.mul_add_mod, Nat.mod_eq_of_lt hk]
  unfold gR
  rw [e1, e2]
theorem cnt_next (K n : Nat) : 2 * (K : Int) * ((n + 1 : Nat) : Int) = 2 * (K : Int) * (n : Nat) + 2 * (K : Int) := by rw [Int.natCast_succ, Int.mul_add, Int.mul_one]
theorem cnt_bd (K n : Nat) (hK : K ≤ 12) (hn : n ≤ 144) : 0 ≤ 2 * (K : Int) * (n : Nat) ∧ 2 * (K : Int) * (n : Nat) ≤ 24 * 144 :=
  ⟨Int.mul_nonneg (by omega) (by omega), Int.mul_le_mul (by omega) (by omega) (by omega) (by omega)⟩
theorem colL_in {zs : List Int} (h : AllI zs) (R C k : Nat) : AllI (colL R C k zs) := fun n hn => by
  obtain ⟨x, _, rfl⟩ := List.mem_map.1 hn
  exact getD_in h _
theorem r7MulNo {B : Nat} {R1 C1 R2 C2 : Int} {A1 A2 : Option Addr} {n1 c1 n2 c2 : Nat} {w : World} (hno : ¬(C1 = R2 ∧ chk R1 C1 n1 = 0 ∧ chk R2 C2 n2 = 0)) :
    Calls Try.prog 17 #[UP B, .agg #[.int .i64 R1, .int .i64 C1, .slice A1 n1 c1], .agg #[.int .i64 R2, .int .i64 C2, .slice A2 n2 c2]] w fun e w' => e = .returned (.tuple #[M0, .int .i64 3]) ∧ Below w.heap.size w w' := by
  have k1 := fun W => r7Check R1 C1 A1 n1 c1 W
  have k2 := fun W => r7Check R2 C2 A2 n2 c2 W
  rcases chk_or R1 C1 n1 with h1 | h1
  · rcases chk_or R2 C2 n2 with h2 | h2
    · have h3 : ¬ C1 = R2 := fun x => hno ⟨x, h1, h2⟩
      rw [h1] at k1
      rw [h2] at k2
      have e3 : (C1 != R2) = true := by simpa using h3
      clear hno h1 h2
      go_enter Try.func17, Try.ntmps17
      go_wp2_with (first | (go_at_call 33; first | (with_reducible refine Calls_past2 (k1 _) (fun z => ?_)) | (with_reducible refine Calls_past (k1 _) (fun z => ?_))) | (go_at_call 33; first | (with_reducible refine Calls_past2 (k2 _) (fun z => ?_)) | (with_reducible refine Calls_past (k2 _) (fun z => ?_))))
      refine bodyPost_ret (results_cm (T := 0) (x0 := .int .i64 0) (x1 := .int .i64 0) (x2 := .slice none 0 0) rfl rfl (by (first | (simp [go_sem]; done) | (simp [go_sem, ↓IntWalk.iteOmega]; done))) (by (first | (simp [go_sem]; done) | (simp [go_sem, ↓IntWalk.iteOmega]; done))) (by (first | (simp [go_sem]; done) | (simp [go_sem, ↓IntWalk.iteOmega]; done)))) rfl ?_
      exact ⟨rfl, by (repeat (first | assumption | exact Below.refl _ _ | with_reducible refine past_t _ ?_ | with_reducible refine below_a _ ?_ | with_reducible refine Below.drew ?_ | with_reducible refine below_d _ ?_ | (with_reducible refine Below.setCell ?_ (by (show _ ≤ _; repeat (first | exact Nat.le_refl _ | assumption | (omega; done) | with_reducible exact le_past (Nat.le_refl _) | with_reducible refine le_past ?_ | with_reducible refine le_al ?_ | with_reducible refine le_set ?_ | with_reducible refine le_p1 ?_))) _)))⟩
    · rw [h1] at k1
      rw [h2] at k2
      clear hno h1 h2
      go_enter Try.func17, Try.ntmps17
      go_wp2_with (first | (go_at_call 33; first | (with_reducible refine Calls_past2 (k1 _) (fun z => ?_)) | (with_reducible refine Calls_past (k1 _) (fun z => ?_))) | (go_at_call 33; first | (with_reducible refine Calls_past2 (k2 _) (fun z => ?_)) | (with_reducible refine Calls_past (k2 _) (fun z => ?_))))
      refine bodyPost_ret (results_cm (T := 0) (x0 := .int .i64 0) (x1 := .int .i64 0) (x2 := .slice none 0 0) rfl rfl (by (first | (simp [go_sem]; done) | (simp [go_sem, ↓IntWalk.iteOmega]; done))) (by (first | (simp [go_sem]; done) | (simp [go_sem, ↓IntWalk.iteOmega]; done))) (by (first | (simp [go_sem]; done) | (simp [go_sem, ↓IntWalk.iteOmega]; done)))) rfl ?_
      exact ⟨rfl, by (repeat (first | assumption | exact Below.refl _ _ | with_reducible refine past_t _ ?_ | with_reducible refine below_a _ ?_ | with_reducible refine Below.drew ?_ | with_reducible refine below_d _ ?_ | (with_reducible refine Below.setCell ?_ (by (show _ ≤ _; repeat (first | exact Nat.le_refl _ | assumption | (omega; done) | with_reducible exact le_past (Nat.le_refl _) | with_reducible refine le_past ?_ | with_reducible refine le_al ?_ | with_reducible refine le_set ?_ | with_reducible refine le_p1 ?_))) _)))⟩
  · rw [h1] at k1
    clear hno h1 k2
    go_enter Try.func17, Try.ntmps17
    go_wp2_with (first | (go_at_call 33; first | (with_reducible refine Calls_past2 (k1 _) (fun z => ?_)) | (with_reducible refine Calls_past (k1 _) (fun z => ?_))))
    refine bodyPost_ret (results_cm (T := 0) (x0 := .int .i64 0) (x1 := .int .i64 0) (x2 := .slice none 0 0) rfl rfl (by (first | (simp [go_sem]; done) | (simp [go_sem, ↓IntWalk.iteOmega]; done))) (by (first | (simp [go_sem]; done) | (simp [go_sem, ↓IntWalk.iteOmega]; done))) (by (first | (simp [go_sem]; done) | (simp [go_sem, ↓IntWalk.iteOmega]; done)))) rfl ?_
    exact ⟨rfl, by (repeat (first | assumption | exact Below.refl _ _ | with_reducible refine past_t _ ?_ | with_reducible refine below_a _ ?_ | with_reducible refine Below.drew ?_ | with_reducible refine below_d _ ?_ | (with_reducible refine Below.setCell ?_ (by (show _ ≤ _; repeat (first | exact Nat.le_refl _ | assumption | (omega; done) | with_reducible exact le_past (Nat.le_refl _) | with_reducible refine le_past ?_ | with_reducible refine le_al ?_ | with_reducible refine le_set ?_ | with_reducible refine le_p1 ?_))) _)))⟩
theorem own_at {V w : World} {E : TypeId} {k : IntKind} {v : Value} {zs : List Int} (h : OwnK V w E k v zs) {g : Nat} (hg : v.ownBlock = some g) : V.heap.size ≤ g ∧ g < w.heap.size := by
  obtain ⟨_, h1 | ⟨g', cap, cur, h1, hb, hh, _⟩⟩ := h
  · rw [h1.1] at hg; cases hg
  · rw [h1] at hg
    simp only [Value.ownBlock, Option.some.injEq] at hg
    subst hg
    exact ⟨hb, (Array.getElem?_eq_some_iff.1 hh).1⟩
theorem sl_set {w : World} {B : Nat} {A : Option Addr} {n c : Nat} {zs : List Int} (h : SL w B (.slice A n c) zs) {X i : Nat} (hX : ∀ b o, A = some ⟨b, o, none⟩ → b ≠ X) (u : Value) : SL (w.setCell ⟨X, i, none⟩ u) B (.slice A n c) zs := by
  obtain ⟨A', cap, e, hl, hw⟩ := h
  cases e
  refine ⟨A, c, rfl, hl, fun h0 => ?_⟩
  obtain ⟨b, o, e, hb, hbw, hrow⟩ := hw h0
  exact ⟨b, o, e, hb, by simpa [World.setCell] using hbw, fun j hj => (World.cell?_setCell_far _ _ _ _ (by show X ≠ b; exact (hX b o e).symm)).trans (hrow j hj)⟩
set_option maxHeartbeats 4000000 in
theorem r7Mul {B R C K : Nat} {i : Bool} {c : Int} {v1 v2 : Value} {a b : List Int} {w : World} (h : RA B i c w) (hc : 0 ≤ c ∧ c ≤ 4611686018427380000)
    (h1 : MS w B v1 a) (h2 : MS w B v2 b) (hR : 1 ≤ R ∧ R ≤ 12) (hC : 1 ≤ C ∧ C ≤ 12) (hK : 1 ≤ K ∧ K ≤ 12) (hza : a.length = R * K) (hzb : b.length = K * C) (hia : AllI a) (hib : AllI b) :
    Calls Try.prog 17 #[UP B, .agg #[.int .i64 R, .int .i64 K, v1], .agg #[.int .i64 K, .int .i64 C, v2]] w fun e w' =>
      ∃ A cap, e = .returned (.tuple #[.agg #[.int .i64 R, .int .i64 C, .slice A (R * C) cap], .int .i64 0]) ∧ OwnI w w' (.slice A (R * C) cap) (mapN (gR a b K C) i (R * C)).1 ∧ Below w.heap.size (put B (mapN (gR a b K C) i (R * C)).2 (c + 2 * (K : Int) * (R * C : Nat)) w) w' := by
  have hck1 : chk R K a.length = 0 := by unfold chk; rw [if_pos ⟨by omega, by omega, by rw [hza]; simp⟩]
  have hck2 : chk K C b.length = 0 := by unfold chk; rw [if_pos ⟨by omega, by omega, by rw [hzb]; simp⟩]
  have hBl := h.lt
  have H := Lib.hid h
  obtain ⟨A1, c1, rfl, hr1, hn1⟩ := h1
  obtain ⟨p1, o1, rfl, hw1, _⟩ := hr1.at_ (Nat.lt_of_lt_of_le Nat.zero_lt_one (Nat.le_trans (Nat.mul_le_mul hR.1 hK.1) (Nat.le_of_eq hza.symm)))
  obtain ⟨A2, c2, rfl, hr2, hn2⟩ := h2
  obtain ⟨p2, o2, rfl, hw2, _⟩ := hr2.at_ (Nat.lt_of_lt_of_le Nat.zero_lt_one (Nat.le_trans (Nat.mul_le_mul hK.1 hC.1) (Nat.le_of_eq hzb.symm)))
  have hp1 := hn1 p1 o1 rfl
  have hp2 := hn2 p2 o2 rfl
  have HR1 := Lib.hid hr1
  have HR2 := Lib.hid hr2
  have k1 := fun W => r7Check R K (some ⟨p1, o1, none⟩) a.length c1 W
  have k2 := fun W => r7Check K C (some ⟨p2, o2, none⟩) b.length c2 W
  rw [hck1] at k1
  rw [hck2] at k2
  have HZA := Lib.hid hza
  have HZB := Lib.hid hzb
  clear h hr1 hn1 hr2 hn2 hck1 hck2 hza hzb
  go_enter Try.func17, Try.ntmps17
  go_upto_region 3 with (first | (go_at_call 33; first | (with_reducible refine Calls_past2 (k1 _) (fun z => ?_)) | (with_reducible refine Calls_past (k1 _) (fun z => ?_))) | (go_at_call 33; first | (with_reducible refine Calls_past2 (k2 _) (fun z => ?_)) | (with_reducible refine Calls_past (k2 _) (fun z => ?_))))
  refine wp_gen (fun W0 hW0 => ?_)
  have g0 : Below w.heap.size w W0 := by rw [hW0]; (repeat (first | assumption | exact Below.refl _ _ | with_reducible refine past_t _ ?_ | with_reducible refine below_a _ ?_ | with_reducible refine Below.drew ?_ | with_reducible refine below_d _ ?_ | (with_reducible refine Below.setCell ?_ (by (show _ ≤ _; repeat (first | exact Nat.le_refl _ | assumption | (omega; done) | with_reducible exact le_past (Nat.le_refl _) | with_reducible refine le_past ?_ | with_reducible refine le_al ?_ | with_reducible refine le_set ?_ | with_reducible refine le_p1 ?_))) _)))
  have g1 : W0.cell? ⟨w.heap.size, 0, none⟩ = some (.int .i64 R) := by rw [hW0]; (first | (simp [go_sem]; done) | (simp [go_sem, ↓IntWalk.iteOmega]; done))
  have g2 : W0.cell? ⟨w.heap.size, 1, none⟩ = some (.int .i64 K) := by rw [hW0]; (first | (simp [go_sem]; done) | (simp [go_sem, ↓IntWalk.iteOmega]; done))
  have g3 : W0.cell? ⟨w.heap.size, 2, none⟩ = some (.slice (some ⟨p1, o1, none⟩) a.length c1) := by rw [hW0]; (first | (simp [go_sem]; done) | (simp [go_sem, ↓IntWalk.iteOmega]; done))
  have g11 : W0.cell? ⟨w.heap.size + 1, 0, none⟩ = some (.int .i64 K) := by rw [hW0]; (first | (simp [go_sem]; done) | (simp [go_sem, ↓IntWalk.iteOmega]; done))
  have g22 : W0.cell? ⟨w.heap.size + 1, 1, none⟩ = some (.int .i64 C) := by rw [hW0]; (first | (simp [go_sem]; done) | (simp [go_sem, ↓IntWalk.iteOmega]; done))
  have g33 : W0.cell? ⟨w.heap.size + 1, 2, none⟩ = some (.slice (some ⟨p2, o2, none⟩) b.length c2) := by rw [hW0]; (first | (simp [go_sem]; done) | (simp [go_sem, ↓IntWalk.iteOmega]; done))
  have g4 : Blk W0 (w.heap.size + 1 + 1) 24 #[.int .i64 0, .int .i64 0, .slice none 0 0] := by
    have := Blk.new ((w.alloc (.cells #[.int .i64 R, .int .i64 K, .slice (some ⟨p1, o1, none⟩) a.length c1] 24)).alloc (.cells #[.int .i64 K, .int .i64 C, .slice (some ⟨p2, o2, none⟩) b.length c2] 24)) 24 #[.int .i64 0, .int .i64 0, .slice none 0 0]
    rw [hW0]
    simp only [World.size_alloc] at this
    exact this.keep (by (repeat (first | assumption | exact Below.refl _ _ | with_reducible refine past_t _ ?_ | with_reducible refine below_a _ ?_ | with_reducible refine Below.drew ?_ | with_reducible refine below_d _ ?_ | (with_reducible refine Below.setCell ?_ (by (show _ ≤ _; repeat (first | exact Nat.le_refl _ | assumption | (omega; done) | with_reducible exact le_past (Nat.le_refl _) | with_reducible refine le_past ?_ | with_reducible refine le_al ?_ | with_reducible refine le_set ?_ | with_reducible refine le_p1 ?_))) _))))
  have g5 := g4.lt
  have G4 := Lib.hid g4
  clear hW0 k1 k2 g4
  go_upto_region 4 with fail
  obtain ⟨X, hX⟩ : ∃ X, W0.heap.size = X := ⟨_, rfl⟩
  rw [hX] at g5 ⊢
  refine wp_gen (fun W hW => ?_)
  have hb0 : Below W0.heap.size W0 W := by rw [hW]; exact (Below.refl _ _).alloc (Nat.le_refl _) _
  have hBX : Blk W X 24 #[.int .i64 R, .int .i64 C, .slice none 0 0] := by rw [hW, ← hX]; exact Blk.new _ _ _
  clear hW
  have f0 := g0.trans (hb0.mono g0.size)
  have f1 := cell_keep g1 hb0
  have f2 := cell_keep g2 hb0
  have f3 := cell_keep g3 hb0
  have f11 := cell_keep g11 hb0
  have f22 := cell_keep g22 hb0
  have f33 := cell_keep g33 hb0
  have f4 := Lib.hid (G4.out.keep hb0)
  have x0 : W.cell? ⟨X, 0, none⟩ = some (.int .i64 R) := hBX.cell 0
  have x1 : W.cell? ⟨X, 1, none⟩ = some (.int .i64 C) := hBX.cell 1
  have x2 : W.cell? ⟨X, 2, none⟩ = some (.slice none 0 0) := hBX.cell 2
  have xf : W.frozen? ⟨X, 2, none⟩ = false := hBX.mark 2
  have hXW := hBX.lt
  have hws := f0.size
  have hXB : X ≠ B := by omega
  have RU := Lib.hid (H.out.keep f0)
  have hBW : B < W.heap.size := by omega
  have FR1 := Lib.hid (HR1.out.keep f0)
  have FR2 := Lib.hid (HR2.out.keep f0)
  -- what the lists read as, wherever the box and the unit have got to
  have hrs1 : ∀ (q : Bool) (d : Int) (s : Value) (W' : World), Below (put B q d (bx X s W)).heap.size (put B q d (bx X s W)) W' → RS .i64 W' (some ⟨p1, o1, none⟩) a.length c1 a := fun q d s W' hb => by
    refine ⟨FR1.out.len, FR1.out.cap, FR1.out.top, FR1.out.nil_, fun h0 => ?_⟩
    obtain ⟨b', o', e, hbw, hrw⟩ := HR1.out.at_ h0
    cases e
    refine ⟨p1, o1, rfl, Nat.lt_of_lt_of_le (Nat.lt_of_lt_of_le hbw hws) (by have := hb.size; rwa [put_size, bx_size] at this), fun j hj => ?_⟩
    exact bxp_far hp1 (by omega) ((f0.cell (p := ⟨p1, o1 + j, none⟩) hbw).trans (hrw j hj)) hb
  have hrs2 : ∀ (q : Bool) (d : Int) (s : Value) (W' : World), Below (put B q d (bx X s W)).heap.size (put B q d (bx X s W)) W' → RS .i64 W' (some ⟨p2, o2, none⟩) b.length c2 b := fun q d s W' hb => by
    refine ⟨FR2.out.len, FR2.out.cap, FR2.out.top, FR2.out.nil_, fun h0 => ?_⟩
    obtain ⟨b', o', e, hbw, hrw⟩ := HR2.out.at_ h0
    cases e
    refine ⟨p2, o2, rfl, Nat.lt_of_lt_of_le (Nat.lt_of_lt_of_le hbw hws) (by have := hb.size; rwa [put_size, bx_size] at this), fun j hj => ?_⟩
    exact bxp_far hp2 (by omega) ((f0.cell (p := ⟨p2, o2 + j, none⟩) hbw).trans (hrw j hj)) hb
  have HS1 := Lib.hid hrs1
  have HS2 := Lib.hid hrs2
  clear g0 g1 g2 g3 g11 g22 g33 G4 hb0 hX hrs1 hrs2
  go_wp2_with fail
  go_loopg [9] R (fun g s9 wr => ∃ (r : Nat) (A' : Option Addr) (cp : Nat), r ≤ R ∧ R ≤ g + r ∧ s9 = .int .i64 r ∧ OwnI W wr (.slice A' (r * C) cp) (mapN (gR a b K C) i (r * C)).1 ∧ Below (put B (mapN (gR a b K C) i (r * C)).2 (c + 2 * (K : Int) * (r * C : Nat)) (bx X (.slice A' (r * C) cp) W)).heap.size (put B (mapN (gR a b K C) i (r * C)).2 (c + 2 * (K : Int) * (r * C : Nat)) (bx X (.slice A' (r * C) cp) W)) wr)
  case atStart =>
    refine ⟨0, none, 0, by omega, by omega, rfl, ?_⟩
    have e0 : mapN (gR a b K C) i (0 * C) = ([], i) := by rw [Nat.zero_mul]; rfl
    rw [e0, Nat.zero_mul, bx_self x2]
    simp only [Int.natCast_zero, Int.mul_zero, Int.add_zero]
    rw [rput_self RU.out]
    exact ⟨OwnK.nil _ _ _ _, Below.refl _ _⟩
  case round =>
    obtain ⟨r, A', cp, hk, hg, rfl, hown, hbel⟩ := hrel
    have c0 := bxp_far (by omega) (by omega) f1 hbel
    have c1' := bxp_far (by omega) (by omega) f2 hbel
    have c2' := bxp_far (by omega) (by omega) f3 hbel
    by_cases hlt : r < R
    · generalize hL0 : mapN (gR a b K C) i (r * C) = P0 at hown hbel
      obtain ⟨L0, q0⟩ := P0
      have HL0 := Lib.hid hL0
      have hwr : W.heap.size ≤ wr.heap.size := by have := hbel.size; rwa [put_size, bx_size] at this
      have hrow := (r7Row (HS1.out _ _ _ _ hbel) hR hK HZA.out hlt).mono (fun e w' ⟨A3, c3, he, ho, hb⟩ => (⟨A3, c3, he, (ho.ms (B := B) (Nat.lt_of_lt_of_le hBW hwr)).sl (by rw [(rowL_len HZA.out hlt).1]; omega), hown.keep hb, hbel.trans (hb.mono hbel.size),
        fun b o e => by have h9 := own_at ho (g := b) (by rw [e]; rfl); exact ⟨by omega, h9.2⟩, fun g b o e hgl => by have h9 := own_at ho (g := b) (by rw [e]; rfl); have h8 := own_at hown hgl; omega⟩ :
        ∃ (A3 : Option Addr) (c3 : Nat), e = Ending.returned (.tuple #[.slice A3 K c3, .int .i64 0]) ∧ SL w' B (.slice A3 K c3) (rowL a K r) ∧ OwnI W w' (.slice A' (r * C) cp) L0 ∧ Below (put B q0 (c + 2 * (K : Int) * (r * C : Nat)) (bx X (.slice A' (r * C) cp) W)).heap.size (put B q0 (c + 2 * (K : Int) * (r * C : Nat)) (bx X (.slice A' (r * C) cp) W)) w' ∧
          (∀ (b o : Nat), A3 = some (⟨b, o, none⟩ : Addr) → b ≠ X ∧ b < w'.heap.size) ∧ ∀ (g b o : Nat), A3 = some (⟨b, o, none⟩ : Addr) → (Value.slice A' (r * C) cp).ownBlock = some g → g ≠ b))
      have HROW := Lib.hid hrow
      clear hrow hown hbel hL0
      go_upto_region 9 with (go_at_call 32; refine HROW.out.mono ?_; rintro e wi ⟨A3, c3, rfl, hsl, ho3, hb3, hax, hdis⟩)
      have HAX := Lib.hid hax
      have HI := Lib.hid (And.intro hsl (And.intro ho3 (And.intro hb3 hdis)))
      clear c0 c1' c2' HROW hax hsl ho3 hb3 hdis
      go_loopg [12] C (fun g s12 wr => ∃ (k : Nat) (A' : Option Addr) (cp : Nat), k ≤ C ∧ C ≤ g + k ∧ s12 = .int .i64 k ∧ OwnI W wr (.slice A' (r * C + k) cp) (mapN (gR a b K C) i (r * C + k)).1 ∧ Below (put B (mapN (gR a b K C) i (r * C + k)).2 (c + 2 * (K : Int) * (r * C + k : Nat)) (bx X (.slice A' (r * C + k) cp) W)).heap.size (put B (mapN (gR a b K C) i (r * C + k)).2 (c + 2 * (K : Int) * (r * C + k : Nat)) (bx X (.slice A' (r * C + k) cp) W)) wr ∧ SL wr B (.slice A3 K c3) (rowL a K r) ∧ wi.heap.size ≤ wr.heap.size ∧ ∀ g b o, A3 = some ⟨b, o, none⟩ → (Value.slice A' (r * C + k) cp).ownBlock = some g → g ≠ b)
      case atStart =>
        refine ⟨0, A', cp, by omega, by omega, rfl, ?_⟩
        rw [Nat.add_zero, HL0.out]
        obtain ⟨hsl, ho3, hb3, hdis⟩ := HI.out
        exact ⟨ho3, hb3, hsl, Nat.le_refl _, hdis⟩
      case round =>
        clear HI HL0
        obtain ⟨k, A', cp, hkk, hgg, rfl, hown, hbel, hsl, hwi, hdis⟩ := hrel
        have c0 := bxp_far (by omega) (by omega) f1 hbel
        have e0 := bxp_far (by omega) (by omega) f11 hbel
        have e1 := bxp_far (by omega) (by omega) f22 hbel
        have e2 := bxp_far (by omega) (by omega) f33 hbel
        by_cases hlt2 : k < C
        · have hrC : r * C + C ≤ 144 := by
            have h9 : (r + 1) * C ≤ 12 * 12 := Nat.mul_le_mul (Nat.le_trans hlt hR.2) hC.2
            rw [Nat.succ_mul] at h9
            exact h9
          have hn144 : r * C + k ≤ 144 := Nat.le_trans (Nat.add_le_add_left (Nat.le_of_lt hlt2) _) hrC
          have hbd := cnt_bd K (r * C + k) hK.2 hn144
          have hcn := cnt_next K (r * C + k)
          have hml := mapN_len (gR a b K C) i (r * C + k)
          have hnx : mapN (gR a b K C) i (r * C + k + 1) = ((mapN (gR a b K C) i (r * C + k)).1 ++ [(gR a b K C (mapN (gR a b K C) i (r * C + k)).2 (r * C + k)).1], (gR a b K C (mapN (gR a b K C) i (r * C + k)).2 (r * C + k)).2) := rfl
          rw [gR_at a b K C r k hlt2] at hnx
          have HN1 : r * C + (k + 1) = r * C + k + 1 := rfl
          have HNK := Lib.hid HN1
          clear HN1 hrC
          generalize mapN (gR a b K C) i (r * C + k) = P at hown hbel hnx hml
          obtain ⟨L, f⟩ := P
          simp only at hown hbel hnx hml
          generalize 2 * (K : Int) * ((r * C + k : Nat) : Int) = cq at *
          generalize hnn : r * C + k = n at *
          have HNN := Lib.hid hnn
          have hl1 := (rowL_len HZA.out hlt).1
          have hl2 := colL_len K C k b
          have hWr : B < wr.heap.size := Nat.lt_of_lt_of_le hBW (by have := hbel.size; rwa [put_size, bx_size] at this)
          have hcol := (r7column (HS2.out _ _ _ _ hbel) hK hC HZB.out hlt2).mono (fun e w' ⟨A4, c4, he, ho, hb⟩ => (⟨A4, c4, he, (ho.ms (B := B) hWr).sl (by rw [hl2]; omega), hsl.keep hb, hown.keep hb, hbel.trans (hb.mono hbel.size), Nat.le_trans hwi hb.size⟩ :
            ∃ (A4 : Option Addr) (c4 : Nat), e = Ending.returned (.slice A4 K c4) ∧ SL w' B (.slice A4 K c4) (colL K C k b) ∧ SL w' B (.slice A3 K c3) (rowL a K r) ∧ OwnI W w' (.slice A' n cp) L ∧ Below (put B f (c + cq) (bx X (.slice A' n cp) W)).heap.size (put B f (c + cq) (bx X (.slice A' n cp) W)) w' ∧ wi.heap.size ≤ w'.heap.size))
          have hdot : ∀ w2 vc, SL w2 B vc (colL K C k b) → SL w2 B (.slice A3 K c3) (rowL a K r) → OwnI W w2 (.slice A' n cp) L → Below (put B f (c + cq) (bx X (.slice A' n cp) W)).heap.size (put B f (c + cq) (bx X (.slice A' n cp) W)) w2 → wi.heap.size ≤ w2.heap.size →
              Calls Try.prog 48 #[UP B, .slice A3 K c3, vc] w2 fun e w' => e = .returned (.tuple #[.int .i64 (runD (0, f) (rowL a K r) (colL K C k b) K).1, .int .i64 0]) ∧ SL w' B (.slice A3 K c3) (rowL a K r) ∧ OwnI W w' (.slice A' n cp) L ∧
                Below (put B (runD (0, f) (rowL a K r) (colL K C k b) K).2 (c + cq + 2 * (K : Int)) (bx X (.slice A' n cp) W)).heap.size (put B (runD (0, f) (rowL a K r) (colL K C k b) K).2 (c + cq + 2 * (K : Int)) (bx X (.slice A' n cp) W)) w' ∧ wi.heap.size ≤ w'.heap.size := fun w2 vc s1 s2 o2 b2 z2 => by
            have hd := r4Dot (((RU.out.bx hXB (.slice A' n cp)).put f (c + cq)).keep b2) _ _ _ _ (hia.row K r) (colL_in hib K C k) s2 s1 (by rw [hl1, hl2]) (by rw [hl1]; omega)
            rw [hl1] at hd
            refine hd.mono ?_
            rintro e w' ⟨rfl, hb⟩
            exact ⟨rfl, (s2.put _ _).keep hb, (ownK_put o2 hBW _ _).keep hb, next_put b2 (Below.refl _ _) hb, Nat.le_trans z2 (by have := hb.size; rwa [put_size] at this)⟩
          generalize runD (0, f) (rowL a K r) (colL K C k b) K = y at *
          obtain ⟨y1, y2⟩ := y
          simp only at hnx hdot
          have HDOT := Lib.hid hdot
          have HCOL := Lib.hid hcol
          have HNX := Lib.hid hnx
          have HCN := Lib.hid hcn
          have HML := Lib.hid hml
          have HDIS := Lib.hid hdis
          have hLl : L.length ≤ 1000000 := by omega
          clear hdot hcol hnx hcn hml hown hbel hsl hnn hl1 hl2 hdis
          go_wp2_with (first | (go_at_call 49; refine HCOL.out.mono ?_; rintro e w2 ⟨A4, c4, rfl, s1, s2, o2', b2, z2⟩) | (go_at_call 48; refine (HDOT.out _ _ s1 s2 o2' b2 z2).mono ?_; rintro e w3 ⟨rfl, s3, o3, b3, z3⟩; have d3 := bxp_cell hXB x2 b3) | (at_builtin; refine append_w2 (y := y1) (by rfl) _ _ (by rfl) (put B y2 (c + cq + 2 * (K : Int)) (bx X (.slice A' n cp) W)) (by rfl) (by rfl) ?_ ((o3.base (by rw [put_size, bx_size]; exact Nat.le_refl _)).keep ?_) ?_ ?_ ?_; (focus ((first | ((repeat (first | assumption | exact Below.refl _ _ | with_reducible refine past_t _ ?_ | with_reducible refine below_a _ ?_ | with_reducible refine Below.drew ?_ | with_reducible refine below_d _ ?_ | (with_reducible refine Below.setCell ?_ (by (show _ ≤ _; repeat (first | exact Nat.le_refl _ | assumption | (omega; done) | with_reducible exact le_past (Nat.le_refl _) | with_reducible refine le_past ?_ | with_reducible refine le_al ?_ | with_reducible refine le_set ?_ | with_reducible refine le_p1 ?_))) _))); done) | assumption | omega | (simp; done) | (simp [go_sem]; done) | (simp; omega) | (simp [go_sem, *]; done)); done)); (focus ((first | ((repeat (first | assumption | exact Below.refl _ _ | with_reducible refine past_t _ ?_ | with_reducible refine below_a _ ?_ | with_reducible refine Below.drew ?_ | with_reducible refine below_d _ ?_ | (with_reducible refine Below.setCell ?_ (by (show _ ≤ _; repeat (first | exact Nat.le_refl _ | assumption | (omega; done) | with_reducible exact le_past (Nat.le_refl _) | with_reducible refine le_past ?_ | with_reducible refine le_al ?_ | with_reducible refine le_set ?_ | with_reducible refine le_p1 ?_))) _))); done) | assumption | omega | (simp; done) | (simp [go_sem]; done) | (simp; omega) | (simp [go_sem, *]; done)); done)); (focus ((first | ((repeat (first | assumption | exact Below.refl _ _ | with_reducible refine past_t _ ?_ | with_reducible refine below_a _ ?_ | with_reducible refine Below.drew ?_ | with_reducible refine below_d _ ?_ | (with_reducible refine Below.setCell ?_ (by (show _ ≤ _; repeat (first | exact Nat.le_refl _ | assumption | (omega; done) | with_reducible exact le_past (Nat.le_refl _) | with_reducible refine le_past ?_ | with_reducible refine le_al ?_ | with_reducible refine le_set ?_ | with_reducible refine le_p1 ?_))) _))); done) | assumption | omega | (simp; done) | (simp [go_sem]; done) | (simp; omega) | (simp [go_sem, *]; done)); done)); (focus ((first | ((repeat (first | assumption | exact Below.refl _ _ | with_reducible refine past_t _ ?_ | with_reducible refine below_a _ ?_ | with_reducible refine Below.drew ?_ | with_reducible refine below_d _ ?_ | (with_reducible refine Below.setCell ?_ (by (show _ ≤ _; repeat (first | exact Nat.le_refl _ | assumption | (omega; done) | with_reducible exact le_past (Nat.le_refl _) | with_reducible refine le_past ?_ | with_reducible refine le_al ?_ | with_reducible refine le_set ?_ | with_reducible refine le_p1 ?_))) _))); done) | assumption | omega | (simp; done) | (simp [go_sem]; done) | (simp; omega) | (simp [go_sem, *]; done)); done)); intro A5 c5 w4 ho4 hb4 hg4 hd4; have HG := Lib.hid (And.intro hg4 hd4); clear hg4 hd4; have j3 := bxp_cell hXB x2 hb4; have j4 := bxp_mark x2 xf hb4))
          go_roundg (C - (k + 1))
          case measure => omega
          case rel =>
            have hml := HML.out
            obtain ⟨hg4, hd4⟩ := HG.out
            have ax := HAX.out
            have s4 := sl_grown (s3.keep ((Below.refl _ _).alloc (Nat.le_refl _) _)) hg4 (fun b o e h9 => HDIS.out _ b o e h9 rfl)
            refine ⟨k + 1, A5, c5, by omega, by omega, by go_num, ?_⟩
            rw [HNK.out, HNX.out, HCN.out, ← hml, ← Int.add_assoc]
            rw [← hml] at hb4
            refine ⟨own_set (ho4.base (U := W) (by rw [put_size, bx_size]; exact Nat.le_refl _)) hXW _, bxp_next hXB hb4, sl_set s4 (fun b o e => (ax b o e).1) _, ?_, fun g b o e hgl h9 => ?_⟩
            · have := hg4.size
              simp only [World.size_alloc] at this
              simp only [World.setCell, Array.size_modify]
              omega
            · rcases hd4 g hgl with h8 | h8
              · exact HDIS.out g b o e h8 h9
              · have := (ax b o e).2
                simp only [World.size_alloc] at h8
                omega
        · obtain rfl : k = C := by omega
          have HF := Lib.hid (And.intro hown hbel)
          clear hown hbel hsl hdis
          go_wp2_with fail
          go_roundg (R - (r + 1))
          case measure => omega
          case rel =>
            refine ⟨r + 1, A', cp, by omega, by omega, by go_num, ?_⟩
            rw [Nat.succ_mul]
            exact HF.out
    · obtain rfl : r = R := by omega
      have d0 : wr.cell? ⟨X, 0, none⟩ = some (.int .i64 r) := (hbel.cell (p := ⟨X, 0, none⟩) (by rw [put_size, bx_size]; exact hXW)).trans ((put_cell _ _ _ _ _ hXB).trans ((World.cell?_setCell_other _ _ _ _ (by simp)).trans x0))
      have d1 : wr.cell? ⟨X, 1, none⟩ = some (.int .i64 C) := (hbel.cell (p := ⟨X, 1, none⟩) (by rw [put_size, bx_size]; exact hXW)).trans ((put_cell _ _ _ _ _ hXB).trans ((World.cell?_setCell_other _ _ _ _ (by simp)).trans x1))
      have d2 := bxp_cell hXB x2 hbel
      generalize hP : mapN (gR a b K C) i (r * C) = P at *
      obtain ⟨L, f⟩ := P
      have HP := Lib.hid hP
      clear hP
      generalize hcc : c + 2 * (K : Int) * ((r * C : Nat) : Int) = cc at *
      have hq := ((f4.out.far (b := X) (by omega) (.slice A' (r * C) cp)).put (B := B) (by omega) f cc).keep hbel
      have hT : Below w.heap.size (put B f cc w) wr := by
        have e1 : Below w.heap.size w (bx X (.slice A' (r * C) cp) W) := f0.setCell (by show w.heap.size ≤ X; omega) _
        exact (below_put e1 B f cc).trans (hbel.mono (by rw [put_size, bx_size]; exact hws))
      have q0 := hq.cell 0
      have q1 := hq.cell 1
      have q2 := hq.cell 2
      have q3 := hq.mark 0
      have q4 := hq.mark 1
      have q5 := hq.mark 2
      have q6 := hq.lt
      simp at q0 q1 q2
      have HO := Lib.hid hown
      have HCC := Lib.hid hcc
      clear hown hbel hcc
      go_wp2_with fail
      refine bodyPost_ret (results_bm rfl rfl hq) rfl ?_
      have e9 : c + 2 * (K : Int) * ((r : Int) * (C : Int)) = cc := HCC.out
      rw [HP.out]
      first | rw [e9] | rw [HCC.out]
      exact ⟨_, _, rfl, (own_box HO.out (by omega) _ _ _).base (U := w) hws, below_box hT (by omega) _ _ _⟩
end Go.Proofs.Ytlhadociaekkhaa
/- The document's Apply. -/
namespace Go.Proofs.Ytlhadociaekkhaa
set_option linter.unusedVariables false
set_option maxRecDepth 100000
open Go.RowKit Go.Shelf
theorem r7ApplyNo {B : Nat} {R1 C1 : Int} {A1 A2 : Option Addr} {n1 c1 n2 c2 : Nat} {w : World} (hno : ¬((n2 : Int) = C1 ∧ chk R1 C1 n1 = 0)) :
    Calls Try.prog 19 #[UP B, .agg #[.int .i64 R1, .int .i64 C1, .slice A1 n1 c1], .slice A2 n2 c2] w fun e w' => e = .returned (.tuple #[.slice none 0 0, .int .i64 3]) ∧ Below w.heap.size w w' := by
  have k1 := fun W => r7Check R1 C1 A1 n1 c1 W
  rcases chk_or R1 C1 n1 with h1 | h1
  · have h3 : ¬ C1 = (n2 : Int) := fun x => hno ⟨x.symm, h1⟩
    rw [h1] at k1
    have e3 : (C1 != (n2 : Int)) = true := by simpa using h3
    clear hno h1
    go_enter Try.func19, Try.ntmps19
    go_wp2_with (first | (go_at_call 33; first | (with_reducible refine Calls_past2 (k1 _) (fun z => ?_)) | (with_reducible refine Calls_past (k1 _) (fun z => ?_))))
    go_ret2
    exact ⟨rfl, by (repeat (first | assumption | exact Below.refl _ _ | with_reducible refine past_t _ ?_ | with_reducible refine below_a _ ?_ | with_reducible refine Below.drew ?_ | with_reducible refine below_d _ ?_ | (with_reducible refine Below.setCell ?_ (by (show _ ≤ _; repeat (first | exact Nat.le_refl _ | assumption | (omega; done) | with_reducible exact le_past (Nat.le_refl _) | with_reducible refine le_past ?_ | with_reducible refine le_al ?_ | with_reducible refine le_set ?_ | with_reducible refine le_p1 ?_))) _)))⟩
  · rw [h1] at k1
    clear hno h1
    go_enter Try.func19, Try.ntmps19
    go_wp2_with (first | (go_at_call 33; first | (with_reducible refine Calls_past2 (k1 _) (fun z => ?_)) | (with_reducible refine Calls_past (k1 _) (fun z => ?_))))
    go_ret2
    exact ⟨rfl, by (repeat (first | assumption | exact Below.refl _ _ | with_reducible refine past_t _ ?_ | with_reducible refine below_a _ ?_ | with_reducible refine Below.drew ?_ | with_reducible refine below_d _ ?_ | (with_reducible refine Below.setCell ?_ (by (show _ ≤ _; repeat (first | exact Nat.le_refl _ | assumption | (omega; done) | with_reducible exact le_past (Nat.le_refl _) | with_reducible refine le_past ?_ | with_reducible refine le_al ?_ | with_reducible refine le_set ?_ | with_reducible refine le_p1 ?_))) _)))⟩
set_option maxHeartbeats 4000000 in
theorem r7Apply {B R C : Nat} {i : Bool} {c : Int} {v1 v2 : Value} {a x : List Int} {w : World} (h : RA B i c w) (hc : 0 ≤ c ∧ c ≤ 4611686018427380000)
    (h1 : MS w B v1 a) (h2 : SL w B v2 x) (hR : 1 ≤ R ∧ R ≤ 12) (hC : 1 ≤ C ∧ C ≤ 12) (hza : a.length = R * C) (hzx : x.length = C) (hia : AllI a) (hix : AllI x) :
    Calls Try.prog 19 #[UP B, .agg #[.int .i64 R, .int .i64 C, v1], v2] w fun e w' =>
      ∃ A cap, e = .returned (.tuple #[.slice A R cap, .int .i64 0]) ∧ OwnI w w' (.slice A R cap) (mapN (gA a x C) i R).1 ∧ Below w.heap.size (put B (mapN (gA a x C) i R).2 (c + 2 * (C : Int) * (R : Nat)) w) w' := by
  have hck1 : chk R C a.length = 0 := by unfold chk; rw [if_pos ⟨by omega, by omega, by rw [hza]; simp⟩]
  have hBl := h.lt
  have H := Lib.hid h
  obtain ⟨A1, c1, rfl, hr1, hn1⟩ := h1
  obtain ⟨p1, o1, rfl, hw1, _⟩ := hr1.at_ (Nat.lt_of_lt_of_le Nat.zero_lt_one (Nat.le_trans (Nat.mul_le_mul hR.1 hC.1) (Nat.le_of_eq hza.symm)))
  have hp1 := hn1 p1 o1 rfl
  have H2 := Lib.hid h2
  obtain ⟨A2, c2, rfl, hl2, hr2⟩ := h2
  have HZA := Lib.hid hza
  have HZX := Lib.hid hzx
  have HAR := Lib.hid hr1
  have hbe : ((C : Int) != (x.length : Int)) = false := by rw [hzx]; simp
  have k1 := fun W => r7Check R C (some ⟨p1, o1, none⟩) a.length c1 W
  rw [hck1] at k1
  clear h hr1 hn1 hr2 hck1 hza hzx
  go_enter Try.func19, Try.ntmps19
  go_upto_region 4 with ((go_at_call 33; first | (with_reducible refine Calls_past2 (k1 _) (fun z => ?_)) | (with_reducible refine Calls_past (k1 _) (fun z => ?_))))
  refine wp_gen (fun W hW => ?_)
  have f0 : Below w.heap.size w W := by rw [hW]; (repeat (first | assumption | exact Below.refl _ _ | with_reducible refine past_t _ ?_ | with_reducible refine below_a _ ?_ | with_reducible refine Below.drew ?_ | with_reducible refine below_d _ ?_ | (with_reducible refine Below.setCell ?_ (by (show _ ≤ _; repeat (first | exact Nat.le_refl _ | assumption | (omega; done) | with_reducible exact le_past (Nat.le_refl _) | with_reducible refine le_past ?_ | with_reducible refine le_al ?_ | with_reducible refine le_set ?_ | with_reducible refine le_p1 ?_))) _)))
  have f1 : W.cell? ⟨w.heap.size, 0, none⟩ = some (.int .i64 R) := by rw [hW]; (first | (simp [go_sem]; done) | (simp [go_sem, ↓IntWalk.iteOmega]; done))
  have f2 : W.cell? ⟨w.heap.size, 1, none⟩ = some (.int .i64 C) := by rw [hW]; (first | (simp [go_sem]; done) | (simp [go_sem, ↓IntWalk.iteOmega]; done))
  have f3 : W.cell? ⟨w.heap.size, 2, none⟩ = some (.slice (some ⟨p1, o1, none⟩) a.length c1) := by rw [hW]; (first | (simp [go_sem]; done) | (simp [go_sem, ↓IntWalk.iteOmega]; done))
  have hBW : B < W.heap.size := Nat.lt_of_lt_of_le hBl f0.size
  have hws := f0.size
  clear hW
  have HU := Lib.hid (H.out.keep f0)
  have HS := Lib.hid (HAR.out.keep f0)
  have HX := Lib.hid (H2.out.keep f0)
  have hpl := rput_self HU.out
  have HPL := Lib.hid hpl
  clear hpl k1
  go_wp2_with fail
  go_loopg [8, 9] R (fun g s8 s9 wr => ∃ (k : Nat) (A' : Option Addr) (cp : Nat), k ≤ R ∧ R ≤ g + k ∧ s9 = .int .i64 k ∧ s8 = .slice A' k cp ∧ OwnI W wr (.slice A' k cp) (mapN (gA a x C) i k).1 ∧ Below (put B (mapN (gA a x C) i k).2 (c + 2 * (C : Int) * (k : Nat)) W).heap.size (put B (mapN (gA a x C) i k).2 (c + 2 * (C : Int) * (k : Nat)) W) wr)
  case atStart =>
    refine ⟨0, none, 0, by omega, by omega, rfl, rfl, OwnK.nil _ _ _ _, ?_⟩
    have e0 : mapN (gA a x C) i 0 = ([], i) := rfl
    rw [e0]
    simp only [Int.natCast_zero, Int.mul_zero, Int.add_zero]
    rw [HPL.out]
    exact Below.refl _ _
  case round =>
    obtain ⟨k, A', cp, hk, hg, rfl, rfl, hown, hbel⟩ := hrel
    have hml := mapN_len (gA a x C) i k
    have hnx : mapN (gA a x C) i (k + 1) = ((mapN (gA a x C) i k).1 ++ [(gA a x C (mapN (gA a x C) i k).2 k).1], (gA a x C (mapN (gA a x C) i k).2 k).2) := rfl
    obtain ⟨P, hP⟩ : ∃ P, mapN (gA a x C) i k = P := ⟨_, rfl⟩
    rw [hP] at hown hbel hnx hml
    obtain ⟨L, f⟩ := P
    simp only at hown hbel hnx hml
    have hcc := cnt_bd C k hC.2 (by omega)
    have hcn := cnt_next C k
    generalize hcq : 2 * (C : Int) * (k : Int) = cq at *
    have HCQ := Lib.hid hcq
    clear hcq
    have c0 := cell_keep ((put_cell B f (c + cq) W ⟨w.heap.size, 0, none⟩ (by show w.heap.size ≠ B; omega)).trans f1) hbel
    by_cases hlt : k < R
    · have c1' := cell_keep ((put_cell B f (c + cq) W ⟨w.heap.size, 1, none⟩ (by show w.heap.size ≠ B; omega)).trans f2) hbel
      have c2' := cell_keep ((put_cell B f (c + cq) W ⟨w.heap.size, 2, none⟩ (by show w.heap.size ≠ B; omega)).trans f3) hbel
      have hl1 := (rowL_len HZA.out hlt).1
      have hWr : B < wr.heap.size := Nat.lt_of_lt_of_le hBW (by have := hbel.size; rwa [put_size] at this)
      have hrow := (r7Row ((HS.out.putN (fun b o e => by cases e; exact hp1) f (c + cq)).keep hbel) hR hC HZA.out hlt).mono (fun e w' ⟨A3, c3, he, ho, hb⟩ => (⟨A3, c3, he, (ho.ms (B := B) hWr).sl (by rw [hl1]; omega), hown.keep hb, hbel.trans (hb.mono hbel.size)⟩ :
        ∃ (A3 : Option Addr) (c3 : Nat), e = Ending.returned (.tuple #[.slice A3 C c3, .int .i64 0]) ∧ SL w' B (.slice A3 C c3) (rowL a C k) ∧ OwnI W w' (.slice A' k cp) L ∧ Below (put B f (c + cq) W).heap.size (put B f (c + cq) W) w'))
      have hdot : ∀ w2 vc, SL w2 B vc (rowL a C k) → OwnI W w2 (.slice A' k cp) L → Below (put B f (c + cq) W).heap.size (put B f (c + cq) W) w2 →
          Calls Try.prog 48 #[UP B, vc, .slice A2 x.length c2] w2 fun e w' => e = .returned (.tuple #[.int .i64 (runD (0, f) (rowL a C k) x C).1, .int .i64 0]) ∧ OwnI W w' (.slice A' k cp) L ∧
            Below (put B (runD (0, f) (rowL a C k) x C).2 (c + cq + 2 * (C : Int)) W).heap.size (put B (runD (0, f) (rowL a C k) x C).2 (c + cq + 2 * (C : Int)) W) w' := fun w2 vc s1 o2 b2 => by
        have hd := r4Dot ((HU.out.put f (c + cq)).keep b2) _ _ _ _ (hia.row C k) hix s1 ((HX.out.put f (c + cq)).keep b2) (by rw [hl1, HZX.out]) (by rw [hl1]; omega)
        rw [hl1] at hd
        refine hd.mono ?_
        rintro e w' ⟨rfl, hb⟩
        exact ⟨rfl, (ownK_put o2 hBW _ _).keep hb, next_put b2 (Below.refl _ _) hb⟩
      have hgx : gA a x C f k = runD (0, f) (rowL a C k) x C := rfl
      rw [hgx] at hnx
      generalize runD (0, f) (rowL a C k) x C = y at *
      obtain ⟨y1, y2⟩ := y
      simp only at hnx hdot
      have HDOT := Lib.hid hdot
      have HROW := Lib.hid hrow
      have HNX := Lib.hid hnx
      have HCN := Lib.hid hcn
      have hLl : L.length ≤ 1000000 := by omega
      have HML := Lib.hid hml
      clear hdot hrow hnx hcn hml hown hbel hP hgx hl1
      go_wp2_with (first | (go_at_call 32; refine HROW.out.mono ?_; rintro e wi ⟨A3, c3, rfl, s1, o1', b1⟩) | (go_at_call 48; refine (HDOT.out _ _ s1 o1' b1).mono ?_; rintro e w2 ⟨rfl, ho2, hb2⟩) | (at_builtin; refine append_i (by rfl) _ _ (by rfl) (put B y2 (c + cq + 2 * (C : Int)) W) (by rfl) (by rfl) ?_ ((ho2.base (by rw [put_size]; exact Nat.le_refl _)).keep ?_) (RS.lit .i64 _ [y1] _ _ ?_ 1 ?_ ?_ 1 ?_ _ ?_) ?_ ?_; (focus ((first | ((repeat (first | assumption | exact Below.refl _ _ | with_reducible refine past_t _ ?_ | with_reducible refine below_a _ ?_ | with_reducible refine Below.drew ?_ | with_reducible refine below_d _ ?_ | (with_reducible refine Below.setCell ?_ (by (show _ ≤ _; repeat (first | exact Nat.le_refl _ | assumption | (omega; done) | with_reducible exact le_past (Nat.le_refl _) | with_reducible refine le_past ?_ | with_reducible refine le_al ?_ | with_reducible refine le_set ?_ | with_reducible refine le_p1 ?_))) _))); done) | (with_reducible rfl; done) | omega | (rfl; done) | (simp; done) | (simp [go_sem]; done) | (simp; omega) | (simp [go_sem]; omega)); done)); (focus ((first | ((repeat (first | assumption | exact Below.refl _ _ | with_reducible refine past_t _ ?_ | with_reducible refine below_a _ ?_ | with_reducible refine Below.drew ?_ | with_reducible refine below_d _ ?_ | (with_reducible refine Below.setCell ?_ (by (show _ ≤ _; repeat (first | exact Nat.le_refl _ | assumption | (omega; done) | with_reducible exact le_past (Nat.le_refl _) | with_reducible refine le_past ?_ | with_reducible refine le_al ?_ | with_reducible refine le_set ?_ | with_reducible refine le_p1 ?_))) _))); done) | (with_reducible rfl; done) | omega | (rfl; done) | (simp; done) | (simp [go_sem]; done) | (simp; omega) | (simp [go_sem]; omega)); done)); (focus ((first | ((repeat (first | assumption | exact Below.refl _ _ | with_reducible refine past_t _ ?_ | with_reducible refine below_a _ ?_ | with_reducible refine Below.drew ?_ | with_reducible refine below_d _ ?_ | (with_reducible refine Below.setCell ?_ (by (show _ ≤ _; repeat (first | exact Nat.le_refl _ | assumption | (omega; done) | with_reducible exact le_past (Nat.le_refl _) | with_reducible refine le_past ?_ | with_reducible refine le_al ?_ | with_reducible refine le_set ?_ | with_reducible refine le_p1 ?_))) _))); done) | (with_reducible rfl; done) | omega | (rfl; done) | (simp; done) | (simp [go_sem]; done) | (simp; omega) | (simp [go_sem]; omega)); done)); (focus ((first | ((repeat (first | assumption | exact Below.refl _ _ | with_reducible refine past_t _ ?_ | with_reducible refine below_a _ ?_ | with_reducible refine Below.drew ?_ | with_reducible refine below_d _ ?_ | (with_reducible refine Below.setCell ?_ (by (show _ ≤ _; repeat (first | exact Nat.le_refl _ | assumption | (omega; done) | with_reducible exact le_past (Nat.le_refl _) | with_reducible refine le_past ?_ | with_reducible refine le_al ?_ | with_reducible refine le_set ?_ | with_reducible refine le_p1 ?_))) _))); done) | (with_reducible rfl; done) | omega | (rfl; done) | (simp; done) | (simp [go_sem]; done) | (simp; omega) | (simp [go_sem]; omega)); done)); (focus ((first | ((repeat (first | assumption | exact Below.refl _ _ | with_reducible refine past_t _ ?_ | with_reducible refine below_a _ ?_ | with_reducible refine Below.drew ?_ | with_reducible refine below_d _ ?_ | (with_reducible refine Below.setCell ?_ (by (show _ ≤ _; repeat (first | exact Nat.le_refl _ | assumption | (omega; done) | with_reducible exact le_past (Nat.le_refl _) | with_reducible refine le_past ?_ | with_reducible refine le_al ?_ | with_reducible refine le_set ?_ | with_reducible refine le_p1 ?_))) _))); done) | (with_reducible rfl; done) | omega | (rfl; done) | (simp; done) | (simp [go_sem]; done) | (simp; omega) | (simp [go_sem]; omega)); done)); (focus ((first | ((repeat (first | assumption | exact Below.refl _ _ | with_reducible refine past_t _ ?_ | with_reducible refine below_a _ ?_ | with_reducible refine Below.drew ?_ | with_reducible refine below_d _ ?_ | (with_reducible refine Below.setCell ?_ (by (show _ ≤ _; repeat (first | exact Nat.le_refl _ | assumption | (omega; done) | with_reducible exact le_past (Nat.le_refl _) | with_reducible refine le_past ?_ | with_reducible refine le_al ?_ | with_reducible refine le_set ?_ | with_reducible refine le_p1 ?_))) _))); done) | (with_reducible rfl; done) | omega | (rfl; done) | (simp; done) | (simp [go_sem]; done) | (simp; omega) | (simp [go_sem]; omega)); done)); (focus ((first | ((repeat (first | assumption | exact Below.refl _ _ | with_reducible refine past_t _ ?_ | with_reducible refine below_a _ ?_ | with_reducible refine Below.drew ?_ | with_reducible refine below_d _ ?_ | (with_reducible refine Below.setCell ?_ (by (show _ ≤ _; repeat (first | exact Nat.le_refl _ | assumption | (omega; done) | with_reducible exact le_past (Nat.le_refl _) | with_reducible refine le_past ?_ | with_reducible refine le_al ?_ | with_reducible refine le_set ?_ | with_reducible refine le_p1 ?_))) _))); done) | (with_reducible rfl; done) | omega | (rfl; done) | (simp; done) | (simp [go_sem]; done) | (simp; omega) | (simp [go_sem]; omega)); done)); (focus ((first | ((repeat (first | assumption | exact Below.refl _ _ | with_reducible refine past_t _ ?_ | with_reducible refine below_a _ ?_ | with_reducible refine Below.drew ?_ | with_reducible refine below_d _ ?_ | (with_reducible refine Below.setCell ?_ (by (show _ ≤ _; repeat (first | exact Nat.le_refl _ | assumption | (omega; done) | with_reducible exact le_past (Nat.le_refl _) | with_reducible refine le_past ?_ | with_reducible refine le_al ?_ | with_reducible refine le_set ?_ | with_reducible refine le_p1 ?_))) _))); done) | (with_reducible rfl; done) | omega | (rfl; done) | (simp; done) | (simp [go_sem]; done) | (simp; omega) | (simp [go_sem]; omega)); done)); intro A3 c3 z3 ho3; (try simp only [List.length_cons, List.length_nil, Nat.zero_add] at ho3 ⊢)))
      go_roundg (R - (k + 1))
      case measure => omega
      case rel =>
        have hml := HML.out
        refine ⟨k + 1, A3, c3, by omega, by omega, by go_num, by rw [hml], ?_, ?_⟩
        · rw [HNX.out]
          have := ho3.base (U := W) (by rw [put_size]; exact Nat.le_refl _)
          rw [hml] at this
          exact this
        · rw [HNX.out, HCN.out, ← Int.add_assoc]
          exact past_below _ _
    · obtain rfl : k = R := by omega
      have HO := Lib.hid hown
      have HB := Lib.hid hbel
      have HP := Lib.hid hP
      clear hown hbel hP hnx hml hcn
      go_wp2_with fail
      go_ret2
      rw [HP.out]
      refine ⟨_, _, rfl, HO.out.base (U := w) hws, ?_⟩
      rw [HCQ.out]
      exact (below_put f0 B _ _).trans (HB.out.mono (by rw [put_size]; exact hws))
end Go.Proofs.Ytlhadociaekkhaa
/- The document's Diag and Eye. -/
namespace Go.Proofs.Ytlhadociaekkhaa
set_option linter.unusedVariables false
set_option maxRecDepth 100000
open Go.RowKit Go.Shelf
theorem make_zero (n : Nat) (hn : n ≤ 144) : ∃ MK : Array Value, MK.toList = List.replicate n (.int .i64 0) ∧ ∀ w : World, (Instr.makeSlice 22 (.int .i64 n) (.int .i64 n)).run Try.prog w = .ok (.slice (some ⟨w.heap.size, 0, none⟩) n n) (w.alloc (.cells MK 3)) := by
  obtain ⟨i0, hi, hz0, hz1, hz2⟩ := info_parts infoI
  refine ⟨madeCells (Value.int .i64 0).cells (n * i0.size), ?_, fun w => by have := run_make (P := Try.prog) w 22 3 i0 _ Try.underlying22 hi hz0 .i64 .i64 n n (by omega) (by omega) (by rw [hz2]; omega) (by omega); simpa using this⟩
  rw [hz1, Nat.mul_one]
  exact toList_madeCells_one _ _
/-- The first j of the diagonal. -/
def diagK (zs : List Int) (j x : Nat) : Int := if x / zs.length = x % zs.length ∧ x / zs.length < j then zs.getD (x / zs.length) 0 else 0
theorem diagK_next (zs : List Int) (j y : Nat) (hy : y ≠ j * zs.length + j) : diagK zs (j + 1) y = diagK zs j y := by
  unfold diagK
  by_cases h1 : y / zs.length = y % zs.length
  · by_cases h2 : y / zs.length = j
    · exact absurd (by have := Nat.div_add_mod y zs.length; rw [← h1, h2, Nat.mul_comm] at this; omega) hy
    · by_cases h3 : y / zs.length < j
      · rw [if_pos ⟨h1, by omega⟩, if_pos ⟨h1, h3⟩]
      · rw [if_neg (fun h => by have := h.2; omega), if_neg (fun h => h3 h.2)]
  · rw [if_neg (fun h => h1 h.1), if_neg (fun h => h1 h.1)]
theorem diagK_all (zs : List Int) (x : Nat) (hx : x < zs.length * zs.length) : diagK zs zs.length x = if x / zs.length = x % zs.length then zs.getD (x / zs.length) 0 else 0 := by
  have : x / zs.length < zs.length := Nat.div_lt_of_lt_mul hx
  unfold diagK
  by_cases h1 : x / zs.length = x % zs.length
  · rw [if_pos ⟨h1, this⟩, if_pos h1]
  · rw [if_neg (fun h => h1 h.1), if_neg h1]
theorem diagL_len (zs : List Int) : (diagL zs).length = zs.length * zs.length := by simp [diagL]
theorem own_of_blk {V w : World} {g : Nat} {cs : Array Value} {zs : List Int} (h : Blk w g 3 cs) (hV : V.heap.size ≤ g) (hcs : cs.toList = zs.map (.int .i64)) (hm : zs.length ≤ 1000000) : OwnI V w (.slice (some ⟨g, 0, none⟩) zs.length zs.length) zs := by
  have hl : cs.size = zs.length := by have := congrArg List.length hcs; simpa using this
  refine ⟨by rw [List.length_map, Nat.mul_one], .inr ⟨g, zs.length, cs, rfl, hV, h, Nat.le_refl _, by unfold maxLen; omega, by omega, ?_⟩⟩
  rw [hcs, Nat.mul_one]
  exact List.take_of_length_le (by simp)
/-- A list lies in another block than a box. -/
theorem own_boxat {V w : World} {g n c : Nat} {zs : List Int} (h : OwnI V w (.slice (some ⟨g, 0, none⟩) n c) zs) {B : Nat} (hb : B ≠ g) (x0 x1 x2 : Value) : OwnI V (boxed B x0 x1 x2 w) (.slice (some ⟨g, 0, none⟩) n c) zs := by
  obtain ⟨h0, h1 | ⟨g', cap, cur, h1, hg, hh, h3⟩⟩ := h
  · cases h1.1
  · cases h1
    refine ⟨h0, .inr ⟨g, c, cur, rfl, hg, ?_, h3⟩⟩
    exact (((show Blk w g _ cur from hh).far (Ne.symm hb) _).far (Ne.symm hb) _).far (Ne.symm hb) _
set_option maxHeartbeats 4000000 in
theorem r7Diag {v : Value} {B : Nat} {zs : List Int} {w : World} (hv : MS w B v zs) (hn : 1 ≤ zs.length ∧ zs.length ≤ 12) : Calls Try.prog 29 #[v] w fun e w' =>
    ∃ A cap, e = .returned (.tuple #[.agg #[.int .i64 zs.length, .int .i64 zs.length, .slice A (zs.length * zs.length) cap], .int .i64 0]) ∧ OwnI w w' (.slice A (zs.length * zs.length) cap) (diagL zs) ∧ Below w.heap.size w w' := by
  obtain ⟨A0, c0, rfl, hr, _⟩ := hv
  obtain ⟨p, o, rfl, hpw, hrow⟩ := hr.at_ (by omega)
  have hcap := hr.cap
  have HR := Lib.hid hrow
  have hN : zs.length * zs.length ≤ 144 := Nat.mul_le_mul hn.2 hn.2
  obtain ⟨MK, hMK, hmk⟩ := make_zero (zs.length * zs.length) hN
  have HMK := Lib.hid hMK
  have hmk2 : ∀ w : World, (Instr.makeSlice 22 (.int .i64 ((zs.length : Int) * (zs.length : Int))) (.int .i64 ((zs.length : Int) * (zs.length : Int)))).run Try.prog w = .ok (.slice (some ⟨w.heap.size, 0, none⟩) (zs.length * zs.length) (zs.length * zs.length)) (w.alloc (.cells MK 3)) := fun w => by
    have := hmk w
    rwa [Int.natCast_mul] at this
  clear hr hrow hMK hmk
  go_enter Try.func29, Try.ntmps29
  go_upto_region 5 with fail
  refine wp_gen (fun W hW => ?_)
  have f0 : Below w.heap.size w W := by rw [hW]; (repeat (first | assumption | exact Below.refl _ _ | with_reducible refine past_t _ ?_ | with_reducible refine below_a _ ?_ | with_reducible refine Below.drew ?_ | with_reducible refine below_d _ ?_ | (with_reducible refine Below.setCell ?_ (by (show _ ≤ _; repeat (first | exact Nat.le_refl _ | assumption | (omega; done) | with_reducible exact le_past (Nat.le_refl _) | with_reducible refine le_past ?_ | with_reducible refine le_al ?_ | with_reducible refine le_set ?_ | with_reducible refine le_p1 ?_))) _)))
  have f4 : Blk W w.heap.size 24 #[.int .i64 0, .int .i64 0, .slice none 0 0] := by rw [hW]; exact ((Blk.new w _ _).keep ((Below.refl _ _).alloc (Nat.le_refl _) _)).keep ((Below.refl _ _).alloc (Nat.le_refl _) _)
  have fm : Blk W (w.heap.size + 1) 3 MK := by
    have := Blk.new (w.alloc (.cells #[.int .i64 0, .int .i64 0, .slice none 0 0] 24)) 3 MK
    simp only [World.size_alloc] at this
    rw [hW]
    exact this.keep ((Below.refl _ _).alloc (Nat.le_refl _) _)
  have fx : Blk W (w.heap.size + 1 + 1) 24 #[.int .i64 zs.length, .int .i64 zs.length, .slice (some ⟨w.heap.size + 1, 0, none⟩) (zs.length * zs.length) (zs.length * zs.length)] := by
    have := Blk.new ((w.alloc (.cells #[.int .i64 0, .int .i64 0, .slice none 0 0] 24)).alloc (.cells MK 3)) 24 #[.int .i64 zs.length, .int .i64 zs.length, .slice (some ⟨w.heap.size + 1, 0, none⟩) (zs.length * zs.length) (zs.length * zs.length)]
    simp only [World.size_alloc] at this
    rw [hW]
    exact this
  clear hW hmk2
  have HF := Lib.hid (And.intro f0 (And.intro f4 (And.intro fm fx)))
  clear f0 f4 fm fx
  have HQ := Lib.hid hN
  go_wp2_with fail
  go_loopg [6] zs.length (fun g s6 wr => ∃ (j : Nat) (cs : Array Value), j ≤ zs.length ∧ zs.length ≤ g + j ∧ s6 = .int .i64 j ∧ cs.toList = (List.range (zs.length * zs.length)).map (fun x => Value.int .i64 (diagK zs j x)) ∧ Below w.heap.size w wr ∧
    Blk wr w.heap.size 24 #[.int .i64 0, .int .i64 0, .slice none 0 0] ∧ Blk wr (w.heap.size + 1) 3 cs ∧ Blk wr (w.heap.size + 1 + 1) 24 #[.int .i64 zs.length, .int .i64 zs.length, .slice (some ⟨w.heap.size + 1, 0, none⟩) (zs.length * zs.length) (zs.length * zs.length)])
  case atStart =>
    obtain ⟨f0, f4, fm, fx⟩ := HF.out
    refine ⟨0, MK, by omega, by omega, rfl, ?_, f0, f4, fm, fx⟩
    rw [HMK.out]
    apply List.ext_getElem
    · simp
    · intro x h1 h2
      simp [diagK]
  case round =>
    obtain ⟨j, cs, hk, hg, rfl, hcs, hb, hq, hc, hx⟩ := hrel
    have hsz : cs.size = zs.length * zs.length := by have := congrArg List.length hcs; simpa using this
    by_cases hlt : j < zs.length
    · have hle : j * zs.length + j < zs.length * zs.length := by
        have h9 : (j + 1) * zs.length ≤ zs.length * zs.length := Nat.mul_le_mul_right _ hlt
        rw [Nat.succ_mul] at h9
        omega
      have hel : wr.cell? ⟨p, o + j, none⟩ = some (.int .i64 (zs.getD j 0)) := (hb.cell (p := ⟨p, o + j, none⟩) hpw).trans (HR.out j hlt)
      obtain ⟨u, hu⟩ : ∃ u, wr.cell? ⟨w.heap.size + 1, j * zs.length + j, none⟩ = some u := ⟨_, (hc.cell _).trans (Array.getElem?_eq_getElem (by rw [hsz]; exact hle))⟩
      have hm := hc.mark (j * zs.length + j)
      have hx2 := hx.cell 2
      have hbs := hb.size
      have hlt3 := hc.lt
      have hlt4 := hx.lt
      have hwv : Value.int .i64 (wrap64 ((j : Int) * (zs.length : Int))) = Value.int .i64 ((j * zs.length : Nat) : Int) := by rw [wrap_mul _ _ (Nat.le_trans (Nat.le_add_right _ j) (Nat.le_trans (Nat.le_of_lt hle) (Nat.le_trans HQ.out (by decide))))]
      have hN9 : zs.length * zs.length ≤ 144 := HQ.out
      have HC := Lib.hid (And.intro hcs (And.intro hb (And.intro hq (And.intro hc hx))))
      have HJ := Lib.hid (show j * zs.length + j < zs.length * zs.length from hle)
      have hlen : 0 < zs.length := by omega
      have e1 : (j * zs.length + j) / zs.length = j := by rw [Nat.mul_comm, Nat.mul_add_div hlen, Nat.div_eq_of_lt hlt, Nat.add_zero]
      have e2 : (j * zs.length + j) % zs.length = j := by rw [Nat.mul_comm, Nat.mul_add_mod, Nat.mod_eq_of_lt hlt]
      have HD := Lib.hid (And.intro e1 e2)
      clear hcs hb hq hc hx hN e1 e2
      generalize hxx : zs.getD j 0 = x at *
      have HXX := Lib.hid hxx
      clear hxx
      generalize hnn : zs.length * zs.length = N at *
      generalize hpp : j * zs.length = q at *
      have HNN := Lib.hid hnn
      have HPP := Lib.hid hpp
      have HSZ := Lib.hid hsz
      clear hnn hpp hsz
      go_wp2_with fail
      (first | refine region_past2_tail 12 (by kernel_rfl) (by kernel_rfl) ?_ | refine region_past_tail 12 (by kernel_rfl) (by kernel_rfl) ?_); simp only [List.take_succ_cons, List.take_zero, List.drop_succ_cons, List.drop_zero]
      repeat (go_big_quiet_step (fail))
      refine wpQuiet_nil ?_; rintro _ ⟨y, rfl⟩
      go_wp2_with fail
      go_roundg (zs.length - (j + 1))
      case measure => omega
      case rel =>
        obtain ⟨hcs, hb, hq, hc, hx⟩ := HC.out
        refine ⟨j + 1, cs.setIfInBounds (q + j) (.int .i64 x), by omega, by omega, by go_num, ?_, (hb.setCell (by show w.heap.size ≤ w.heap.size + 1; omega) _).trans ((past_below _ _).mono (by simp only [World.setCell, Array.size_modify]; exact hbs)), (hq.far (by omega) _).keep (past_below _ _), (hc.set _ _).keep (past_below _ _), (hx.far (by omega) _).keep (past_below _ _)⟩
        obtain ⟨e1, e2⟩ := HD.out
        rw [Array.toList_setIfInBounds, hcs]
        apply List.ext_getElem
        · simp
        · intro y h1 h2
          simp only [List.getElem_set, List.getElem_map, List.getElem_range]
          by_cases hy : q + j = y
          · rw [if_pos hy, ← hy]
            unfold diagK
            rw [e1, e2, if_pos ⟨rfl, by omega⟩, HXX.out]
          · rw [if_neg hy, diagK_next zs j y (by rw [HPP.out]; exact fun h => hy h.symm)]
    · obtain rfl : j = zs.length := by omega
      have hO := own_of_blk (V := w) (zs := diagL zs) hc (by omega) (by rw [hcs]; unfold diagL; rw [List.map_map]; exact List.map_congr_left (fun x hx9 => by rw [diagK_all zs x (List.mem_range.1 hx9)]; rfl)) (by rw [diagL_len]; omega)
      rw [diagL_len] at hO
      have hx0 := hx.cell 0
      have hx1 := hx.cell 1
      have hx2 := hx.cell 2
      have q0 := hq.cell 0
      have q1 := hq.cell 1
      have q2 := hq.cell 2
      have q3 := hq.mark 0
      have q4 := hq.mark 1
      have q5 := hq.mark 2
      have q6 := hq.lt
      simp at q0 q1 q2 hx0 hx1 hx2
      have HO := Lib.hid hO
      have HH := Lib.hid (And.intro hb (And.intro hc hq))
      clear hO hcs hc hx hsz hb hq
      go_wp2_with fail
      obtain ⟨hb, hc, hq⟩ := HH.out
      have hlt5 := hc.lt
      exact bodyPost_ret (results_bm rfl rfl hq) rfl ⟨_, _, rfl, own_boxat HO.out (by omega) _ _ _, below_box hb (Nat.le_refl _) _ _ _⟩
set_option maxHeartbeats 2000000 in
theorem r7Eye {n : Nat} {w : World} (hn : 1 ≤ n ∧ n ≤ 12) : Calls Try.prog 27 #[.int .i64 n] w fun e w' =>
    ∃ A cap, e = .returned (.tuple #[.agg #[.int .i64 n, .int .i64 n, .slice A (n * n) cap], .int .i64 0]) ∧ OwnI w w' (.slice A (n * n) cap) (diagL (oneL n)) ∧ Below w.heap.size w w' := by
  have hol : (oneL n).length = n := by simp [oneL]
  obtain ⟨MK, hMK, hmk⟩ := make_zero n (by omega)
  have HMK := Lib.hid hMK
  clear hMK
  go_enter Try.func27, Try.ntmps27
  go_wp2_with fail
  go_loopg [5] n (fun g s5 wr => ∃ (k : Nat) (cs : Array Value), k ≤ n ∧ n ≤ g + k ∧ s5 = .int .i64 k ∧ cs.size = n ∧ cs.toList.take k = List.replicate k (.int .i64 4294967296) ∧ Below w.heap.size w wr ∧ Blk wr w.heap.size 24 #[.int .i64 0, .int .i64 0, .slice none 0 0] ∧ Blk wr (w.heap.size + 1) 3 cs)
  case atStart =>
    refine ⟨0, MK, by omega, by omega, rfl, by have := congrArg List.length HMK.out; simpa using this, rfl, by (repeat (first | assumption | exact Below.refl _ _ | with_reducible refine past_t _ ?_ | with_reducible refine below_a _ ?_ | with_reducible refine Below.drew ?_ | with_reducible refine below_d _ ?_ | (with_reducible refine Below.setCell ?_ (by (show _ ≤ _; repeat (first | exact Nat.le_refl _ | assumption | (omega; done) | with_reducible exact le_past (Nat.le_refl _) | with_reducible refine le_past ?_ | with_reducible refine le_al ?_ | with_reducible refine le_set ?_ | with_reducible refine le_p1 ?_))) _))), ?_, ?_⟩
    · exact (Blk.new w _ _).keep ((Below.refl _ _).alloc (Nat.le_refl _) _)
    · have := Blk.new (w.alloc (.cells #[.int .i64 0, .int .i64 0, .slice none 0 0] 24)) 3 MK
      simpa using this
  case round =>
    obtain ⟨k, cs, hk, hg, rfl, hcs, htk, hb, hq, hc⟩ := hrel
    by_cases hlt : k < n
    · obtain ⟨u, hu⟩ : ∃ u, wr.cell? ⟨w.heap.size + 1, k, none⟩ = some u := ⟨_, (hc.cell k).trans (Array.getElem?_eq_getElem (by omega))⟩
      have hm := hc.mark k
      have HC := Lib.hid (And.intro hq hc)
      have HT := Lib.hid (And.intro hcs htk)
      clear hq hc hcs htk
      go_wp2_with fail
      go_roundg (n - (k + 1))
      case measure => omega
      case rel =>
        obtain ⟨hq, hc⟩ := HC.out
        obtain ⟨hcs, htk⟩ := HT.out
        refine ⟨k + 1, cs.setIfInBounds k (.int .i64 4294967296), by omega, by omega, by go_num, by simp [hcs], ?_, hb.setCell (by show w.heap.size ≤ w.heap.size + 1; omega) _, hq.far (by omega) _, hc.set _ _⟩
        rw [Array.toList_setIfInBounds]
        have hlc : k < cs.toList.length := by simpa [hcs] using hlt
        rw [List.take_succ_eq_append_getElem (by simpa using hlc), List.take_set_of_le (Nat.le_refl _), htk, List.replicate_succ']
        simp
    · obtain rfl : k = n := by omega
      have hO := own_of_blk (V := w) (zs := oneL k) hc (by omega) (by rw [List.take_of_length_le (by simp [hcs])] at htk; rw [htk]; simp [oneL]) (by rw [hol]; omega)
      have hms : MS wr w.heap.size (.slice (some ⟨w.heap.size + 1, 0, none⟩) k k) (oneL k) := by
        have hr := hO.rs
        refine ⟨_, k, by rw [hol], by rw [hol] at hr ⊢; exact hr, fun b o e => by cases e; omega⟩
      have HD := Lib.hid (r7Diag hms (by rw [hol]; exact hn))
      have HQ := Lib.hid hq
      have hlt2 := hc.lt
      clear hc hcs htk hq hO hms
      go_wp2_with (first | (go_at_call 29; refine HD.out.mono ?_; rintro e w' ⟨A, cap, rfl, ho, hb2⟩; rw [hol] at ho; have hq := HQ.out.keep hb2; have q0 := hq.cell 0; have q1 := hq.cell 1; have q2 := hq.cell 2; have q3 := hq.mark 0; have q4 := hq.mark 1; have q5 := hq.mark 2; have q6 := hq.lt; simp at q0 q1 q2))
      have hsz := hb.size
      have hB0 := below_box (hb.trans (hb2.mono (by omega))) (B := w.heap.size) (by omega) (.int .i64 k) (.int .i64 k) (.slice A (k * k) cap)
      have ho0 := (own_box ho (B := w.heap.size) (by omega) (.int .i64 k) (.int .i64 k) (.slice A (k * k) cap)).base (U := w) hsz
      refine bodyPost_ret (results_bm rfl rfl hq) rfl ⟨_, _, rfl, ho0, hB0⟩
end Go.Proofs.Ytlhadociaekkhaa
/- What matrices come to, refused or not: package mat and the document alike. -/
namespace Go.Proofs.Ytlhadociaekkhaa
set_option linter.unusedVariables false
set_option maxRecDepth 100000
open Go.RowKit Go.Shelf
abbrev MP (w : World) (P : Int × Int × List Int × Int) (e : Ending) (w' : World) : Prop :=
  ∃ A n c, e = .returned (.tuple #[.agg #[.int .i64 P.1, .int .i64 P.2.1, .slice A n c], .int .i64 P.2.2.2]) ∧ OwnI w w' (.slice A n c) P.2.2.1 ∧ Below w.heap.size w w'
abbrev VP (w : World) (P : List Int × Int) (e : Ending) (w' : World) : Prop :=
  ∃ A n c, e = .returned (.tuple #[.slice A n c, .int .i64 P.2]) ∧ OwnI w w' (.slice A n c) P.1 ∧ Below w.heap.size w w'
/-- .. by a unit at block B: the matrix, the error; what the unit holds then. -/
abbrev MPU (B : Nat) (w : World) (P : (Int × Int × List Int × Int) × Bool × Int) (e : Ending) (w' : World) : Prop :=
  ∃ A n c, e = .returned (.tuple #[.agg #[.int .i64 P.1.1, .int .i64 P.1.2.1, .slice A n c], .int .i64 P.1.2.2.2]) ∧ OwnI w w' (.slice A n c) P.1.2.2.1 ∧ Below w.heap.size (put B P.2.1 P.2.2 w) w'
abbrev VPU (B : Nat) (w : World) (P : (List Int × Int) × Bool × Int) (e : Ending) (w' : World) : Prop :=
  ∃ A n c, e = .returned (.tuple #[.slice A n c, .int .i64 P.1.2]) ∧ OwnI w w' (.slice A n c) P.1.1 ∧ Below w.heap.size (put B P.2.1 P.2.2 w) w'
def eyeR (n : Int) : Int × Int × List Int × Int := if 1 ≤ n ∧ n ≤ 12 then (n, n, diagL (oneL n.toNat), 0) else (0, 0, [], 3)
def diagR (L : List Int) : Int × Int × List Int × Int := if 1 ≤ L.length ∧ L.length ≤ 12 then (L.length, L.length, diagL L, 0) else (0, 0, [], 3)
def turnR (R C : Int) (L : List Int) : Int × Int × List Int × Int := if chk R C L.length = 0 then (C, R, turnL R.toNat C.toNat L, 0) else (0, 0, [], 3)
def rowR (R C : Int) (L : List Int) (i : Int) : List Int × Int := if chk R C L.length = 0 ∧ 0 ≤ i ∧ i < R then (rowL L C.toNat i.toNat, 0) else ([], 3)
def pairM (g : Bool → Int → Int → Int × Bool) (cost : Int) (R1 C1 : Int) (L1 : List Int) (R2 C2 : Int) (L2 : List Int) (i : Bool) (c : Int) : (Int × Int × List Int × Int) × Bool × Int :=
  if R1 = R2 ∧ C1 = C2 ∧ chk R1 C1 L1.length = 0 ∧ chk R2 C2 L2.length = 0 then ((R1, C1, (mapG g i L1 L2 L1.length).1, 0), (mapG g i L1 L2 L1.length).2, c + cost * L1.length) else ((0, 0, [], 3), i, c)
def mulM (R1 C1 : Int) (L1 : List Int) (R2 C2 : Int) (L2 : List Int) (i : Bool) (c : Int) : (Int × Int × List Int × Int) × Bool × Int :=
  if C1 = R2 ∧ chk R1 C1 L1.length = 0 ∧ chk R2 C2 L2.length = 0 then ((R1, C2, (mapN (gR L1 L2 C1.toNat C2.toNat) i (R1.toNat * C2.toNat)).1, 0), (mapN (gR L1 L2 C1.toNat C2.toNat) i (R1.toNat * C2.toNat)).2, c + 2 * C1 * (R1.toNat * C2.toNat : Nat)) else ((0, 0, [], 3), i, c)
def appM (R1 C1 : Int) (L1 : List Int) (x : List Int) (i : Bool) (c : Int) : (List Int × Int) × Bool × Int :=
  if (x.length : Int) = C1 ∧ chk R1 C1 L1.length = 0 then (((mapN (gA L1 x C1.toNat) i R1.toNat).1, 0), (mapN (gA L1 x C1.toNat) i R1.toNat).2, c + 2 * C1 * (R1.toNat : Nat)) else (([], 3), i, c)
theorem chk_yes {R C : Int} {n : Nat} (h : chk R C n = 0) : ∃ R' C' : Nat, R = R' ∧ C = C' ∧ (1 ≤ R' ∧ R' ≤ 12) ∧ (1 ≤ C' ∧ C' ≤ 12) ∧ n = R' * C' := by
  unfold chk at h
  split at h
  · rename_i h1
    obtain ⟨R', rfl⟩ := Int.eq_ofNat_of_zero_le (show 0 ≤ R by omega)
    obtain ⟨C', rfl⟩ := Int.eq_ofNat_of_zero_le (show 0 ≤ C by omega)
    refine ⟨R', C', rfl, rfl, by omega, by omega, ?_⟩
    have := h1.2.2
    exact_mod_cast this
  · cases h
theorem chk_no {R C : Int} {n : Nat} (h : ¬ chk R C n = 0) : chk R C n = 3 := by rcases chk_or R C n with h1 | h1; exact absurd h1 h; exact h1
theorem rs_ms {w : World} {A : Option Addr} {n c : Nat} {L : List Int} (h : RS .i64 w A n c L) (h0 : 0 < L.length) : MS w w.heap.size (.slice A n c) L := by
  obtain rfl := h.len
  obtain ⟨b, o, rfl, hb, _⟩ := h.at_ h0
  exact ⟨_, c, rfl, h, fun b' o' e => by cases e; omega⟩
theorem rs_msB {w : World} {B : Nat} {A : Option Addr} {n c : Nat} {L : List Int} (h : RS .i64 w A n c L) (hf : ∀ b o, A = some ⟨b, o, none⟩ → b ≠ B) : MS w B (.slice A n c) L := by
  obtain rfl := h.len
  exact ⟨_, c, rfl, h, hf⟩
theorem mp_no {w : World} {e : Ending} {w' : World} (h : e = .returned (.tuple #[M0, .int .i64 3]) ∧ Below w.heap.size w w') : MP w (0, 0, [], 3) e w' := ⟨none, 0, 0, h.1, OwnK.nil _ _ _ _, h.2⟩
theorem vp_no {w : World} {e : Ending} {w' : World} (h : e = .returned (.tuple #[.slice none 0 0, .int .i64 3]) ∧ Below w.heap.size w w') : VP w ([], 3) e w' := ⟨none, 0, 0, h.1, OwnK.nil _ _ _ _, h.2⟩
theorem xEye (n : Int) (w : World) : Calls Try.prog 26 #[.int .i64 n] w (MP w (eyeR n)) := by
  unfold eyeR
  by_cases h : 1 ≤ n ∧ n ≤ 12
  · rw [if_pos h]
    obtain ⟨k, rfl⟩ := Int.eq_ofNat_of_zero_le (show 0 ≤ n by omega)
    exact (mEye (by omega)).mono fun e w' ⟨A, cap, h1, h2, h3⟩ => ⟨A, _, cap, h1, h2, h3⟩
  · rw [if_neg h]
    exact (mEyeNo h).mono fun e w' => mp_no
theorem yEye (n : Int) (w : World) : Calls Try.prog 27 #[.int .i64 n] w (MP w (eyeR n)) := by
  unfold eyeR
  by_cases h : 1 ≤ n ∧ n ≤ 12
  · rw [if_pos h]
    obtain ⟨k, rfl⟩ := Int.eq_ofNat_of_zero_le (show 0 ≤ n by omega)
    exact (r7Eye (by omega)).mono fun e w' ⟨A, cap, h1, h2, h3⟩ => ⟨A, _, cap, h1, h2, h3⟩
  · rw [if_neg h]
    exact (r7EyeNo h).mono fun e w' => mp_no
theorem xDiag {A : Option Addr} {n c : Nat} {L : List Int} {w : World} (hr : RS .i64 w A n c L) : Calls Try.prog 28 #[.slice A n c] w (MP w (diagR L)) := by
  have hl := hr.len
  unfold diagR
  by_cases h : 1 ≤ L.length ∧ L.length ≤ 12
  · rw [if_pos h]
    exact (mDiag ((rs_ms hr (by omega)).sl (by omega)) h).mono fun e w' ⟨A, cap, h1, h2, h3⟩ => ⟨A, _, cap, h1, h2, h3⟩
  · rw [if_neg h]
    exact (mDiagNo (by omega)).mono fun e w' => mp_no
theorem yDiag {A : Option Addr} {n c : Nat} {L : List Int} {w : World} (hr : RS .i64 w A n c L) : Calls Try.prog 29 #[.slice A n c] w (MP w (diagR L)) := by
  have hl := hr.len
  have h1 := hr.cap
  have h2 := hr.top
  unfold diagR
  by_cases h : 1 ≤ L.length ∧ L.length ≤ 12
  · rw [if_pos h]
    exact (r7Diag (rs_ms hr (by omega)) h).mono fun e w' ⟨A, cap, h1, h2, h3⟩ => ⟨A, _, cap, h1, h2, h3⟩
  · rw [if_neg h]
    exact (r7DiagNo (by omega) (by omega)).mono fun e w' => mp_no
theorem xTurn {R C : Int} {A : Option Addr} {n c : Nat} {L : List Int} {w : World} (hr : RS .i64 w A n c L) : Calls Try.prog 24 #[.agg #[.int .i64 R, .int .i64 C, .slice A n c]] w (MP w (turnR R C L)) := by
  obtain rfl := hr.len
  unfold turnR
  by_cases h : chk R C L.length = 0
  · rw [if_pos h]
    obtain ⟨R', C', rfl, rfl, hR, hC, hz⟩ := chk_yes h
    have hN : R' * C' ≤ 12 * 12 := Nat.mul_le_mul hR.2 hC.2
    have hN1 : 1 * 1 ≤ R' * C' := Nat.mul_le_mul hR.1 hC.1
    exact (mTurn ((rs_ms hr (by rw [hz]; exact hN1)).sl (by rw [hz]; exact Nat.le_trans hN (by decide))) hR hC hz).mono fun e w' ⟨A, cap, h1, h2, h3⟩ => ⟨A, _, cap, h1, h2, h3⟩
  · rw [if_neg h]
    exact (mTurnNo (chk_no h)).mono fun e w' => mp_no
theorem yTurn {R C : Int} {A : Option Addr} {n c : Nat} {L : List Int} {w : World} (hr : RS .i64 w A n c L) : Calls Try.prog 30 #[.agg #[.int .i64 R, .int .i64 C, .slice A n c]] w (MP w (turnR R C L)) := by
  obtain rfl := hr.len
  unfold turnR
  by_cases h : chk R C L.length = 0
  · rw [if_pos h]
    obtain ⟨R', C', rfl, rfl, hR, hC, hz⟩ := chk_yes h
    exact (r7Turn hr hR hC hz).mono fun e w' ⟨A, cap, h1, h2, h3⟩ => ⟨A, _, cap, h1, h2, h3⟩
  · rw [if_neg h]
    exact (r7TurnNo (chk_no h)).mono fun e w' => mp_no
theorem xRow {R C i : Int} {A : Option Addr} {n c : Nat} {L : List Int} {w : World} (hr : RS .i64 w A n c L) : Calls Try.prog 31 #[.agg #[.int .i64 R, .int .i64 C, .slice A n c], .int .i64 i] w (VP w (rowR R C L i)) := by
  obtain rfl := hr.len
  unfold rowR
  by_cases h : chk R C L.length = 0 ∧ 0 ≤ i ∧ i < R
  · rw [if_pos h]
    obtain ⟨R', C', rfl, rfl, hR, hC, hz⟩ := chk_yes h.1
    obtain ⟨k, rfl⟩ := Int.eq_ofNat_of_zero_le h.2.1
    exact (mRow hr hR hC hz (by omega)).mono fun e w' ⟨A, cap, h1, h2, h3⟩ => ⟨A, _, cap, h1, h2, h3⟩
  · rw [if_neg h]
    exact (mRowNo h).mono fun e w' => vp_no
theorem yRow {R C i : Int} {A : Option Addr} {n c : Nat} {L : List Int} {w : World} (hr : RS .i64 w A n c L) : Calls Try.prog 32 #[.agg #[.int .i64 R, .int .i64 C, .slice A n c], .int .i64 i] w (VP w (rowR R C L i)) := by
  obtain rfl := hr.len
  unfold rowR
  by_cases h : chk R C L.length = 0 ∧ 0 ≤ i ∧ i < R
  · rw [if_pos h]
    obtain ⟨R', C', rfl, rfl, hR, hC, hz⟩ := chk_yes h.1
    obtain ⟨k, rfl⟩ := Int.eq_ofNat_of_zero_le h.2.1
    exact (r7Row hr hR hC hz (by omega)).mono fun e w' ⟨A, cap, h1, h2, h3⟩ => ⟨A, _, cap, h1, h2, h3⟩
  · rw [if_neg h]
    exact (r7RowNo h).mono fun e w' => vp_no
theorem mpu_no {B : Nat} {i : Bool} {c : Int} {w : World} (hp : put B i c w = w) {e : Ending} {w' : World} (h : e = .returned (.tuple #[M0, .int .i64 3]) ∧ Below w.heap.size w w') : MPU B w ((0, 0, [], 3), i, c) e w' :=
  ⟨none, 0, 0, h.1, OwnK.nil _ _ _ _, by show Below _ (put B i c w) w'; rw [hp]; exact h.2⟩
theorem vpu_no {B : Nat} {i : Bool} {c : Int} {w : World} (hp : put B i c w = w) {e : Ending} {w' : World} (h : e = .returned (.tuple #[.slice none 0 0, .int .i64 3]) ∧ Below w.heap.size w w') : VPU B w (([], 3), i, c) e w' :=
  ⟨none, 0, 0, h.1, OwnK.nil _ _ _ _, by show Below _ (put B i c w) w'; rw [hp]; exact h.2⟩
theorem cols (a b : List Int) (K C : Nat) (hC : 0 < C) (j : Bool) (x : Nat) : gM a (turnL K C b) K C j x = gR a b K C j x := by
  have hx : x % C < C := Nat.mod_lt _ hC
  have e : rowL (turnL K C b) K (x % C) = colL K C (x % C) b := by
    generalize x % C = k at hx ⊢
    have hle : k * K + K ≤ C * K := by rw [← Nat.succ_mul]; exact Nat.mul_le_mul_right _ hx
    unfold rowL turnL colL
    apply List.ext_getElem
    · simp
      omega
    · intro r h1 h2
      have hr : r < K := by simpa using h2
      simp only [List.getElem_take, List.getElem_drop, List.getElem_map, List.getElem_range]
      rw [Nat.mul_comm k K, Nat.mul_add_mod, Nat.mod_eq_of_lt hr, Nat.mul_add_div (by omega), Nat.div_eq_of_lt hr, Nat.add_zero]
  unfold gM gR
  rw [e]
end Go.Proofs.Ytlhadociaekkhaa
/- The unit's operations on matrices, refused or not (printed by mk_matu2.py). -/
namespace Go.Proofs.Ytlhadociaekkhaa
set_option linter.unusedVariables false
set_option maxRecDepth 100000
open Go.RowKit Go.Shelf
set_option maxHeartbeats 2000000 in
theorem r7SumNo {B : Nat} {R1 C1 R2 C2 : Int} {A1 A2 : Option Addr} {n1 c1 n2 c2 : Nat} {w : World} (hno : ¬(R1 = R2 ∧ C1 = C2 ∧ chk R1 C1 n1 = 0 ∧ chk R2 C2 n2 = 0)) :
    Calls Try.prog 36 #[UP B, .agg #[.int .i64 R1, .int .i64 C1, .slice A1 n1 c1], .agg #[.int .i64 R2, .int .i64 C2, .slice A2 n2 c2]] w fun e w' => e = .returned (.tuple #[M0, .int .i64 3]) ∧ Below w.heap.size w w' := by
  have k1 := fun W => r7alikeN (A1 := A1) (A2 := A2) (c1 := c1) (c2 := c2) (w := W) hno
  clear hno
  go_enter Try.func36, Try.ntmps36
  go_wp2_with ((go_at_call 56; first | (with_reducible refine Calls_past2 (k1 _) (fun z => ?_)) | (with_reducible refine Calls_past (k1 _) (fun z => ?_))))
  refine bodyPost_ret (results_cm (T := 0) (x0 := .int .i64 0) (x1 := .int .i64 0) (x2 := .slice none 0 0) rfl rfl (by (first | (simp [go_sem]; done) | (simp [go_sem, ↓IntWalk.iteOmega]; done))) (by (first | (simp [go_sem]; done) | (simp [go_sem, ↓IntWalk.iteOmega]; done))) (by (first | (simp [go_sem]; done) | (simp [go_sem, ↓IntWalk.iteOmega]; done)))) rfl ?_
  exact ⟨rfl, by (repeat (first | assumption | exact Below.refl _ _ | with_reducible refine past_t _ ?_ | with_reducible refine below_a _ ?_ | with_reducible refine Below.drew ?_ | with_reducible refine below_d _ ?_ | (with_reducible refine Below.setCell ?_ (by (show _ ≤ _; repeat (first | exact Nat.le_refl _ | assumption | (omega; done) | with_reducible exact le_past (Nat.le_refl _) | with_reducible refine le_past ?_ | with_reducible refine le_al ?_ | with_reducible refine le_set ?_ | with_reducible refine le_p1 ?_))) _)))⟩
set_option maxHeartbeats 2000000 in
theorem r7LessNo {B : Nat} {R1 C1 R2 C2 : Int} {A1 A2 : Option Addr} {n1 c1 n2 c2 : Nat} {w : World} (hno : ¬(R1 = R2 ∧ C1 = C2 ∧ chk R1 C1 n1 = 0 ∧ chk R2 C2 n2 = 0)) :
    Calls Try.prog 38 #[UP B, .agg #[.int .i64 R1, .int .i64 C1, .slice A1 n1 c1], .agg #[.int .i64 R2, .int .i64 C2, .slice A2 n2 c2]] w fun e w' => e = .returned (.tuple #[M0, .int .i64 3]) ∧ Below w.heap.size w w' := by
  have k1 := fun W => r7alikeN (A1 := A1) (A2 := A2) (c1 := c1) (c2 := c2) (w := W) hno
  clear hno
  go_enter Try.func38, Try.ntmps38
  go_wp2_with ((go_at_call 56; first | (with_reducible refine Calls_past2 (k1 _) (fun z => ?_)) | (with_reducible refine Calls_past (k1 _) (fun z => ?_))))
  refine bodyPost_ret (results_cm (T := 0) (x0 := .int .i64 0) (x1 := .int .i64 0) (x2 := .slice none 0 0) rfl rfl (by (first | (simp [go_sem]; done) | (simp [go_sem, ↓IntWalk.iteOmega]; done))) (by (first | (simp [go_sem]; done) | (simp [go_sem, ↓IntWalk.iteOmega]; done))) (by (first | (simp [go_sem]; done) | (simp [go_sem, ↓IntWalk.iteOmega]; done)))) rfl ?_
  exact ⟨rfl, by (repeat (first | assumption | exact Below.refl _ _ | with_reducible refine past_t _ ?_ | with_reducible refine below_a _ ?_ | with_reducible refine Below.drew ?_ | with_reducible refine below_d _ ?_ | (with_reducible refine Below.setCell ?_ (by (show _ ≤ _; repeat (first | exact Nat.le_refl _ | assumption | (omega; done) | with_reducible exact le_past (Nat.le_refl _) | with_reducible refine le_past ?_ | with_reducible refine le_al ?_ | with_reducible refine le_set ?_ | with_reducible refine le_p1 ?_))) _)))⟩
set_option maxHeartbeats 2000000 in
theorem r7ScaleNo {B : Nat} {R1 C1 s : Int} {A1 : Option Addr} {n1 c1 : Nat} {w : World} (hno : ¬ chk R1 C1 n1 = 0) :
    Calls Try.prog 40 #[UP B, .agg #[.int .i64 R1, .int .i64 C1, .slice A1 n1 c1], .int .i64 s] w fun e w' => e = .returned (.tuple #[M0, .int .i64 3]) ∧ Below w.heap.size w w' := by
  have k1 := fun W => r7Check R1 C1 A1 n1 c1 W
  rw [chk_no hno] at k1
  clear hno
  go_enter Try.func40, Try.ntmps40
  go_wp2_with ((go_at_call 33; first | (with_reducible refine Calls_past2 (k1 _) (fun z => ?_)) | (with_reducible refine Calls_past (k1 _) (fun z => ?_))))
  refine bodyPost_ret (results_cm (T := 0) (x0 := .int .i64 0) (x1 := .int .i64 0) (x2 := .slice none 0 0) rfl rfl (by (first | (simp [go_sem]; done) | (simp [go_sem, ↓IntWalk.iteOmega]; done))) (by (first | (simp [go_sem]; done) | (simp [go_sem, ↓IntWalk.iteOmega]; done))) (by (first | (simp [go_sem]; done) | (simp [go_sem, ↓IntWalk.iteOmega]; done)))) rfl ?_
  exact ⟨rfl, by (repeat (first | assumption | exact Below.refl _ _ | with_reducible refine past_t _ ?_ | with_reducible refine below_a _ ?_ | with_reducible refine Below.drew ?_ | with_reducible refine below_d _ ?_ | (with_reducible refine Below.setCell ?_ (by (show _ ≤ _; repeat (first | exact Nat.le_refl _ | assumption | (omega; done) | with_reducible exact le_past (Nat.le_refl _) | with_reducible refine le_past ?_ | with_reducible refine le_al ?_ | with_reducible refine le_set ?_ | with_reducible refine le_p1 ?_))) _)))⟩
theorem xSum {B : Nat} {i : Bool} {c : Int} {w : World} (h : UA B i c w) (hc : 0 ≤ c ∧ c ≤ 1000000) {R1 C1 R2 C2 : Int} {A1 A2 : Option Addr} {n1 c1 n2 c2 : Nat} {L1 L2 : List Int} (h1 : RS .i64 w A1 n1 c1 L1) (f1 : 0 < L1.length → ∀ b o, A1 = some ⟨b, o, none⟩ → b ≠ B) (i1 : AllI L1) (h2 : RS .i64 w A2 n2 c2 L2) (f2 : 0 < L2.length → ∀ b o, A2 = some ⟨b, o, none⟩ → b ≠ B) (i2 : AllI L2) :
    Calls Try.prog 35 #[UP B, .agg #[.int .i64 R1, .int .i64 C1, .slice A1 n1 c1], .agg #[.int .i64 R2, .int .i64 C2, .slice A2 n2 c2]] w (MPU B w (pairM gSum 2 R1 C1 L1 R2 C2 L2 i c)) := by
  obtain rfl := h1.len
  obtain rfl := h2.len
  unfold pairM
  by_cases h0 : R1 = R2 ∧ C1 = C2 ∧ chk R1 C1 L1.length = 0 ∧ chk R2 C2 L2.length = 0
  · rw [if_pos h0]
    obtain ⟨rfl, rfl, k1, k2⟩ := h0
    obtain ⟨R', C', rfl, rfl, hR, hC, hz⟩ := chk_yes k1
    obtain ⟨R2', C2', e1, e2, _, _, hz2⟩ := chk_yes k2
    have e3 : R' = R2' := by omega
    have e4 : C' = C2' := by omega
    subst e3 e4
    have hN : R' * C' ≤ 12 * 12 := Nat.mul_le_mul hR.2 hC.2
    have hp1 : 0 < L1.length := by rw [hz]; exact Nat.mul_pos hR.1 hC.1
    have hp2 : 0 < L2.length := by rw [hz2]; exact Nat.mul_pos hR.1 hC.1
    refine (mSum h ⟨hc.1, by omega⟩ ((rs_msB h1 (f1 hp1)).sl (by rw [hz]; exact Nat.le_trans hN (by decide))) hz i1 ((rs_msB h2 (f2 hp2)).sl (by rw [hz2]; exact Nat.le_trans hN (by decide))) hz2 i2 hR hC).mono fun e w' ⟨A, cap, h1, h2, h3⟩ => ?_
    rw [hz]
    exact ⟨A, _, cap, h1, h2, h3⟩
  · rw [if_neg h0]
    exact (mSumNo h ⟨hc.1, by omega⟩ h0).mono fun e w' => mpu_no (put_self h)
theorem ySum {B : Nat} {i : Bool} {c : Int} {w : World} (h : RA B i c w) (hc : 0 ≤ c ∧ c ≤ 1000000) {R1 C1 R2 C2 : Int} {A1 A2 : Option Addr} {n1 c1 n2 c2 : Nat} {L1 L2 : List Int} (h1 : RS .i64 w A1 n1 c1 L1) (f1 : 0 < L1.length → ∀ b o, A1 = some ⟨b, o, none⟩ → b ≠ B) (i1 : AllI L1) (h2 : RS .i64 w A2 n2 c2 L2) (f2 : 0 < L2.length → ∀ b o, A2 = some ⟨b, o, none⟩ → b ≠ B) (i2 : AllI L2) :
    Calls Try.prog 36 #[UP B, .agg #[.int .i64 R1, .int .i64 C1, .slice A1 n1 c1], .agg #[.int .i64 R2, .int .i64 C2, .slice A2 n2 c2]] w (MPU B w (pairM gSum 2 R1 C1 L1 R2 C2 L2 i c)) := by
  obtain rfl := h1.len
  obtain rfl := h2.len
  unfold pairM
  by_cases h0 : R1 = R2 ∧ C1 = C2 ∧ chk R1 C1 L1.length = 0 ∧ chk R2 C2 L2.length = 0
  · rw [if_pos h0]
    obtain ⟨rfl, rfl, k1, k2⟩ := h0
    obtain ⟨R', C', rfl, rfl, hR, hC, hz⟩ := chk_yes k1
    obtain ⟨R2', C2', e1, e2, _, _, hz2⟩ := chk_yes k2
    have e3 : R' = R2' := by omega
    have e4 : C' = C2' := by omega
    subst e3 e4
    have hN : R' * C' ≤ 12 * 12 := Nat.mul_le_mul hR.2 hC.2
    have hp1 : 0 < L1.length := by rw [hz]; exact Nat.mul_pos hR.1 hC.1
    have hp2 : 0 < L2.length := by rw [hz2]; exact Nat.mul_pos hR.1 hC.1
    refine (r7Sum h ⟨hc.1, by omega⟩ (rs_msB h1 (f1 hp1)) (rs_msB h2 (f2 hp2)) hR hC hz hz2 i1 i2).mono fun e w' ⟨A, cap, h1, h2, h3⟩ => ?_
    rw [hz]
    exact ⟨A, _, cap, h1, h2, h3⟩
  · rw [if_neg h0]
    exact (r7SumNo h0).mono fun e w' => mpu_no (rput_self h)
theorem xLess {B : Nat} {i : Bool} {c : Int} {w : World} (h : UA B i c w) (hc : 0 ≤ c ∧ c ≤ 1000000) {R1 C1 R2 C2 : Int} {A1 A2 : Option Addr} {n1 c1 n2 c2 : Nat} {L1 L2 : List Int} (h1 : RS .i64 w A1 n1 c1 L1) (f1 : 0 < L1.length → ∀ b o, A1 = some ⟨b, o, none⟩ → b ≠ B) (i1 : AllI L1) (h2 : RS .i64 w A2 n2 c2 L2) (f2 : 0 < L2.length → ∀ b o, A2 = some ⟨b, o, none⟩ → b ≠ B) (i2 : AllI L2) :
    Calls Try.prog 37 #[UP B, .agg #[.int .i64 R1, .int .i64 C1, .slice A1 n1 c1], .agg #[.int .i64 R2, .int .i64 C2, .slice A2 n2 c2]] w (MPU B w (pairM gLess 1 R1 C1 L1 R2 C2 L2 i c)) := by
  obtain rfl := h1.len
  obtain rfl := h2.len
  unfold pairM
  by_cases h0 : R1 = R2 ∧ C1 = C2 ∧ chk R1 C1 L1.length = 0 ∧ chk R2 C2 L2.length = 0
  · rw [if_pos h0]
    obtain ⟨rfl, rfl, k1, k2⟩ := h0
    obtain ⟨R', C', rfl, rfl, hR, hC, hz⟩ := chk_yes k1
    obtain ⟨R2', C2', e1, e2, _, _, hz2⟩ := chk_yes k2
    have e3 : R' = R2' := by omega
    have e4 : C' = C2' := by omega
    subst e3 e4
    have hN : R' * C' ≤ 12 * 12 := Nat.mul_le_mul hR.2 hC.2
    have hp1 : 0 < L1.length := by rw [hz]; exact Nat.mul_pos hR.1 hC.1
    have hp2 : 0 < L2.length := by rw [hz2]; exact Nat.mul_pos hR.1 hC.1
    refine (mLess h ⟨hc.1, by omega⟩ ((rs_msB h1 (f1 hp1)).sl (by rw [hz]; exact Nat.le_trans hN (by decide))) hz i1 ((rs_msB h2 (f2 hp2)).sl (by rw [hz2]; exact Nat.le_trans hN (by decide))) hz2 i2 hR hC).mono fun e w' ⟨A, cap, h1, h2, h3⟩ => ?_
    rw [hz]
    exact ⟨A, _, cap, h1, h2, h3⟩
  · rw [if_neg h0]
    exact (mLessNo h ⟨hc.1, by omega⟩ h0).mono fun e w' => mpu_no (put_self h)
theorem yLess {B : Nat} {i : Bool} {c : Int} {w : World} (h : RA B i c w) (hc : 0 ≤ c ∧ c ≤ 1000000) {R1 C1 R2 C2 : Int} {A1 A2 : Option Addr} {n1 c1 n2 c2 : Nat} {L1 L2 : List Int} (h1 : RS .i64 w A1 n1 c1 L1) (f1 : 0 < L1.length → ∀ b o, A1 = some ⟨b, o, none⟩ → b ≠ B) (i1 : AllI L1) (h2 : RS .i64 w A2 n2 c2 L2) (f2 : 0 < L2.length → ∀ b o, A2 = some ⟨b, o, none⟩ → b ≠ B) (i2 : AllI L2) :
    Calls Try.prog 38 #[UP B, .agg #[.int .i64 R1, .int .i64 C1, .slice A1 n1 c1], .agg #[.int .i64 R2, .int .i64 C2, .slice A2 n2 c2]] w (MPU B w (pairM gLess 1 R1 C1 L1 R2 C2 L2 i c)) := by
  obtain rfl := h1.len
  obtain rfl := h2.len
  unfold pairM
  by_cases h0 : R1 = R2 ∧ C1 = C2 ∧ chk R1 C1 L1.length = 0 ∧ chk R2 C2 L2.length = 0
  · rw [if_pos h0]
    obtain ⟨rfl, rfl, k1, k2⟩ := h0
    obtain ⟨R', C', rfl, rfl, hR, hC, hz⟩ := chk_yes k1
    obtain ⟨R2', C2', e1, e2, _, _, hz2⟩ := chk_yes k2
    have e3 : R' = R2' := by omega
    have e4 : C' = C2' := by omega
    subst e3 e4
    have hN : R' * C' ≤ 12 * 12 := Nat.mul_le_mul hR.2 hC.2
    have hp1 : 0 < L1.length := by rw [hz]; exact Nat.mul_pos hR.1 hC.1
    have hp2 : 0 < L2.length := by rw [hz2]; exact Nat.mul_pos hR.1 hC.1
    refine (r7Less h ⟨hc.1, by omega⟩ (rs_msB h1 (f1 hp1)) (rs_msB h2 (f2 hp2)) hR hC hz hz2 i1 i2).mono fun e w' ⟨A, cap, h1, h2, h3⟩ => ?_
    rw [hz]
    exact ⟨A, _, cap, h1, h2, h3⟩
  · rw [if_neg h0]
    exact (r7LessNo h0).mono fun e w' => mpu_no (rput_self h)
theorem xScale {B : Nat} {i : Bool} {c : Int} {w : World} (h : UA B i c w) (hc : 0 ≤ c ∧ c ≤ 1000000) {R1 C1 s : Int} {A1 : Option Addr} {n1 c1 : Nat} {L1 : List Int} (h1 : RS .i64 w A1 n1 c1 L1) (f1 : 0 < L1.length → ∀ b o, A1 = some ⟨b, o, none⟩ → b ≠ B) (i1 : AllI L1) (hs : InI s) :
    Calls Try.prog 39 #[UP B, .agg #[.int .i64 R1, .int .i64 C1, .slice A1 n1 c1], .int .i64 s] w (MPU B w (pairM (gScaleS s) 2 R1 C1 L1 R1 C1 L1 i c)) := by
  obtain rfl := h1.len
  unfold pairM
  by_cases h0 : chk R1 C1 L1.length = 0
  · rw [if_pos ⟨rfl, rfl, h0, h0⟩]
    obtain ⟨R', C', rfl, rfl, hR, hC, hz⟩ := chk_yes h0
    have hN : R' * C' ≤ 12 * 12 := Nat.mul_le_mul hR.2 hC.2
    have hp1 : 0 < L1.length := by rw [hz]; exact Nat.mul_pos hR.1 hC.1
    refine (mScale h ⟨hc.1, by omega⟩ ((rs_msB h1 (f1 hp1)).sl (by rw [hz]; exact Nat.le_trans hN (by decide))) hz i1 hs hR hC).mono fun e w' ⟨A, cap, h1, h2, h3⟩ => ?_
    rw [hz]
    exact ⟨A, _, cap, h1, h2, h3⟩
  · rw [if_neg (fun h9 => h0 h9.2.2.1)]
    exact (mScaleNo h ⟨hc.1, by omega⟩ h0).mono fun e w' => mpu_no (put_self h)
theorem yScale {B : Nat} {i : Bool} {c : Int} {w : World} (h : RA B i c w) (hc : 0 ≤ c ∧ c ≤ 1000000) {R1 C1 s : Int} {A1 : Option Addr} {n1 c1 : Nat} {L1 : List Int} (h1 : RS .i64 w A1 n1 c1 L1) (f1 : 0 < L1.length → ∀ b o, A1 = some ⟨b, o, none⟩ → b ≠ B) (i1 : AllI L1) (hs : InI s) :
    Calls Try.prog 40 #[UP B, .agg #[.int .i64 R1, .int .i64 C1, .slice A1 n1 c1], .int .i64 s] w (MPU B w (pairM (gScaleS s) 2 R1 C1 L1 R1 C1 L1 i c)) := by
  obtain rfl := h1.len
  unfold pairM
  by_cases h0 : chk R1 C1 L1.length = 0
  · rw [if_pos ⟨rfl, rfl, h0, h0⟩]
    obtain ⟨R', C', rfl, rfl, hR, hC, hz⟩ := chk_yes h0
    have hN : R' * C' ≤ 12 * 12 := Nat.mul_le_mul hR.2 hC.2
    have hp1 : 0 < L1.length := by rw [hz]; exact Nat.mul_pos hR.1 hC.1
    refine (r7Scale h ⟨hc.1, by omega⟩ (rs_msB h1 (f1 hp1)) hs hR hC hz i1).mono fun e w' ⟨A, cap, h1, h2, h3⟩ => ?_
    rw [hz]
    exact ⟨A, _, cap, h1, h2, h3⟩
  · rw [if_neg (fun h9 => h0 h9.2.2.1)]
    exact (r7ScaleNo h0).mono fun e w' => mpu_no (rput_self h)
theorem xMul {B : Nat} {i : Bool} {c : Int} {w : World} (h : UA B i c w) (hc : 0 ≤ c ∧ c ≤ 1000000) {R1 C1 R2 C2 : Int} {A1 A2 : Option Addr} {n1 c1 n2 c2 : Nat} {L1 L2 : List Int} (h1 : RS .i64 w A1 n1 c1 L1) (f1 : 0 < L1.length → ∀ b o, A1 = some ⟨b, o, none⟩ → b ≠ B) (i1 : AllI L1) (h2 : RS .i64 w A2 n2 c2 L2) (f2 : 0 < L2.length → ∀ b o, A2 = some ⟨b, o, none⟩ → b ≠ B) (i2 : AllI L2) :
    Calls Try.prog 16 #[UP B, .agg #[.int .i64 R1, .int .i64 C1, .slice A1 n1 c1], .agg #[.int .i64 R2, .int .i64 C2, .slice A2 n2 c2]] w (MPU B w (mulM R1 C1 L1 R2 C2 L2 i c)) := by
  obtain rfl := h1.len
  obtain rfl := h2.len
  unfold mulM
  by_cases h0 : C1 = R2 ∧ chk R1 C1 L1.length = 0 ∧ chk R2 C2 L2.length = 0
  · rw [if_pos h0]
    obtain ⟨rfl, k1, k2⟩ := h0
    obtain ⟨R', K', rfl, rfl, hR, hK, hz⟩ := chk_yes k1
    obtain ⟨K2, C', e1, rfl, _, hC, hz2⟩ := chk_yes k2
    have e3 : K' = K2 := by omega
    subst e3
    exact (mMul h ⟨hc.1, by omega⟩ (rs_msB h1 (f1 (by rw [hz]; exact Nat.mul_pos hR.1 hK.1))) (rs_msB h2 (f2 (by rw [hz2]; exact Nat.mul_pos hK.1 hC.1))) hR hC hK hz hz2 i1 i2).mono fun e w' ⟨A, cap, h1, h2, h3⟩ => by
      rw [mapN_congr i (R' * C') (fun j x _ => cols L1 L2 K' C' (by omega) j x)] at h2 h3
      exact ⟨A, _, cap, h1, h2, h3⟩
  · rw [if_neg h0]
    exact (mMulNo h ⟨hc.1, by omega⟩ h0).mono fun e w' => mpu_no (put_self h)
theorem xApply {B : Nat} {i : Bool} {c : Int} {w : World} (h : UA B i c w) (hc : 0 ≤ c ∧ c ≤ 1000000) {R1 C1 : Int} {A1 A2 : Option Addr} {n1 c1 n2 c2 : Nat} {L1 L2 : List Int} (h1 : RS .i64 w A1 n1 c1 L1) (f1 : 0 < L1.length → ∀ b o, A1 = some ⟨b, o, none⟩ → b ≠ B) (i1 : AllI L1) (h2 : RS .i64 w A2 n2 c2 L2) (f2 : 0 < L2.length → ∀ b o, A2 = some ⟨b, o, none⟩ → b ≠ B) (i2 : AllI L2) :
    Calls Try.prog 18 #[UP B, .agg #[.int .i64 R1, .int .i64 C1, .slice A1 n1 c1], .slice A2 n2 c2] w (VPU B w (appM R1 C1 L1 L2 i c)) := by
  obtain rfl := h1.len
  obtain rfl := h2.len
  unfold appM
  by_cases h0 : (L2.length : Int) = C1 ∧ chk R1 C1 L1.length = 0
  · rw [if_pos h0]
    obtain ⟨k1, k2⟩ := h0
    obtain ⟨R', C', rfl, rfl, hR, hC, hz⟩ := chk_yes k2
    have hx : L2.length = C' := by omega
    exact (mApply h ⟨hc.1, by omega⟩ (rs_msB h1 (f1 (by rw [hz]; exact Nat.mul_pos hR.1 hC.1))) ((rs_msB h2 (f2 (by rw [hx]; exact hC.1))).sl (by omega)) hR hC hz hx i1 i2).mono fun e w' ⟨A, cap, h1, h2, h3⟩ => ⟨A, _, cap, h1, h2, h3⟩
  · rw [if_neg h0]
    exact (mApplyNo h ⟨hc.1, by omega⟩ h0).mono fun e w' => vpu_no (put_self h)
theorem yMul {B : Nat} {i : Bool} {c : Int} {w : World} (h : RA B i c w) (hc : 0 ≤ c ∧ c ≤ 1000000) {R1 C1 R2 C2 : Int} {A1 A2 : Option Addr} {n1 c1 n2 c2 : Nat} {L1 L2 : List Int} (h1 : RS .i64 w A1 n1 c1 L1) (f1 : 0 < L1.length → ∀ b o, A1 = some ⟨b, o, none⟩ → b ≠ B) (i1 : AllI L1) (h2 : RS .i64 w A2 n2 c2 L2) (f2 : 0 < L2.length → ∀ b o, A2 = some ⟨b, o, none⟩ → b ≠ B) (i2 : AllI L2) :
    Calls Try.prog 17 #[UP B, .agg #[.int .i64 R1, .int .i64 C1, .slice A1 n1 c1], .agg #[.int .i64 R2, .int .i64 C2, .slice A2 n2 c2]] w (MPU B w (mulM R1 C1 L1 R2 C2 L2 i c)) := by
  obtain rfl := h1.len
  obtain rfl := h2.len
  unfold mulM
  by_cases h0 : C1 = R2 ∧ chk R1 C1 L1.length = 0 ∧ chk R2 C2 L2.length = 0
  · rw [if_pos h0]
    obtain ⟨rfl, k1, k2⟩ := h0
    obtain ⟨R', K', rfl, rfl, hR, hK, hz⟩ := chk_yes k1
    obtain ⟨K2, C', e1, rfl, _, hC, hz2⟩ := chk_yes k2
    have e3 : K' = K2 := by omega
    subst e3
    exact (r7Mul h ⟨hc.1, by omega⟩ (rs_msB h1 (f1 (by rw [hz]; exact Nat.mul_pos hR.1 hK.1))) (rs_msB h2 (f2 (by rw [hz2]; exact Nat.mul_pos hK.1 hC.1))) hR hC hK hz hz2 i1 i2).mono fun e w' ⟨A, cap, h1, h2, h3⟩ => ⟨A, _, cap, h1, h2, h3⟩
  · rw [if_neg h0]
    exact (r7MulNo h0).mono fun e w' => mpu_no (rput_self h)
theorem yApply {B : Nat} {i : Bool} {c : Int} {w : World} (h : RA B i c w) (hc : 0 ≤ c ∧ c ≤ 1000000) {R1 C1 : Int} {A1 A2 : Option Addr} {n1 c1 n2 c2 : Nat} {L1 L2 : List Int} (h1 : RS .i64 w A1 n1 c1 L1) (f1 : 0 < L1.length → ∀ b o, A1 = some ⟨b, o, none⟩ → b ≠ B) (i1 : AllI L1) (h2 : RS .i64 w A2 n2 c2 L2) (f2 : 0 < L2.length → ∀ b o, A2 = some ⟨b, o, none⟩ → b ≠ B) (i2 : AllI L2) :
    Calls Try.prog 19 #[UP B, .agg #[.int .i64 R1, .int .i64 C1, .slice A1 n1 c1], .slice A2 n2 c2] w (VPU B w (appM R1 C1 L1 L2 i c)) := by
  obtain rfl := h1.len
  obtain rfl := h2.len
  unfold appM
  by_cases h0 : (L2.length : Int) = C1 ∧ chk R1 C1 L1.length = 0
  · rw [if_pos h0]
    obtain ⟨k1, k2⟩ := h0
    obtain ⟨R', C', rfl, rfl, hR, hC, hz⟩ := chk_yes k2
    have hx : L2.length = C' := by omega
    exact (r7Apply h ⟨hc.1, by omega⟩ (rs_msB h1 (f1 (by rw [hz]; exact Nat.mul_pos hR.1 hC.1))) ((rs_msB h2 (f2 (by rw [hx]; exact hC.1))).sl (by omega)) hR hC hz hx i1 i2).mono fun e w' ⟨A, cap, h1, h2, h3⟩ => ⟨A, _, cap, h1, h2, h3⟩
  · rw [if_neg h0]
    exact (r7ApplyNo h0).mono fun e w' => vpu_no (rput_self h)
end Go.Proofs.Ytlhadociaekkhaa
/- Matrices copied, compared; of whole numbers (printed by mk_matk.py). -/
namespace Go.Proofs.Ytlhadociaekkhaa
set_option linter.unusedVariables false
set_option maxRecDepth 100000
open Go.RowKit Go.Shelf
theorem results_m1 {fn : Func} {t B : Nat} (h : fn.results = #[.cell t 24]) {tmps : Array Value} {w : World} {T : TypeId} {y0 y1 y2 x0 x1 x2 : Value} (hp : tmps.getD t undef = .pointer (some ⟨B, 0, none⟩)) (hq : Blk w B T #[y0, y1, y2]) :
    (results fn tmps).run Try.prog (boxed B x0 x1 x2 w) = .ok (.agg #[x0, x1, x2]) (boxed B x0 x1 x2 w) := by
  have hp2 : tmps[t]?.getD undef = .pointer (some ⟨B, 0, none⟩) := by rw [← hp]; simp
  have h0 := (hq.boxed x0 x1 x2).cell 0
  have h1 := (hq.boxed x0 x1 x2).cell 1
  have h2 := (hq.boxed x0 x1 x2).cell 2
  simp at h0 h1 h2
  simp [results, h, hp2, h0, h1, h2, go_sem]
set_option maxHeartbeats 2000000 in
theorem kCopyMat {R C : Int} {A : Option Addr} {n c : Nat} {L : List Int} {w : World} (hr : RS .i64 w A n c L) (hn : L.length ≤ 8796093022208) :
    Calls Try.prog 14 #[.agg #[.int .i64 R, .int .i64 C, .slice A n c]] w fun e w' => ∃ A' c', e = .returned (.agg #[.int .i64 R, .int .i64 C, .slice A' L.length c']) ∧ OwnI w w' (.slice A' L.length c') L ∧ Below w.heap.size w w' := by
  have HR := Lib.hid hr
  clear hr
  go_enter Try.func14, Try.ntmps14
  go_upto_region 1 with fail
  refine wp_gen (fun W hW => ?_)
  have f0 : Below w.heap.size w W := by rw [hW]; (repeat (first | assumption | exact Below.refl _ _ | with_reducible refine past_t _ ?_ | with_reducible refine below_a _ ?_ | with_reducible refine Below.drew ?_ | with_reducible refine below_d _ ?_ | (with_reducible refine Below.setCell ?_ (by (show _ ≤ _; repeat (first | exact Nat.le_refl _ | assumption | (omega; done) | with_reducible exact le_past (Nat.le_refl _) | with_reducible refine le_past ?_ | with_reducible refine le_al ?_ | with_reducible refine le_set ?_ | with_reducible refine le_p1 ?_))) _)))
  have f1 : W.cell? ⟨w.heap.size, 0, none⟩ = some (.int .i64 R) := by rw [hW]; (first | (simp [go_sem]; done) | (simp [go_sem, ↓IntWalk.iteOmega]; done))
  have f2 : W.cell? ⟨w.heap.size, 1, none⟩ = some (.int .i64 C) := by rw [hW]; (first | (simp [go_sem]; done) | (simp [go_sem, ↓IntWalk.iteOmega]; done))
  have f3 : W.cell? ⟨w.heap.size, 2, none⟩ = some (.slice A n c) := by rw [hW]; (first | (simp [go_sem]; done) | (simp [go_sem, ↓IntWalk.iteOmega]; done))
  have f4 : Blk W (w.heap.size + 1) 24 #[.int .i64 0, .int .i64 0, .slice none 0 0] := by
    have := Blk.new (w.alloc (.cells #[.int .i64 R, .int .i64 C, .slice A n c] 24)) 24 #[.int .i64 0, .int .i64 0, .slice none 0 0]
    simp only [World.size_alloc] at this
    rw [hW]
    exact this
  have hws := f0.size
  have G4 := Lib.hid f4
  clear hW f4
  refine region_heldT (S := fun w' => Below W.heap.size W w' ∧ w'.cell? ⟨w.heap.size, 0, none⟩ = some (.int .i64 R) ∧ w'.cell? ⟨w.heap.size, 1, none⟩ = some (.int .i64 C) ∧ w'.cell? ⟨w.heap.size, 2, none⟩ = some (.slice A n c)) 8 (by kernel_rfl) ?_ (fun hHeld => ?_)
  · (try dsimp only); exact ⟨by (repeat (first | assumption | exact Below.refl _ _ | with_reducible refine past_t _ ?_ | with_reducible refine below_a _ ?_ | with_reducible refine Below.drew ?_ | with_reducible refine below_d _ ?_ | (with_reducible refine Below.setCell ?_ (by (show _ ≤ _; repeat (first | exact Nat.le_refl _ | assumption | (omega; done) | with_reducible exact le_past (Nat.le_refl _) | with_reducible refine le_past ?_ | with_reducible refine le_al ?_ | with_reducible refine le_set ?_ | with_reducible refine le_p1 ?_))) _))), by assumption, by assumption, by assumption⟩
  refine wpAnyT_take (i := 0) (v := ?_) rfl (by kernel_rfl) (fun _ _ _ h => h) (Or.inl ⟨by rfl, ?_⟩) (by assumption) ?_; rotate_left 1
  · intro wS hSw; (try dsimp only at hSw); go_split_ands; go_simp <;> with_reducible rfl
  try simp only [Act.put, List.setIfInBounds_toArray, List.set_cons_zero, List.set_cons_succ]
  refine wpAnyT_take (i := 1) (v := ?_) rfl (by kernel_rfl) (fun _ _ _ h => h) (Or.inl ⟨by rfl, ?_⟩) (by assumption) ?_; rotate_left 1
  · intro wS hSw; (try dsimp only at hSw); go_split_ands; go_simp <;> with_reducible rfl
  try simp only [Act.put, List.setIfInBounds_toArray, List.set_cons_zero, List.set_cons_succ]
  refine wpAnyT_take (i := 2) (v := ?_) rfl (by kernel_rfl) (fun _ _ _ h => h) (Or.inl ⟨by rfl, ?_⟩) (by assumption) ?_; rotate_left 1
  · intro wS hSw; (try dsimp only at hSw); go_split_ands; go_simp <;> with_reducible rfl
  try simp only [Act.put, List.setIfInBounds_toArray, List.set_cons_zero, List.set_cons_succ]
  refine wpAnyT_take (i := 3) (v := ?_) rfl (by kernel_rfl) (fun _ _ _ h => h) (Or.inl ⟨by rfl, ?_⟩) (by assumption) ?_; rotate_left 1
  · intro wS hSw; (try dsimp only at hSw); go_split_ands; go_simp <;> with_reducible rfl
  try simp only [Act.put, List.setIfInBounds_toArray, List.set_cons_zero, List.set_cons_succ]
  refine wpAnyT_take (i := 4) (v := ?_) rfl (by kernel_rfl) (fun _ _ _ h => h) (Or.inl ⟨by rfl, ?_⟩) (by assumption) ?_; rotate_left 1
  · intro wS hSw; (try dsimp only at hSw); go_split_ands; go_simp <;> with_reducible rfl
  try simp only [Act.put, List.setIfInBounds_toArray, List.set_cons_zero, List.set_cons_succ]
  refine wpAnyT_take (i := 5) (v := ?_) rfl (by kernel_rfl) (fun _ _ _ h => h) (Or.inl ⟨by rfl, ?_⟩) (by assumption) ?_; rotate_left 1
  · intro wS hSw; (try dsimp only at hSw); go_split_ands; go_simp <;> with_reducible rfl
  try simp only [Act.put, List.setIfInBounds_toArray, List.set_cons_zero, List.set_cons_succ]
  clear hHeld
  refine wpAnyT_ready (rs := [6]) (by kernel_rfl) (by simp) ?_
  refine AllReadyT.cons rfl (fun K hK => ?_) AllReadyT.nil
  go_simp
  go_wp2_with (go_at_call 15; refine Calls.mono (iCopy (HR.out.keep (f0.trans ((Below.drew (Below.refl W.heap.size W)).mono hws))) hn) ?_; rintro _ w2 ⟨A2, c2, rfl, ho2, hb2⟩; have hb3 : Below W.heap.size W w2 := (Below.drew (Below.refl W.heap.size W)).trans hb2; have i0 := cell_keep f1 hb3; have i1 := cell_keep f2 hb3; have i2 := cell_keep f3 hb3; have hq := G4.out.keep hb3; have q0 := hq.cell 0; have q1 := hq.cell 1; have q2 := hq.cell 2; have q3 := hq.mark 0; have q4 := hq.mark 1; have q5 := hq.mark 2; have q6 := hq.lt; simp at q0 q1 q2)
  refine hK.out _ _ (fun hne => ?_) (fun _ => ?_); clear hK K
  · (try dsimp only); exact ⟨by (repeat (first | assumption | exact Below.refl _ _ | with_reducible refine past_t _ ?_ | with_reducible refine below_a _ ?_ | with_reducible refine Below.drew ?_ | with_reducible refine below_d _ ?_ | (with_reducible refine Below.setCell ?_ (by (show _ ≤ _; repeat (first | exact Nat.le_refl _ | assumption | (omega; done) | with_reducible exact le_past (Nat.le_refl _) | with_reducible refine le_past ?_ | with_reducible refine le_al ?_ | with_reducible refine le_set ?_ | with_reducible refine le_p1 ?_))) _))), by assumption, by assumption, by assumption⟩
  refine wpAnyT_ready (rs := [7]) (by kernel_rfl) (by simp) ?_
  refine AllReadyT.cons rfl (fun K hK => ?_) AllReadyT.nil
  go_simp
  refine hK.out _ _ (fun hne => ?_) (fun _ => ?_); clear hK K
  · (try dsimp only); exact ⟨by (repeat (first | assumption | exact Below.refl _ _ | with_reducible refine past_t _ ?_ | with_reducible refine below_a _ ?_ | with_reducible refine Below.drew ?_ | with_reducible refine below_d _ ?_ | (with_reducible refine Below.setCell ?_ (by (show _ ≤ _; repeat (first | exact Nat.le_refl _ | assumption | (omega; done) | with_reducible exact le_past (Nat.le_refl _) | with_reducible refine le_past ?_ | with_reducible refine le_al ?_ | with_reducible refine le_set ?_ | with_reducible refine le_p1 ?_))) _))), by assumption, by assumption, by assumption⟩
  refine wpAnyT_ready (rs := [8]) (by kernel_rfl) (by simp) ?_
  refine AllReadyT.cons rfl (fun K hK => ?_) AllReadyT.nil
  go_simp
  refine hK.out _ _ (fun hne => ?_) (fun _ => ?_); clear hK K
  · exact absurd rfl hne
  refine wpAnyT_done (by kernel_rfl) ?_ _
  try simp only [Act.put, List.setIfInBounds_toArray, List.set_cons_zero, List.set_cons_succ]
  go_wp2_with fail
  have hB0 := below_box (f0.trans (hb3.mono hws)) (B := w.heap.size + 1) (by omega) (.int .i64 R) (.int .i64 C) (.slice A2 L.length c2)
  refine bodyPost_ret (results_m1 rfl rfl hq) rfl ⟨_, _, rfl, (own_box ho2 (B := w.heap.size + 1) (by have := G4.out.lt; exact this) _ _ _).base (U := w) hws, hB0⟩
set_option maxHeartbeats 2000000 in
theorem kSameMat {R C : Int} {A1 A2 : Option Addr} {n1 c1 n2 c2 : Nat} {L : List Int} {w : World} (h1 : RS .i64 w A1 n1 c1 L) (h2 : RS .i64 w A2 n2 c2 L) :
    Calls Try.prog 20 #[.agg #[.int .i64 R, .int .i64 C, .slice A1 n1 c1], .agg #[.int .i64 R, .int .i64 C, .slice A2 n2 c2]] w fun e w' => e = .returned (.bool true) ∧ Below w.heap.size w w' := by
  have H1 := Lib.hid h1
  have H2 := Lib.hid h2
  clear h1 h2
  go_enter Try.func20, Try.ntmps20
  go_wp2_with ((go_at_call 21; with_reducible refine Calls_past (iSameT (H1.out.keep ?_) (H2.out.keep ?_)) (fun z => ?_); (focus ((first | ((repeat (first | assumption | exact Below.refl _ _ | with_reducible refine past_t _ ?_ | with_reducible refine below_a _ ?_ | with_reducible refine Below.drew ?_ | with_reducible refine below_d _ ?_ | (with_reducible refine Below.setCell ?_ (by (show _ ≤ _; repeat (first | exact Nat.le_refl _ | assumption | (omega; done) | with_reducible exact le_past (Nat.le_refl _) | with_reducible refine le_past ?_ | with_reducible refine le_al ?_ | with_reducible refine le_set ?_ | with_reducible refine le_p1 ?_))) _))); done) | (with_reducible rfl; done) | omega | (rfl; done) | (simp; done) | (simp [go_sem]; done) | (simp; omega) | (simp [go_sem]; omega)); done)); (focus ((first | ((repeat (first | assumption | exact Below.refl _ _ | with_reducible refine past_t _ ?_ | with_reducible refine below_a _ ?_ | with_reducible refine Below.drew ?_ | with_reducible refine below_d _ ?_ | (with_reducible refine Below.setCell ?_ (by (show _ ≤ _; repeat (first | exact Nat.le_refl _ | assumption | (omega; done) | with_reducible exact le_past (Nat.le_refl _) | with_reducible refine le_past ?_ | with_reducible refine le_al ?_ | with_reducible refine le_set ?_ | with_reducible refine le_p1 ?_))) _))); done) | (with_reducible rfl; done) | omega | (rfl; done) | (simp; done) | (simp [go_sem]; done) | (simp; omega) | (simp [go_sem]; omega)); done))))
  go_ret
  exact ⟨rfl, by (repeat (first | assumption | exact Below.refl _ _ | with_reducible refine past_t _ ?_ | with_reducible refine below_a _ ?_ | with_reducible refine Below.drew ?_ | with_reducible refine below_d _ ?_ | (with_reducible refine Below.setCell ?_ (by (show _ ≤ _; repeat (first | exact Nat.le_refl _ | assumption | (omega; done) | with_reducible exact le_past (Nat.le_refl _) | with_reducible refine le_past ?_ | with_reducible refine le_al ?_ | with_reducible refine le_set ?_ | with_reducible refine le_p1 ?_))) _)))⟩
/-- Whole numbers. -/
def wholeL (zs : List Int) (k : Nat) : List Int := (List.range k).map fun j => zs.getD j 0 * 4294967296
theorem wholeL_len (zs : List Int) (k : Nat) : (wholeL zs k).length = k := by simp [wholeL]
theorem wholeL_next (zs : List Int) (k : Nat) : wholeL zs (k + 1) = wholeL zs k ++ [zs.getD k 0 * 4294967296] := by unfold wholeL; rw [List.range_succ, List.map_append]; rfl
set_option maxHeartbeats 2000000 in
theorem lOf {r c : Int} {v : Value} {B : Nat} {zs : List Int} {w : World} (hv : MS w B v zs) (hz : 0 < zs.length ∧ zs.length ≤ 1000) (hsm : ∀ j, j < zs.length → -1000 ≤ zs.getD j 0 ∧ zs.getD j 0 ≤ 1000) :
    Calls Try.prog 41 #[.int .i64 r, .int .i64 c, v] w fun e w' => ∃ A' c', e = .returned (.agg #[.int .i64 r, .int .i64 c, .slice A' zs.length c']) ∧ OwnI w w' (.slice A' zs.length c') (wholeL zs zs.length) ∧ Below w.heap.size w w' := by
  obtain ⟨A0, c0, rfl, hr, _⟩ := hv
  obtain ⟨p, o, rfl, hpw, hrow⟩ := hr.at_ hz.1
  have hcap := hr.cap
  have HR := Lib.hid hrow
  have HS := Lib.hid hsm
  clear hr hrow hsm
  go_enter Try.func41, Try.ntmps41
  go_upto_region 2 with fail
  refine wp_gen (fun W hW => ?_)
  have f0 : Below w.heap.size w W := by rw [hW]; (repeat (first | assumption | exact Below.refl _ _ | with_reducible refine past_t _ ?_ | with_reducible refine below_a _ ?_ | with_reducible refine Below.drew ?_ | with_reducible refine below_d _ ?_ | (with_reducible refine Below.setCell ?_ (by (show _ ≤ _; repeat (first | exact Nat.le_refl _ | assumption | (omega; done) | with_reducible exact le_past (Nat.le_refl _) | with_reducible refine le_past ?_ | with_reducible refine le_al ?_ | with_reducible refine le_set ?_ | with_reducible refine le_p1 ?_))) _)))
  have f4 : Blk W w.heap.size 24 #[.int .i64 0, .int .i64 0, .slice none 0 0] := by rw [hW]; exact (Blk.new w _ _).keep ((Below.refl _ _).alloc (Nat.le_refl _) _)
  have hBX : Blk W (w.heap.size + 1) 24 #[.int .i64 r, .int .i64 c, .slice none 0 0] := by
    have := Blk.new (w.alloc (.cells #[.int .i64 0, .int .i64 0, .slice none 0 0] 24)) 24 #[.int .i64 r, .int .i64 c, .slice none 0 0]
    simp only [World.size_alloc] at this
    rw [hW]
    exact this
  obtain ⟨X, hX⟩ : ∃ X, w.heap.size + 1 = X := ⟨_, rfl⟩
  rw [hX] at hBX ⊢
  have x0 : W.cell? ⟨X, 0, none⟩ = some (.int .i64 r) := hBX.cell 0
  have x1 : W.cell? ⟨X, 1, none⟩ = some (.int .i64 c) := hBX.cell 1
  have x2 : W.cell? ⟨X, 2, none⟩ = some (.slice none 0 0) := hBX.cell 2
  have xf : W.frozen? ⟨X, 2, none⟩ = false := hBX.mark 2
  have hXW := hBX.lt
  have hws := f0.size
  have G4 := Lib.hid f4
  clear hW hBX f4
  go_wp2_with fail
  go_loopg [8] zs.length (fun g s8 wr => ∃ (k : Nat) (A' : Option Addr) (cp : Nat), k ≤ zs.length ∧ zs.length ≤ g + k ∧ s8 = .int .i64 k ∧ OwnI W wr (.slice A' k cp) (wholeL zs k) ∧ Below (bx X (.slice A' k cp) W).heap.size (bx X (.slice A' k cp) W) wr)
  case atStart =>
    refine ⟨0, none, 0, by omega, by omega, rfl, OwnK.nil _ _ _ _, ?_⟩
    rw [bx_self x2]
    exact Below.refl _ _
  case round =>
    obtain ⟨k, A', cp, hk, hg, rfl, hown, hbel⟩ := hrel
    have d0 : wr.cell? ⟨X, 0, none⟩ = some (.int .i64 r) := (hbel.cell (p := ⟨X, 0, none⟩) (by rw [bx_size]; exact hXW)).trans ((World.cell?_setCell_other _ _ _ _ (by simp)).trans x0)
    have d1 : wr.cell? ⟨X, 1, none⟩ = some (.int .i64 c) := (hbel.cell (p := ⟨X, 1, none⟩) (by rw [bx_size]; exact hXW)).trans ((World.cell?_setCell_other _ _ _ _ (by simp)).trans x1)
    have d2 := bx_cell x2 hbel
    by_cases hlt : k < zs.length
    · have fx := (f0.cell (p := ⟨p, o + k, none⟩) hpw).trans (HR.out k hlt)
      have hsx := HS.out k hlt
      have HN := Lib.hid (wholeL_next zs k)
      have hl0 := wholeL_len zs k
      have HL := Lib.hid hl0
      generalize zs.getD k 0 = x at *
      generalize wholeL zs k = L at *
      have hxp := bx_far (by omega) fx hbel
      have hwx : IntKind.i64.wrap (x * 4294967296) = x * 4294967296 := by rw [IntKind.wrap_i64]; omega
      have HO := Lib.hid hown
      clear hown
      go_wp2_with fail
      refine region_heldT (S := fun w' => w'.cell? ⟨X, 2, none⟩ = some (.slice A' k cp) ∧ w'.cell? ⟨p, o + k, none⟩ = some (.int .i64 x)) 10 (by kernel_rfl) ?_ (fun hHeld => ?_)
      · (try dsimp only); exact ⟨by first | assumption | (simp [go_sem, *]; done), by first | assumption | (simp [go_sem, *]; done)⟩
      refine wpAnyT_take (i := 0) (v := ?_) rfl (by kernel_rfl) (fun _ _ _ h => h) (Or.inl ⟨by rfl, ?_⟩) (by assumption) ?_; rotate_left 1
      · intro wS hSw; (try dsimp only at hSw); go_split_ands; go_simp <;> with_reducible rfl
      try simp only [Act.put, List.setIfInBounds_toArray, List.set_cons_zero, List.set_cons_succ]
      refine wpAnyT_take (i := 1) (v := ?_) rfl (by kernel_rfl) (fun _ _ _ h => h) (Or.inl ⟨by rfl, ?_⟩) (by assumption) ?_; rotate_left 1
      · intro wS hSw; (try dsimp only at hSw); go_split_ands; go_simp <;> with_reducible rfl
      try simp only [Act.put, List.setIfInBounds_toArray, List.set_cons_zero, List.set_cons_succ]
      refine wpAnyT_take (i := 2) (v := ?_) rfl (by kernel_rfl) (fun _ _ _ h => h) (Or.inl ⟨by rfl, ?_⟩) (by assumption) ?_; rotate_left 1
      · intro wS hSw; (try dsimp only at hSw); go_split_ands; go_simp <;> with_reducible rfl
      try simp only [Act.put, List.setIfInBounds_toArray, List.set_cons_zero, List.set_cons_succ]
      refine wpAnyT_take (i := 3) (v := ?_) rfl (by kernel_rfl) (fun _ _ _ h => h) (Or.inl ⟨by rfl, ?_⟩) (by assumption) ?_; rotate_left 1
      · intro wS hSw; (try dsimp only at hSw); go_split_ands; go_simp <;> with_reducible rfl
      try simp only [Act.put, List.setIfInBounds_toArray, List.set_cons_zero, List.set_cons_succ]
      refine wpAnyT_take (i := 4) (v := ?_) rfl (by kernel_rfl) (fun _ _ _ h => h) (Or.inl ⟨by rfl, ?_⟩) (by assumption) ?_; rotate_left 1
      · intro wS hSw; (try dsimp only at hSw); go_split_ands; go_simp <;> with_reducible rfl
      try simp only [Act.put, List.setIfInBounds_toArray, List.set_cons_zero, List.set_cons_succ]
      refine wpAnyT_take (i := 5) (v := ?_) rfl (by kernel_rfl) (fun _ _ _ h => h) (Or.inl ⟨by rfl, ?_⟩) (by assumption) ?_; rotate_left 1
      · intro wS hSw; (try dsimp only at hSw); go_split_ands; go_simp <;> with_reducible rfl
      try simp only [Act.put, List.setIfInBounds_toArray, List.set_cons_zero, List.set_cons_succ]
      refine wpAnyT_take (i := 6) (v := ?_) rfl (by kernel_rfl) (fun _ _ _ h => h) (Or.inl ⟨by rfl, ?_⟩) (by assumption) ?_; rotate_left 1
      · intro wS hSw; (try dsimp only at hSw); go_split_ands; go_simp <;> with_reducible rfl
      try simp only [Act.put, List.setIfInBounds_toArray, List.set_cons_zero, List.set_cons_succ]
      clear hHeld
      refine wpAnyT_ready (rs := [7]) (by kernel_rfl) (by simp) ?_
      refine AllReadyT.cons rfl (fun K hK => ?_) AllReadyT.nil
      go_simp
      refine hK.out _ _ (fun hne => ?_) (fun _ => ?_); clear hK K
      · (try dsimp only); exact ⟨by first | assumption | (simp [go_sem, *]; done), by first | assumption | (simp [go_sem, *]; done)⟩
      refine wpAnyT_ready (rs := [8]) (by kernel_rfl) (by simp) ?_
      refine AllReadyT.cons rfl (fun K hK => ?_) AllReadyT.nil
      refine step_append_w (by rfl) _ _ (by rfl) (bx X (.slice A' k cp) W) (by rfl) (by rfl) ?_ ((HO.out.base (by rw [bx_size]; exact Nat.le_refl _)).keep ?_) ((RS.lit .i64 _ [x * 4294967296] _ _ ?_ 1 ?_ ?_ 1 ?_ _ ?_).keep (Below.drew (Below.refl _ _))) ?_ ?_; (focus ((first | ((repeat (first | assumption | exact Below.refl _ _ | with_reducible refine past_t _ ?_ | with_reducible refine below_a _ ?_ | with_reducible refine Below.drew ?_ | with_reducible refine below_d _ ?_ | (with_reducible refine Below.setCell ?_ (by (show _ ≤ _; repeat (first | exact Nat.le_refl _ | assumption | (omega; done) | with_reducible exact le_past (Nat.le_refl _) | with_reducible refine le_past ?_ | with_reducible refine le_al ?_ | with_reducible refine le_set ?_ | with_reducible refine le_p1 ?_))) _))); done) | assumption | omega | (simp; done) | (simp [go_sem]; done) | (simp; omega) | (simp [go_sem, *]; done)); done)); (focus ((first | ((repeat (first | assumption | exact Below.refl _ _ | with_reducible refine past_t _ ?_ | with_reducible refine below_a _ ?_ | with_reducible refine Below.drew ?_ | with_reducible refine below_d _ ?_ | (with_reducible refine Below.setCell ?_ (by (show _ ≤ _; repeat (first | exact Nat.le_refl _ | assumption | (omega; done) | with_reducible exact le_past (Nat.le_refl _) | with_reducible refine le_past ?_ | with_reducible refine le_al ?_ | with_reducible refine le_set ?_ | with_reducible refine le_p1 ?_))) _))); done) | assumption | omega | (simp; done) | (simp [go_sem]; done) | (simp; omega) | (simp [go_sem, *]; done)); done)); (focus ((first | ((repeat (first | assumption | exact Below.refl _ _ | with_reducible refine past_t _ ?_ | with_reducible refine below_a _ ?_ | with_reducible refine Below.drew ?_ | with_reducible refine below_d _ ?_ | (with_reducible refine Below.setCell ?_ (by (show _ ≤ _; repeat (first | exact Nat.le_refl _ | assumption | (omega; done) | with_reducible exact le_past (Nat.le_refl _) | with_reducible refine le_past ?_ | with_reducible refine le_al ?_ | with_reducible refine le_set ?_ | with_reducible refine le_p1 ?_))) _))); done) | assumption | omega | (simp; done) | (simp [go_sem]; done) | (simp; omega) | (simp [go_sem, *]; done)); done)); (focus ((first | ((repeat (first | assumption | exact Below.refl _ _ | with_reducible refine past_t _ ?_ | with_reducible refine below_a _ ?_ | with_reducible refine Below.drew ?_ | with_reducible refine below_d _ ?_ | (with_reducible refine Below.setCell ?_ (by (show _ ≤ _; repeat (first | exact Nat.le_refl _ | assumption | (omega; done) | with_reducible exact le_past (Nat.le_refl _) | with_reducible refine le_past ?_ | with_reducible refine le_al ?_ | with_reducible refine le_set ?_ | with_reducible refine le_p1 ?_))) _))); done) | assumption | omega | (simp; done) | (simp [go_sem]; done) | (simp; omega) | (simp [go_sem, *]; done)); done)); (focus ((first | ((repeat (first | assumption | exact Below.refl _ _ | with_reducible refine past_t _ ?_ | with_reducible refine below_a _ ?_ | with_reducible refine Below.drew ?_ | with_reducible refine below_d _ ?_ | (with_reducible refine Below.setCell ?_ (by (show _ ≤ _; repeat (first | exact Nat.le_refl _ | assumption | (omega; done) | with_reducible exact le_past (Nat.le_refl _) | with_reducible refine le_past ?_ | with_reducible refine le_al ?_ | with_reducible refine le_set ?_ | with_reducible refine le_p1 ?_))) _))); done) | assumption | omega | (simp; done) | (simp [go_sem]; done) | (simp; omega) | (simp [go_sem, *]; done)); done)); (focus ((first | ((repeat (first | assumption | exact Below.refl _ _ | with_reducible refine past_t _ ?_ | with_reducible refine below_a _ ?_ | with_reducible refine Below.drew ?_ | with_reducible refine below_d _ ?_ | (with_reducible refine Below.setCell ?_ (by (show _ ≤ _; repeat (first | exact Nat.le_refl _ | assumption | (omega; done) | with_reducible exact le_past (Nat.le_refl _) | with_reducible refine le_past ?_ | with_reducible refine le_al ?_ | with_reducible refine le_set ?_ | with_reducible refine le_p1 ?_))) _))); done) | assumption | omega | (simp; done) | (simp [go_sem]; done) | (simp; omega) | (simp [go_sem, *]; done)); done)); (focus ((first | ((repeat (first | assumption | exact Below.refl _ _ | with_reducible refine past_t _ ?_ | with_reducible refine below_a _ ?_ | with_reducible refine Below.drew ?_ | with_reducible refine below_d _ ?_ | (with_reducible refine Below.setCell ?_ (by (show _ ≤ _; repeat (first | exact Nat.le_refl _ | assumption | (omega; done) | with_reducible exact le_past (Nat.le_refl _) | with_reducible refine le_past ?_ | with_reducible refine le_al ?_ | with_reducible refine le_set ?_ | with_reducible refine le_p1 ?_))) _))); done) | assumption | omega | (simp; done) | (simp [go_sem]; done) | (simp; omega) | (simp [go_sem, *]; done)); done)); (focus ((first | ((repeat (first | assumption | exact Below.refl _ _ | with_reducible refine past_t _ ?_ | with_reducible refine below_a _ ?_ | with_reducible refine Below.drew ?_ | with_reducible refine below_d _ ?_ | (with_reducible refine Below.setCell ?_ (by (show _ ≤ _; repeat (first | exact Nat.le_refl _ | assumption | (omega; done) | with_reducible exact le_past (Nat.le_refl _) | with_reducible refine le_past ?_ | with_reducible refine le_al ?_ | with_reducible refine le_set ?_ | with_reducible refine le_p1 ?_))) _))); done) | assumption | omega | (simp; done) | (simp [go_sem]; done) | (simp; omega) | (simp [go_sem, *]; done)); done))
      intro A3 c3 w4 ho4 hb4
      have j0 := bx_cell x2 hb4
      have j1 := bx_far (by omega) fx hb4
      have j4 := bx_mark x2 xf hb4
      refine hK.out _ _ (fun hne => ?_) (fun _ => ?_); clear hK K
      · (try dsimp only); exact ⟨by first | assumption | (simp [go_sem, *]; done), by first | assumption | (simp [go_sem, *]; done)⟩
      refine wpAnyT_ready (rs := [9]) (by kernel_rfl) (by simp) ?_
      refine AllReadyT.cons rfl (fun K hK => ?_) AllReadyT.nil
      go_simp
      refine hK.out _ _ (fun hne => ?_) (fun _ => ?_); clear hK K
      · (try dsimp only); exact ⟨by first | assumption | (simp [go_sem, *]; done), by first | assumption | (simp [go_sem, *]; done)⟩
      refine wpAnyT_ready (rs := [10]) (by kernel_rfl) (by simp) ?_
      refine AllReadyT.cons rfl (fun K hK => ?_) AllReadyT.nil
      go_simp
      refine hK.out _ _ (fun hne => ?_) (fun _ => ?_); clear hK K
      · exact absurd rfl hne
      refine wpAnyT_done (by kernel_rfl) ?_ _
      try simp only [Act.put, List.setIfInBounds_toArray, List.set_cons_zero, List.set_cons_succ]
      go_wp2_with fail
      go_roundg (zs.length - (k + 1))
      case measure => omega
      case rel =>
        refine ⟨k + 1, A3, c3, by omega, by omega, by go_num, ?_, ?_⟩
        · rw [HN.out, ← HL.out]
          exact own_set (ho4.base (U := W) (by rw [bx_size]; exact Nat.le_refl _)) hXW _
        · rw [← HL.out]
          rw [← HL.out] at hb4
          exact bx_next hb4
    · obtain rfl : k = zs.length := by omega
      have hq := (G4.out.far (b := X) (by omega) (.slice A' zs.length cp)).keep hbel
      have hT : Below w.heap.size w wr := (f0.setCell (by show w.heap.size ≤ X; omega) _).trans (hbel.mono (by rw [bx_size]; exact hws))
      have q0 := hq.cell 0
      have q1 := hq.cell 1
      have q2 := hq.cell 2
      have q3 := hq.mark 0
      have q4 := hq.mark 1
      have q5 := hq.mark 2
      have q6 := hq.lt
      simp at q0 q1 q2
      have HO := Lib.hid hown
      clear hown hbel
      go_wp2_with fail
      exact bodyPost_ret (results_m1 rfl rfl hq) rfl ⟨_, _, rfl, (own_box HO.out (by omega) _ _ _).base (U := w) hws, below_box hT (Nat.le_refl _) _ _ _⟩
end Go.Proofs.Ytlhadociaekkhaa
/- Matrices as arguments: two numbers and a list. -/
namespace Go.Proofs.Ytlhadociaekkhaa
set_option linter.unusedVariables false
set_option maxRecDepth 100000
open Go.RowKit Go.ChangeShapes Go.WideShapes Go.Deep
/-- A matrix that came in: rows, columns, where its numbers lie, what they are. -/
structure MatX where
  R : Int
  C : Int
  A : Option Addr
  c : Nat
  V : List Int
instance : Inhabited MatX := ⟨⟨0, 0, none, 0, []⟩⟩
abbrev MatX.val (x : MatX) : Value := .agg #[.int .i64 x.R, .int .i64 x.C, .slice x.A x.V.length x.c]
structure MatX.ok (x : MatX) (w : World) : Prop where
  hR : InI x.R
  hC : InI x.C
  hV : AllI x.V
  rV : RL w x.A x.V
  cV : x.V.length ≤ x.c ∧ (x.A = none → x.c = 0)
  tV : x.c ≤ 9223372036854775807
theorem MatX.ok.rs {x : MatX} {w : World} (h : x.ok w) : RS .i64 w x.A x.V.length x.c x.V := ⟨rfl, h.cV.1, h.tV, h.cV.2, fun h0 => h.rV h0⟩
section
variable {H : Type} {enc : TypeId × Value → H} {w : World}
theorem mints_of {fuel : Nat} {v : Value} {x : DataW H × List MemPlace} (h : DataW.trod enc Try.prog w 0 (fun _ => true) true fuel 22 [v] = some x) :
    ∃ (A : Option Addr) (c : Nat) (L : List Int), v = .slice A L.length c ∧ AllI L ∧ RL w A L ∧ (L.length ≤ c ∧ (A = none → c = 0)) ∧ c ≤ 9223372036854775807 := by
  rcases open_ints Try.underlying22 Try.underlying3 (by kernel_rfl) h with ⟨hcs, _⟩ | ⟨a, len, cap, zs, hcs, _, hl, hm, hz, _, hcell, hwz⟩
  · simp at hcs
    exact ⟨none, 0, [], hcs, fun n hn => absurd hn (by simp), fun h0 => absurd h0 (by simp), ⟨Nat.le_refl _, fun _ => rfl⟩, by omega⟩
  · simp at hcs
    obtain ⟨L, e, hc, hL, hr⟩ := RL_of (w := w) (a := some a) (len := len) (cap := cap) (zs := zs) (.inr ⟨a, rfl, hl, hm, by simpa using hz, hcell, hwz⟩)
    subst e
    exact ⟨some a, cap, L, hcs, hL, hr, hc, by unfold maxLen at hm; exact hm⟩
theorem cellsMat : Try.prog.cellsOf 24 = 3 := by kernel_rfl
theorem mcells1 : Try.prog.cellsOf 3 = 1 := by kernel_rfl
theorem mcells2 : Try.prog.cellsOf 22 = 1 := by kernel_rfl
theorem mat_of {fuel : Nat} {cs : List Value} {x : DataW H × List MemPlace} (h : DataW.trod enc Try.prog w 0 (fun _ => true) true fuel 24 cs = some x) :
    ∃ X : MatX, cs = [.int .i64 X.R, .int .i64 X.C, .slice X.A X.V.length X.c] ∧ X.ok w := by
  obtain ⟨xs, n, _, _, hlen, hsz, hf⟩ := DataW.trod_struct Try.underlying24 h
  rw [cellsMat] at hlen
  match cs, hlen with
  | [v0, v1, v2], _ =>
    have hxs : xs.length = 3 := hsz
    match xs, hxs with
    | [y0, y1, y2], _ =>
      have g0 : DataW.trod enc Try.prog w 0 (fun _ => true) true n 3 (([v0, v1, v2].drop 0).take (Try.prog.cellsOf 3)) = some y0 := hf 0 _ rfl
      have g1 : DataW.trod enc Try.prog w 0 (fun _ => true) true n 3 (([v0, v1, v2].drop 1).take (Try.prog.cellsOf 3)) = some y1 := hf 1 _ rfl
      have g2 : DataW.trod enc Try.prog w 0 (fun _ => true) true n 22 (([v0, v1, v2].drop 2).take (Try.prog.cellsOf 22)) = some y2 := hf 2 _ rfl
      rw [mcells1] at g0 g1
      rw [mcells2] at g2
      obtain ⟨n0, q0, -, w0⟩ := DataW.trod_int Try.underlying3 g0
      obtain ⟨n1, q1, -, w1⟩ := DataW.trod_int Try.underlying3 g1
      obtain ⟨A2, c2, L2, e2, h2, r2, k2, t2⟩ := mints_of (v := v2) g2
      simp at q0 q1
      subst q0 q1 e2
      exact ⟨⟨n0, n1, A2, c2, L2⟩, rfl, ⟨bounds_i64 w0, bounds_i64 w1, h2, r2, k2, t2⟩⟩
/-- An argument that is a matrix. -/
theorem open_mat {r : Reach} {b0 : Nat} {v : Value} {d : DataW H} {p : List MemPlace} (hv : Value.okWide Try.prog w r b0 24 v) (h : DataW.Trod enc Try.prog w 0 (fun _ => true) true 24 v d p) : ∃ X : MatX, v = X.val ∧ X.ok w := by
  obtain ⟨cs, rfl, hsz⟩ := okWide_struct Try.underlying24 hv
  obtain ⟨l⟩ := cs
  obtain ⟨fuel, hf⟩ := h
  obtain ⟨X, hX, ok⟩ := mat_of hf
  have : l = [.int .i64 X.R, .int .i64 X.C, .slice X.A X.V.length X.c] := by simpa [Value.cells] using hX
  subst this
  exact ⟨X, rfl, ok⟩
end
end Go.Proofs.Ytlhadociaekkhaa
/- Worlds that differ in two blocks at most, and in new memory: what is known of the others goes on. -/
namespace Go.Proofs.Ytlhadociaekkhaa
set_option linter.unusedVariables false
set_option maxRecDepth 100000
open Go.RowKit Go.Shelf
structure Stp (U V : Nat) (W W' : World) : Prop where
  os : W'.os = W.os
  tape : W'.tape = W.tape
  output : W'.output = W.output
  size : W.heap.size ≤ W'.heap.size
  blk : ∀ k, k < W.heap.size → k ≠ U → k ≠ V → W'.heap[k]? = W.heap[k]?
variable {U V : Nat} {W W' : World}
theorem Stp.refl : Stp U V W W := ⟨rfl, rfl, rfl, Nat.le_refl _, fun _ _ _ _ => rfl⟩
theorem Stp.trans {W2 : World} (h : Stp U V W W') (k : Stp U V W' W2) : Stp U V W W2 :=
  ⟨k.os.trans h.os, k.tape.trans h.tape, k.output.trans h.output, Nat.le_trans h.size k.size, fun i hi h1 h2 => (k.blk i (Nat.lt_of_lt_of_le hi h.size) h1 h2).trans (h.blk i hi h1 h2)⟩
theorem Stp.bel (h : Below W.heap.size W W') : Stp U V W W' := ⟨h.os, h.tape, h.output, h.size, fun k hk _ _ => h.block k hk⟩
theorem Stp.put1 {i : Bool} {c : Int} (h : Below W.heap.size (put U i c W) W') : Stp U V W W' :=
  ⟨h.os, h.tape, h.output, by have := h.size; rwa [put_size] at this, fun k hk h1 _ => (h.block k hk).trans (put_far _ _ _ _ h1)⟩
theorem Stp.put2 {i : Bool} {c : Int} (h : Below W.heap.size (put V i c W) W') : Stp U V W W' :=
  ⟨h.os, h.tape, h.output, by have := h.size; rwa [put_size] at this, fun k hk _ h2 => (h.block k hk).trans (put_far _ _ _ _ h2)⟩
theorem Stp.cell (h : Stp U V W W') {b o : Nat} {v : Value} (hU : b ≠ U) (hV : b ≠ V) (hc : W.cell? ⟨b, o, none⟩ = some v) : W'.cell? ⟨b, o, none⟩ = some v :=
  (World.cell?_of_block (w := W) (h.blk b (World.block_lt_of_cell? W _ hc) hU hV)).trans hc
theorem Stp.below (h : Stp U V W W') {w : World} (hb : Below w.heap.size w W) (hU : w.heap.size ≤ U) (hV : w.heap.size ≤ V) : Below w.heap.size w W' :=
  hb.trans ⟨h.os, h.tape, h.output, h.size, fun k hk => h.blk k (Nat.lt_of_lt_of_le hk hb.size) (by omega) (by omega)⟩
/-- A list that lies between two heights of memory. -/
def LIs (W : World) (A : Option Addr) (n c : Nat) (L : List Int) (lo hi : Nat) : Prop := RS .i64 W A n c L ∧ ∀ b o, A = some ⟨b, o, none⟩ → lo ≤ b ∧ b < hi
theorem LIs.stp {A : Option Addr} {n c : Nat} {L : List Int} {lo hi : Nat} (h : LIs W A n c L lo hi) (hs : Stp U V W W') (h1 : hi ≤ U ∨ U < lo) (h2 : hi ≤ V ∨ V < lo) : LIs W' A n c L lo hi := by
  refine ⟨⟨h.1.len, h.1.cap, h.1.top, h.1.nil_, fun h0 => ?_⟩, h.2⟩
  obtain ⟨b, o, e, hb, hr⟩ := h.1.at_ h0
  have := h.2 b o e
  exact ⟨b, o, e, Nat.lt_of_lt_of_le hb hs.size, fun j hj => hs.cell (by omega) (by omega) (hr j hj)⟩
theorem LIs.far {A : Option Addr} {n c : Nat} {L : List Int} {lo hi : Nat} (h : LIs W A n c L lo hi) {B : Nat} (h1 : hi ≤ B ∨ B < lo) : ∀ b o, A = some ⟨b, o, none⟩ → b ≠ B := fun b o e => by
  have := h.2 b o e
  omega
theorem LIs.fr {A : Option Addr} {n c : Nat} {L : List Int} {lo hi : Nat} (h : LIs W A n c L lo hi) {B : Nat} (h1 : hi ≤ B ∨ B < lo) : 0 < L.length → ∀ b o, A = some ⟨b, o, none⟩ → b ≠ B := fun _ => h.far h1
/-- A list that came in. -/
def IIs (W : World) (A : Option Addr) (n c : Nat) (L : List Int) (hi : Nat) : Prop := RS .i64 W A n c L ∧ (0 < L.length → ∀ b o, A = some ⟨b, o, none⟩ → b < hi)
theorem IIs.stp {A : Option Addr} {n c : Nat} {L : List Int} {hi : Nat} (h : IIs W A n c L hi) (hs : Stp U V W W') (h1 : hi ≤ U) (h2 : hi ≤ V) : IIs W' A n c L hi := by
  refine ⟨⟨h.1.len, h.1.cap, h.1.top, h.1.nil_, fun h0 => ?_⟩, h.2⟩
  obtain ⟨b, o, e, hb, hr⟩ := h.1.at_ h0
  have := h.2 (by rw [← h.1.len]; exact h0) b o e
  exact ⟨b, o, e, Nat.lt_of_lt_of_le hb hs.size, fun j hj => hs.cell (by omega) (by omega) (hr j hj)⟩
theorem IIs.fr {A : Option Addr} {n c : Nat} {L : List Int} {hi : Nat} (h : IIs W A n c L hi) {B : Nat} (h1 : hi ≤ B) : 0 < L.length → ∀ b o, A = some ⟨b, o, none⟩ → b ≠ B := fun h0 b o e => by
  have := h.2 h0 b o e
  omega
theorem iis_of {w : World} {A : Option Addr} {n c : Nat} {L : List Int} (h : RS .i64 w A n c L) (k : Below w.heap.size w W) : IIs W A n c L w.heap.size :=
  ⟨h.keep k, fun h0 b o e => by
    obtain ⟨b', o', e', hb, _⟩ := h.at_ (by rw [h.len]; exact h0)
    rw [e] at e'
    cases e'
    exact hb⟩
theorem own_ri {X : World} {A : Option Addr} {n c : Nat} {L : List Int} (h : OwnI X W (.slice A n c) L) : LIs W A n c L X.heap.size W.heap.size :=
  ⟨h.rs, fun b o e => own_at h (by rw [e]; rfl)⟩
theorem own_stp {X : World} {A : Option Addr} {n c : Nat} {L : List Int} {hi : Nat} (h : OwnI X W (.slice A n c) L) (hs : Stp U V W W') (hr : LIs W A n c L X.heap.size hi) (h1 : hi ≤ U ∨ U < X.heap.size) (h2 : hi ≤ V ∨ V < X.heap.size) : OwnI X W' (.slice A n c) L := by
  obtain ⟨h0, h1' | ⟨g, cap, cur, e, hg, hh, h3⟩⟩ := h
  · exact ⟨h0, .inl h1'⟩
  · have e2 : A = some ⟨g, 0, none⟩ := by simp at e; exact e.1
    have := hr.2 g 0 e2
    exact ⟨h0, .inr ⟨g, cap, cur, e, hg, (hs.blk g ((Array.getElem?_eq_some_iff.1 hh).1) (by omega) (by omega)).trans hh, h3⟩⟩
theorem UA.stp {B : Nat} {i : Bool} {c : Int} (h : UA B i c W) (hs : Stp U V W W') (h1 : B ≠ U) (h2 : B ≠ V) : UA B i c W' := by
  have hb := hs.blk B h.lt h1 h2
  exact ⟨(World.cell?_of_block (w := W) hb).trans h.c0, (World.cell?_of_block (w := W) hb).trans h.c1, (World.cell?_of_block (w := W) hb).trans h.c2, (World.frozen?_of_block (w := W) hb).trans h.f0, (World.frozen?_of_block (w := W) hb).trans h.f1⟩
theorem RA.stp {B : Nat} {i : Bool} {c : Int} (h : RA B i c W) (hs : Stp U V W W') (h1 : B ≠ U) (h2 : B ≠ V) : RA B i c W' := by
  have hb := hs.blk B h.lt h1 h2
  exact ⟨(World.cell?_of_block (w := W) hb).trans h.c0, (World.cell?_of_block (w := W) hb).trans h.c1, (World.frozen?_of_block (w := W) hb).trans h.f0, (World.frozen?_of_block (w := W) hb).trans h.f1⟩
/-- A variable that holds a matrix. -/
structure Bx (W : World) (b : Nat) (R C : Int) (s : Value) : Prop where
  c0 : W.cell? ⟨b, 0, none⟩ = some (.int .i64 R)
  c1 : W.cell? ⟨b, 1, none⟩ = some (.int .i64 C)
  c2 : W.cell? ⟨b, 2, none⟩ = some s
theorem Bx.stp {b : Nat} {R C : Int} {s : Value} (h : Bx W b R C s) (hs : Stp U V W W') (h1 : b ≠ U) (h2 : b ≠ V) : Bx W' b R C s := ⟨hs.cell h1 h2 h.c0, hs.cell h1 h2 h.c1, hs.cell h1 h2 h.c2⟩
theorem Bx.keep {b : Nat} {R C : Int} {s : Value} (h : Bx W b R C s) (k : Below W.heap.size W W') : Bx W' b R C s := ⟨cell_keep h.c0 k, cell_keep h.c1 k, cell_keep h.c2 k⟩
theorem LIs.keep {A : Option Addr} {n c : Nat} {L : List Int} {lo hi : Nat} (h : LIs W A n c L lo hi) (k : Below W.heap.size W W') : LIs W' A n c L lo hi := ⟨h.1.keep k, h.2⟩
/-- A list written over: nothing else is. -/
theorem iOver2 {X w : World} {A : Option Addr} {n c : Nat} {L : List Int} (ho : OwnI X w (.slice A n c) L) :
    Calls Try.prog 34 #[.slice A n c] w fun e w' => e = .returned (.tuple #[]) ∧ ∀ g, (∀ b o, A = some ⟨b, o, none⟩ → b = g) → Stp g g w w' := by
  by_cases h0 : 0 < L.length
  · have hr := ho.rs
    obtain ⟨g, rfl, hg, hgl, rfl, hc, ht⟩ := ho.some h0
    obtain ⟨cs, hb, hcs⟩ : ∃ cs, Blk w g 3 cs ∧ ∀ j, j < L.length → cs[j]? = some (.int .i64 (L.getD j 0)) := by
      rcases ho.2 with ⟨h1, _⟩ | ⟨g', cap, cur, h1, hg', hh, h3⟩
      · cases h1
      · obtain ⟨rfl, rfl⟩ : g = g' ∧ c = cap := by simpa using h1
        refine ⟨cur, hh, fun j hj => ?_⟩
        obtain ⟨b, o, e, hb, hrow⟩ := hr.at_ h0
        obtain ⟨rfl, rfl⟩ : g = b ∧ 0 = o := by simpa using e
        rw [← hrow j hj, Nat.zero_add]
        exact (Blk.cell (t := 3) hh j).symm
    have hll : L.length ≤ 9223372036854775807 := by omega
    have HB := Lib.hid hb
    have HC := Lib.hid hcs
    clear hr ho hb hcs
    go_enter Try.func34, Try.ntmps34
    go_wp2_with fail
    go_loopg [2] L.length (fun gg s2 wr => ∃ (k : Nat) (ds : Array Value), k ≤ L.length ∧ L.length ≤ gg + k ∧ s2 = .int .i64 k ∧ Stp g g w wr ∧ Blk wr g 3 ds ∧ ∀ j, k ≤ j → j < L.length → ds[j]? = some (.int .i64 (L.getD j 0)))
    case atStart => exact ⟨0, cs, by omega, by omega, rfl, Stp.refl, HB.out, fun j _ hj => HC.out j hj⟩
    case round =>
      obtain ⟨k, ds, hk, hgg, rfl, hV, hb, hcs⟩ := hrel
      by_cases hlt : k < L.length
      · have hcell := hb.cell k
        rw [hcs k (Nat.le_refl _) hlt] at hcell
        have hmark := hb.mark k
        obtain ⟨x, hx⟩ : ∃ x, L.getD k 0 = x := ⟨_, rfl⟩
        rw [hx] at hcell
        have HB2 := Lib.hid hb
        have HC2 := Lib.hid hcs
        have HV2 := Lib.hid hV
        clear hb hcs hV hx
        go_wp2_with fail
        go_roundg (L.length - (k + 1))
        case measure => omega
        case rel =>
          refine ⟨k + 1, _, by omega, by omega, by go_num, HV2.out.trans ⟨rfl, rfl, rfl, by simp [World.setCell], fun j _ h1 _ => Below.heap_setCell _ ⟨g, k, none⟩ _ _ h1⟩, HB2.out.set k _, fun j h1 h2 => ?_⟩
          rw [Array.getElem?_setIfInBounds, if_neg (by omega)]
          exact HC2.out j (by omega) h2
      · obtain rfl : k = L.length := by omega
        clear hcs
        have HV2 := Lib.hid hV
        clear hV
        go_wp2_with fail
        go_end0
        exact ⟨rfl, fun g' hg' => by obtain rfl := hg' _ _ rfl; exact HV2.out⟩
  · obtain rfl : L = [] := List.length_eq_zero_iff.1 (by omega)
    have hr := ho.rs
    obtain rfl := hr.len
    exact (iOverNil A c w).mono fun e w' ⟨h1, h2⟩ => ⟨h1, fun g _ => Stp.bel h2⟩
theorem over_at {A : Option Addr} {n c : Nat} {L : List Int} {lo hi : Nat} (h : LIs W A n c L lo hi) : ∃ g, (∀ b o, A = some ⟨b, o, none⟩ → b = g) ∧ lo ≤ g ∧ (g < hi ∨ g = lo) := by
  by_cases h1 : ∃ b o, A = some ⟨b, o, none⟩
  · obtain ⟨b, o, rfl⟩ := h1
    have := h.2 b o rfl
    exact ⟨b, fun b' o' e => by cases e; rfl, this.1, .inl this.2⟩
  · exact ⟨lo, fun b o e => absurd ⟨b, o, e⟩ h1, Nat.le_refl _, .inr rfl⟩
/-- Has a matrix more numbers than are gone through here? -/
theorem lLong {R C : Int} {A : Option Addr} {n c : Nat} (w : World) : Calls Try.prog 12 #[.agg #[.int .i64 R, .int .i64 C, .slice A n c]] w fun e w' => e = .returned (.bool (decide ((160 : Int) < (n : Int)))) ∧ Below w.heap.size w w' := by
  go_enter Try.func12, Try.ntmps12
  go_wp2_with fail
  go_ret
  exact ⟨rfl, by (repeat (first | assumption | exact Below.refl _ _ | with_reducible refine past_t _ ?_ | with_reducible refine below_a _ ?_ | with_reducible refine Below.drew ?_ | with_reducible refine below_d _ ?_ | (with_reducible refine Below.setCell ?_ (by (show _ ≤ _; repeat (first | exact Nat.le_refl _ | assumption | (omega; done) | with_reducible exact le_past (Nat.le_refl _) | with_reducible refine le_past ?_ | with_reducible refine le_al ?_ | with_reducible refine le_set ?_ | with_reducible refine le_p1 ?_))) _)))⟩
end Go.Proofs.Ytlhadociaekkhaa
/- The chapter's smallest examples. -/
namespace Go.Proofs.Ytlhadociaekkhaa
set_option linter.unusedVariables false
set_option maxRecDepth 100000
open Go.RowKit Go.Shelf
theorem msLit (w : World) (zs : List Int) (cs : Array Value) (T : TypeId) (fr : Nat × Nat) (hcs : cs = (zs.map (Value.int .i64)).toArray) (n b : Nat) (hn : n = zs.length) (hb : b = w.heap.size) (hz : zs.length ≤ 1000) :
    MS (w.alloc (.cells cs T fr)) (b + 1) (.slice (some ⟨b, 0, none⟩) n n) zs := by
  subst hn
  exact ⟨_, _, rfl, RS.lit .i64 w zs cs T hcs zs.length rfl (by omega) zs.length rfl b hb, fun b' o e => by cases e; omega⟩
theorem all_small {zs : List Int} (h : zs.all (fun x => decide (-1000 ≤ x) && decide (x ≤ 1000)) = true) : ∀ j, j < zs.length → -1000 ≤ zs.getD j 0 ∧ zs.getD j 0 ≤ 1000 := fun j hj => by
  have e : zs.getD j 0 = zs[j] := by simp [List.getD, hj]
  rw [e]
  have := List.all_eq_true.1 h zs[j] (List.getElem_mem hj)
  simpa using this
theorem allI_of {zs : List Int} (h : zs.all (fun x => decide (-9223372036854775808 ≤ x) && decide (x ≤ 9223372036854775807)) = true) : AllI zs := fun n hn => by
  have := List.all_eq_true.1 h n hn
  simp only [Bool.and_eq_true, decide_eq_true_eq] at this
  exact this
/-- A list of whole numbers written out, turned to fixed numbers, as a matrix. -/
theorem lOfL (zs : List Int) {r c : Int} {w0 : World} {cs : Array Value} {T : TypeId} {fr : Nat × Nat} {n b : Nat} (hcs : cs = (zs.map (Value.int .i64)).toArray) (hn : n = zs.length) (hb : b = w0.heap.size) (hz : (decide (0 < zs.length) && decide (zs.length ≤ 1000) && zs.all (fun x => decide (-1000 ≤ x) && decide (x ≤ 1000))) = true) :
    Calls Try.prog 41 #[.int .i64 r, .int .i64 c, .slice (some ⟨b, 0, none⟩) n n] (w0.alloc (.cells cs T fr)) fun e w' => ∃ A' c', e = .returned (.agg #[.int .i64 r, .int .i64 c, .slice A' zs.length c']) ∧ OwnI (w0.alloc (.cells cs T fr)) w' (.slice A' zs.length c') (wholeL zs zs.length) ∧ Below (w0.alloc (.cells cs T fr)).heap.size (w0.alloc (.cells cs T fr)) w' := by
  simp only [Bool.and_eq_true, decide_eq_true_eq] at hz
  exact lOf (msLit w0 zs cs T fr hcs n b hn hb hz.1.2) hz.1 (all_small hz.2)
theorem lOfD (zs : List Int) {r c : Int} {w0 : World} {cs : Array Value} {T : TypeId} {fr : Nat × Nat} {n b : Nat} (hcs : cs = (zs.map (Value.int .i64)).toArray) (hn : n = zs.length) (hb : b = w0.heap.size) (hz : (decide (0 < zs.length) && decide (zs.length ≤ 1000) && zs.all (fun x => decide (-1000 ≤ x) && decide (x ≤ 1000))) = true) :
    Calls Try.prog 41 #[.int .i64 r, .int .i64 c, .slice (some ⟨b, 0, none⟩) n n] (w0.alloc (.cells cs T fr)).drew fun e w' => ∃ A' c', e = .returned (.agg #[.int .i64 r, .int .i64 c, .slice A' zs.length c']) ∧ OwnI (w0.alloc (.cells cs T fr)).drew w' (.slice A' zs.length c') (wholeL zs zs.length) ∧ Below (w0.alloc (.cells cs T fr)).drew.heap.size (w0.alloc (.cells cs T fr)).drew w' := by
  simp only [Bool.and_eq_true, decide_eq_true_eq] at hz
  exact lOf ((msLit w0 zs cs T fr hcs n b hn hb hz.1.2).keep (Below.drew (Below.refl _ _))) hz.1 (all_small hz.2)
theorem k_mul : mulM 2 2 [4294967296, 8589934592, 12884901888, 17179869184] 2 2 [0, 4294967296, 4294967296, 0] false 0 = ((2, 2, [8589934592, 4294967296, 17179869184, 12884901888], 0), false, 16) := by decide +kernel
theorem k_turn : turnR 2 2 [4294967296, 8589934592, 12884901888, 17179869184] = (2, 2, [4294967296, 12884901888, 8589934592, 17179869184], 0) := by decide +kernel
theorem k_w1 : wholeL [1, 2, 3, 4] ([1, 2, 3, 4] : List Int).length = [4294967296, 8589934592, 12884901888, 17179869184] := by decide +kernel
theorem k_w2 : wholeL [0, 1, 1, 0] ([0, 1, 1, 0] : List Int).length = [0, 4294967296, 4294967296, 0] := by decide +kernel
theorem k_w3 : wholeL [2, 1, 4, 3] ([2, 1, 4, 3] : List Int).length = [8589934592, 4294967296, 17179869184, 12884901888] := by decide +kernel
theorem k_w4 : wholeL [1, 3, 2, 4] ([1, 3, 2, 4] : List Int).length = [4294967296, 12884901888, 8589934592, 17179869184] := by decide +kernel
theorem bel_trans {V W X : World} (h : Below V.heap.size V W) (k : Below W.heap.size W X) : Below V.heap.size V X := h.trans (k.mono h.size)
set_option maxHeartbeats 8000000 in
theorem lAwake7 (w : World) : Calls Try.prog 13 #[] w fun e w' => e = .returned (.bool true) ∧ Below w.heap.size w w' := by
  go_enter Try.func13, Try.ntmps13
  go_upto_region 2 with (first | (go_at_call 10; refine (uNew _).mono ?_; rintro e w1 ⟨rfl, rfl⟩))
  refine wp_gen (fun W0 hW0 => ?_)
  have hU : UA w.heap.size false 0 W0 := by rw [hW0]; exact ⟨by (first | (simp [go_sem]; done) | (simp [go_sem, ↓IntWalk.iteOmega]; done)), by (first | (simp [go_sem]; done) | (simp [go_sem, ↓IntWalk.iteOmega]; done)), by (first | (simp [go_sem]; done) | (simp [go_sem, ↓IntWalk.iteOmega]; done)), by (first | (simp [go_sem]; done) | (simp [go_sem, ↓IntWalk.iteOmega]; done)), by (first | (simp [go_sem]; done) | (simp [go_sem, ↓IntWalk.iteOmega]; done))⟩
  have hB : Below w.heap.size w W0 := by rw [hW0]; (repeat (first | assumption | exact Below.refl _ _ | with_reducible refine past_t _ ?_ | with_reducible refine below_a _ ?_ | with_reducible refine Below.drew ?_ | with_reducible refine below_d _ ?_ | (with_reducible refine Below.setCell ?_ (by (show _ ≤ _; repeat (first | exact Nat.le_refl _ | assumption | (omega; done) | with_reducible exact le_past (Nat.le_refl _) | with_reducible refine le_past ?_ | with_reducible refine le_al ?_ | with_reducible refine le_set ?_ | with_reducible refine le_p1 ?_))) _)))
  have hUl := hU.lt
  clear hW0
  go_upto_region 3 with (first | (go_at_call 41; refine (lOfL [1, 2, 3, 4] (by rfl) (by rfl) (by rfl) (by decide)).mono ?_; rintro e x1 ⟨A1, c1, rfl, ho1, hb1⟩) | (go_at_call 41; refine (lOfL [0, 1, 1, 0] (by rfl) (by rfl) (by rfl) (by decide)).mono ?_; rintro e x2 ⟨A2, c2, rfl, ho2, hb2⟩))
  rw [k_w1] at ho1
  rw [k_w2] at ho2
  simp only [List.length_cons, List.length_nil, Nat.zero_add, Nat.reduceAdd] at ho1 ho2
  have b1 : Below W0.heap.size W0 x1 := (below_a _ (Below.refl _ _)).trans (hb1.mono (by simp only [World.size_alloc]; omega))
  have b2 : Below x1.heap.size x1 x2 := (below_a _ (Below.refl _ _)).trans (hb2.mono (by simp only [World.size_alloc]; omega))
  have z1 := b1.size
  have z2 := b2.size
  have l1 := (own_ri (ho1.keep b2))
  have l2 := own_ri ho2
  simp only [World.size_alloc] at l1 l2
  clear ho1 ho2 hb1 hb2
  refine wp_gen (fun W1 hW => ?_)
  have hs : Stp W1.heap.size W1.heap.size W0 W1 := (Stp.bel b1).trans ((Stp.bel b2).trans (by rw [hW]; exact Stp.bel (by (repeat (first | assumption | exact Below.refl _ _ | with_reducible refine past_t _ ?_ | with_reducible refine below_a _ ?_ | with_reducible refine Below.drew ?_ | with_reducible refine below_d _ ?_ | (with_reducible refine Below.setCell ?_ (by (show _ ≤ _; repeat (first | exact Nat.le_refl _ | assumption | (omega; done) | with_reducible exact le_past (Nat.le_refl _) | with_reducible refine le_past ?_ | with_reducible refine le_al ?_ | with_reducible refine le_set ?_ | with_reducible refine le_p1 ?_))) _))))))
  have hzW1 := hs.size
  replace hB := hs.below hB (by omega) (by omega)
  replace hU := hU.stp hs (by omega) (by omega)
  have b3 : Below x2.heap.size x2 W1 := by rw [hW]; (repeat (first | assumption | exact Below.refl _ _ | with_reducible refine past_t _ ?_ | with_reducible refine below_a _ ?_ | with_reducible refine Below.drew ?_ | with_reducible refine below_d _ ?_ | (with_reducible refine Below.setCell ?_ (by (show _ ≤ _; repeat (first | exact Nat.le_refl _ | assumption | (omega; done) | with_reducible exact le_past (Nat.le_refl _) | with_reducible refine le_past ?_ | with_reducible refine le_al ?_ | with_reducible refine le_set ?_ | with_reducible refine le_p1 ?_))) _)))
  have m1 := l1.keep b3
  have m2 := l2.keep b3
  have v1 : Bx W1 x2.heap.size 2 2 (.slice A1 4 c1) := by rw [hW]; exact ⟨by (first | (simp [go_sem]; done) | (simp [go_sem, ↓IntWalk.iteOmega]; done)), by (first | (simp [go_sem]; done) | (simp [go_sem, ↓IntWalk.iteOmega]; done)), by (first | (simp [go_sem]; done) | (simp [go_sem, ↓IntWalk.iteOmega]; done))⟩
  have v2 : Bx W1 (x2.heap.size + 1) 2 2 (.slice A2 4 c2) := by rw [hW]; exact ⟨by (first | (simp [go_sem]; done) | (simp [go_sem, ↓IntWalk.iteOmega]; done)), by (first | (simp [go_sem]; done) | (simp [go_sem, ↓IntWalk.iteOmega]; done)), by (first | (simp [go_sem]; done) | (simp [go_sem, ↓IntWalk.iteOmega]; done))⟩
  have y1 := World.block_lt_of_cell? _ _ v2.c0
  clear hW b1 b2 b3 l1 l2 hs
  generalize x2.heap.size = k1 at *
  simp only at y1
  have hc := xMul hU ⟨by omega, by omega⟩ (R1 := 2) (C1 := 2) (R2 := 2) (C2 := 2) m1.1 (m1.fr (by omega)) (allI_of (by decide)) m2.1 (m2.fr (by omega)) (allI_of (by decide))
  rw [k_mul] at hc
  have HC := Lib.hid hc
  clear hc
  have v1_0 := v1.c0
  have v1_1 := v1.c1
  have v1_2 := v1.c2
  have v2_0 := v2.c0
  have v2_1 := v2.c1
  have v2_2 := v2.c2
  go_upto_region 4 with ((go_at_call 16; refine HC.out.mono ?_; rintro e x3 ⟨A3, n3, c3, rfl, ho3, hb3⟩))
  have u3 := (hU.put false 16).keep (by rw [put_size]; exact hb3)
  clear v1_0 v1_1 v1_2
  clear v2_0 v2_1 v2_2
  refine wp_gen (fun W2 hW => ?_)
  have hs : Stp w.heap.size w.heap.size W1 W2 := (Stp.put1 hb3).trans (by rw [hW]; exact Stp.bel (by (repeat (first | assumption | exact Below.refl _ _ | with_reducible refine past_t _ ?_ | with_reducible refine below_a _ ?_ | with_reducible refine Below.drew ?_ | with_reducible refine below_d _ ?_ | (with_reducible refine Below.setCell ?_ (by (show _ ≤ _; repeat (first | exact Nat.le_refl _ | assumption | (omega; done) | with_reducible exact le_past (Nat.le_refl _) | with_reducible refine le_past ?_ | with_reducible refine le_al ?_ | with_reducible refine le_set ?_ | with_reducible refine le_p1 ?_))) _)))))
  have hzW2 := hs.size
  replace hB := hs.below hB (by omega) (by omega)
  replace m1 := m1.stp hs (by omega) (by omega)
  replace m2 := m2.stp hs (by omega) (by omega)
  replace v1 := v1.stp hs (by omega) (by omega)
  replace v2 := v2.stp hs (by omega) (by omega)
  have b3 : Below x3.heap.size x3 W2 := by rw [hW]; (repeat (first | assumption | exact Below.refl _ _ | with_reducible refine past_t _ ?_ | with_reducible refine below_a _ ?_ | with_reducible refine Below.drew ?_ | with_reducible refine below_d _ ?_ | (with_reducible refine Below.setCell ?_ (by (show _ ≤ _; repeat (first | exact Nat.le_refl _ | assumption | (omega; done) | with_reducible exact le_past (Nat.le_refl _) | with_reducible refine le_past ?_ | with_reducible refine le_al ?_ | with_reducible refine le_set ?_ | with_reducible refine le_p1 ?_))) _)))
  replace hU := u3.keep b3
  have z3 : W1.heap.size ≤ x3.heap.size := by have := hb3.size; rwa [put_size] at this
  have m3 := (own_ri ho3).keep b3
  have v3 : Bx W2 x3.heap.size 2 2 (.slice A3 n3 c3) := by rw [hW]; exact ⟨by (first | (simp [go_sem]; done) | (simp [go_sem, ↓IntWalk.iteOmega]; done)), by (first | (simp [go_sem]; done) | (simp [go_sem, ↓IntWalk.iteOmega]; done)), by (first | (simp [go_sem]; done) | (simp [go_sem, ↓IntWalk.iteOmega]; done))⟩
  have y2 := World.block_lt_of_cell? _ _ v3.c0
  clear hW b3 ho3 hb3 u3 hs HC
  generalize x3.heap.size = k2 at *
  simp only at y2
  have hc := xTurn (R := 2) (C := 2) m1.1
  rw [k_turn] at hc
  have HC := Lib.hid hc
  clear hc
  have v1_0 := v1.c0
  have v1_1 := v1.c1
  have v1_2 := v1.c2
  go_upto_region 5 with ((go_at_call 24; refine HC.out.mono ?_; rintro e x4 ⟨A4, n4, c4, rfl, ho4, hb4⟩))
  clear v1_0 v1_1 v1_2
  refine wp_gen (fun W3 hW => ?_)
  have hs : Stp W3.heap.size W3.heap.size W2 W3 := (Stp.bel hb4).trans (by rw [hW]; exact Stp.bel (by (repeat (first | assumption | exact Below.refl _ _ | with_reducible refine past_t _ ?_ | with_reducible refine below_a _ ?_ | with_reducible refine Below.drew ?_ | with_reducible refine below_d _ ?_ | (with_reducible refine Below.setCell ?_ (by (show _ ≤ _; repeat (first | exact Nat.le_refl _ | assumption | (omega; done) | with_reducible exact le_past (Nat.le_refl _) | with_reducible refine le_past ?_ | with_reducible refine le_al ?_ | with_reducible refine le_set ?_ | with_reducible refine le_p1 ?_))) _)))))
  have hzW3 := hs.size
  replace hB := hs.below hB (by omega) (by omega)
  replace hU := hU.stp hs (by omega) (by omega)
  replace m1 := m1.stp hs (by omega) (by omega)
  replace m2 := m2.stp hs (by omega) (by omega)
  replace v1 := v1.stp hs (by omega) (by omega)
  replace v2 := v2.stp hs (by omega) (by omega)
  replace m3 := m3.stp hs (by omega) (by omega)
  replace v3 := v3.stp hs (by omega) (by omega)
  have b3 : Below x4.heap.size x4 W3 := by rw [hW]; (repeat (first | assumption | exact Below.refl _ _ | with_reducible refine past_t _ ?_ | with_reducible refine below_a _ ?_ | with_reducible refine Below.drew ?_ | with_reducible refine below_d _ ?_ | (with_reducible refine Below.setCell ?_ (by (show _ ≤ _; repeat (first | exact Nat.le_refl _ | assumption | (omega; done) | with_reducible exact le_past (Nat.le_refl _) | with_reducible refine le_past ?_ | with_reducible refine le_al ?_ | with_reducible refine le_set ?_ | with_reducible refine le_p1 ?_))) _)))
  have z4 := hb4.size
  have m4 := (own_ri ho4).keep b3
  have v4 : Bx W3 x4.heap.size 2 2 (.slice A4 n4 c4) := by rw [hW]; exact ⟨by (first | (simp [go_sem]; done) | (simp [go_sem, ↓IntWalk.iteOmega]; done)), by (first | (simp [go_sem]; done) | (simp [go_sem, ↓IntWalk.iteOmega]; done)), by (first | (simp [go_sem]; done) | (simp [go_sem, ↓IntWalk.iteOmega]; done))⟩
  clear hW b3 ho4 hb4 hs HC
  generalize x4.heap.size = k3 at *
  have c0 := v3.c0
  have c1 := v3.c1
  have c2 := v3.c2
  have d0 := v4.c0
  have d1 := v4.c1
  have d2 := v4.c2
  have M3 := Lib.hid m3.1
  have M4 := Lib.hid m4.1
  clear m1 m2 m3 m4 v1 v2 hU
  have B3 := Lib.hid hB
  clear hB
  have keepS : ∀ w' : World, Below W3.heap.size W3 w' → (Below W3.heap.size W3 w' ∧ w'.cell? ⟨k2, 0, none⟩ = some (.int .i64 2) ∧ w'.cell? ⟨k2, 1, none⟩ = some (.int .i64 2) ∧ w'.cell? ⟨k2, 2, none⟩ = some (.slice A3 n3 c3) ∧ w'.cell? ⟨k3, 0, none⟩ = some (.int .i64 2) ∧ w'.cell? ⟨k3, 1, none⟩ = some (.int .i64 2) ∧ w'.cell? ⟨k3, 2, none⟩ = some (.slice A4 n4 c4)) := fun w' h => ⟨h, cell_keep c0 h, cell_keep c1 h, cell_keep c2 h, cell_keep d0 h, cell_keep d1 h, cell_keep d2 h⟩
  have KS := Lib.hid keepS
  clear keepS
  go_wp2_with fail
  go_region_held3 (fun w' => Below W3.heap.size W3 w' ∧ w'.cell? ⟨k2, 0, none⟩ = some (.int .i64 2) ∧ w'.cell? ⟨k2, 1, none⟩ = some (.int .i64 2) ∧ w'.cell? ⟨k2, 2, none⟩ = some (.slice A3 n3 c3) ∧ w'.cell? ⟨k3, 0, none⟩ = some (.int .i64 2) ∧ w'.cell? ⟨k3, 1, none⟩ = some (.int .i64 2) ∧ w'.cell? ⟨k3, 2, none⟩ = some (.slice A4 n4 c4)) (((try go_split_ands); refine KS.out _ ?_; (repeat (first | assumption | exact Below.refl _ _ | with_reducible refine past_t _ ?_ | with_reducible refine below_a _ ?_ | with_reducible refine Below.drew ?_ | with_reducible refine below_d _ ?_ | (with_reducible refine Below.setCell ?_ (by (show _ ≤ _; repeat (first | exact Nat.le_refl _ | assumption | (omega; done) | with_reducible exact le_past (Nat.le_refl _) | with_reducible refine le_past ?_ | with_reducible refine le_al ?_ | with_reducible refine le_set ?_ | with_reducible refine le_p1 ?_))) _))))) (((try go_split_ands); first | (go_at_call 41; refine Calls.mono (lOfD [2, 1, 4, 3] (by rfl) (by rfl) (by rfl) (by decide)) ?_; rintro _ x5 ⟨A5, c5, rfl, ho5, hb5⟩; rw [k_w3] at ho5; have hb55 := bel_trans (V := W3) (by (repeat (first | assumption | exact Below.refl _ _ | with_reducible refine past_t _ ?_ | with_reducible refine below_a _ ?_ | with_reducible refine Below.drew ?_ | with_reducible refine below_d _ ?_ | (with_reducible refine Below.setCell ?_ (by (show _ ≤ _; repeat (first | exact Nat.le_refl _ | assumption | (omega; done) | with_reducible exact le_past (Nat.le_refl _) | with_reducible refine le_past ?_ | with_reducible refine le_al ?_ | with_reducible refine le_set ?_ | with_reducible refine le_p1 ?_))) _)))) hb5) | (go_at_call 41; refine Calls.mono (lOfL [1, 3, 2, 4] (by rfl) (by rfl) (by rfl) (by decide)) ?_; rintro _ x6 ⟨A6, c6, rfl, ho6, hb6⟩; rw [k_w4] at ho6; have hb66 := bel_trans (V := W3) (by (repeat (first | assumption | exact Below.refl _ _ | with_reducible refine past_t _ ?_ | with_reducible refine below_a _ ?_ | with_reducible refine Below.drew ?_ | with_reducible refine below_d _ ?_ | (with_reducible refine Below.setCell ?_ (by (show _ ≤ _; repeat (first | exact Nat.le_refl _ | assumption | (omega; done) | with_reducible exact le_past (Nat.le_refl _) | with_reducible refine le_past ?_ | with_reducible refine le_al ?_ | with_reducible refine le_set ?_ | with_reducible refine le_p1 ?_))) _)))) hb6) | (go_at_call 20; refine Calls.mono (kSameMat (M3.out.keep (by (repeat (first | assumption | exact Below.refl _ _ | with_reducible refine past_t _ ?_ | with_reducible refine below_a _ ?_ | with_reducible refine Below.drew ?_ | with_reducible refine below_d _ ?_ | (with_reducible refine Below.setCell ?_ (by (show _ ≤ _; repeat (first | exact Nat.le_refl _ | assumption | (omega; done) | with_reducible exact le_past (Nat.le_refl _) | with_reducible refine le_past ?_ | with_reducible refine le_al ?_ | with_reducible refine le_set ?_ | with_reducible refine le_p1 ?_))) _))))) (ho5.rs.keep (by (repeat (first | assumption | exact Below.refl _ _ | with_reducible refine past_t _ ?_ | with_reducible refine below_a _ ?_ | with_reducible refine Below.drew ?_ | with_reducible refine below_d _ ?_ | (with_reducible refine Below.setCell ?_ (by (show _ ≤ _; repeat (first | exact Nat.le_refl _ | assumption | (omega; done) | with_reducible exact le_past (Nat.le_refl _) | with_reducible refine le_past ?_ | with_reducible refine le_al ?_ | with_reducible refine le_set ?_ | with_reducible refine le_p1 ?_))) _)))))) ?_; rintro _ x7 ⟨rfl, hb7⟩; have hb77 := bel_trans (V := W3) (by (repeat (first | assumption | exact Below.refl _ _ | with_reducible refine past_t _ ?_ | with_reducible refine below_a _ ?_ | with_reducible refine Below.drew ?_ | with_reducible refine below_d _ ?_ | (with_reducible refine Below.setCell ?_ (by (show _ ≤ _; repeat (first | exact Nat.le_refl _ | assumption | (omega; done) | with_reducible exact le_past (Nat.le_refl _) | with_reducible refine le_past ?_ | with_reducible refine le_al ?_ | with_reducible refine le_set ?_ | with_reducible refine le_p1 ?_))) _)))) hb7) | (go_at_call 20; refine Calls.mono (kSameMat (M4.out.keep (by (repeat (first | assumption | exact Below.refl _ _ | with_reducible refine past_t _ ?_ | with_reducible refine below_a _ ?_ | with_reducible refine Below.drew ?_ | with_reducible refine below_d _ ?_ | (with_reducible refine Below.setCell ?_ (by (show _ ≤ _; repeat (first | exact Nat.le_refl _ | assumption | (omega; done) | with_reducible exact le_past (Nat.le_refl _) | with_reducible refine le_past ?_ | with_reducible refine le_al ?_ | with_reducible refine le_set ?_ | with_reducible refine le_p1 ?_))) _))))) (ho6.rs.keep (by (repeat (first | assumption | exact Below.refl _ _ | with_reducible refine past_t _ ?_ | with_reducible refine below_a _ ?_ | with_reducible refine Below.drew ?_ | with_reducible refine below_d _ ?_ | (with_reducible refine Below.setCell ?_ (by (show _ ≤ _; repeat (first | exact Nat.le_refl _ | assumption | (omega; done) | with_reducible exact le_past (Nat.le_refl _) | with_reducible refine le_past ?_ | with_reducible refine le_al ?_ | with_reducible refine le_set ?_ | with_reducible refine le_p1 ?_))) _)))))) ?_; rintro _ x8 ⟨rfl, hb8⟩; have hb88 := bel_trans (V := W3) (by (repeat (first | assumption | exact Below.refl _ _ | with_reducible refine past_t _ ?_ | with_reducible refine below_a _ ?_ | with_reducible refine Below.drew ?_ | with_reducible refine below_d _ ?_ | (with_reducible refine Below.setCell ?_ (by (show _ ≤ _; repeat (first | exact Nat.le_refl _ | assumption | (omega; done) | with_reducible exact le_past (Nat.le_refl _) | with_reducible refine le_past ?_ | with_reducible refine le_al ?_ | with_reducible refine le_set ?_ | with_reducible refine le_p1 ?_))) _)))) hb8)))
  go_wp2_with fail
  go_ret
  exact ⟨rfl, bel_trans B3.out (by (repeat (first | assumption | exact Below.refl _ _ | with_reducible refine past_t _ ?_ | with_reducible refine below_a _ ?_ | with_reducible refine Below.drew ?_ | with_reducible refine below_d _ ?_ | (with_reducible refine Below.setCell ?_ (by (show _ ≤ _; repeat (first | exact Nat.le_refl _ | assumption | (omega; done) | with_reducible exact le_past (Nat.le_refl _) | with_reducible refine le_past ?_ | with_reducible refine le_al ?_ | with_reducible refine le_set ?_ | with_reducible refine le_p1 ?_))) _))))⟩
end Go.Proofs.Ytlhadociaekkhaa
