/- The document's lists (printed by mk_rvec.py). -/
import Derived.Test.YtfhiodclbabdkaaRUnit
import Derived.Test.YtfhiodclbabdkaaVec3
import Derived.Deep.RegionHeld3
namespace Go.Proofs.Ytfhiodclbabdkaa
set_option linter.unusedVariables false
set_option maxRecDepth 100000
open Go.RowKit
theorem r4Add2 {B : Nat} {i : Bool} {c : Int} {w : World} (h : RA B i c w) {v : Value} {x y : Int} (hx : InI x) (hy : InI y) (hv : SL w B v [x, y]) (hc : 0 ≤ c ∧ c + 2 ≤ 4611686018427387904) :
    Calls Try.prog 71 #[UP B, v] w fun e w' => e = .returned (.int .i64 (gSum i x y).1) ∧ Below (put B (gSum i x y).2 (c + 2) w).heap.size (put B (gSum i x y).2 (c + 2) w) w' :=
  r4Add h v [x, y] (all2 hx hy) hv hc
theorem r4Mul2 {B : Nat} {i : Bool} {c : Int} {w : World} (h : RA B i c w) {v : Value} {x y : Int} (hx : InI x) (hy : InI y) (hv : SL w B v [x, y]) (hc : 0 ≤ c ∧ c + 2 ≤ 4611686018427387904) :
    Calls Try.prog 74 #[UP B, v] w fun e w' => e = .returned (.int .i64 (gScale i x y).1) ∧ Below (put B (gScale i x y).2 (c + 2) w).heap.size (put B (gScale i x y).2 (c + 2) w) w' :=
  r4Mul h v [x, y] (all2 hx hy) hv hc
theorem r4Less2 {B : Nat} {i : Bool} {c : Int} {w : World} (h : RA B i c w) {x y : Int} (hx : InI x) (hy : InI y) (hc : 0 ≤ c ∧ c + 1 ≤ 4611686018427387904) :
    Calls Try.prog 73 #[UP B, .int .i64 x, .int .i64 y] w fun e w' => e = .returned (.int .i64 (gLess i x y).1) ∧ Below (put B (gLess i x y).2 (c + 1) w).heap.size (put B (gLess i x y).2 (c + 1) w) w' :=
  r4Sub h ⟨hc.1, by omega⟩ x y hx hy
set_option maxHeartbeats 4000000 in
theorem r6Sum {B : Nat} {i : Bool} {c : Int} {w : World} (h : RA B i c w) (v1 v2 : Value) (a b : List Int) (ha : AllI a) (hb : AllI b) (h1 : SL w B v1 a) (h2 : SL w B v2 b) (hlen : a.length = b.length) (hc : 0 ≤ c ∧ c + 2 * a.length ≤ 4611686018427387904) (hl : a.length ≤ 1000000) :
    Calls Try.prog 29 #[UP B, v1, v2] w fun e w' => ∃ A' c', e = .returned (.tuple #[.slice A' a.length c', .int .i64 0]) ∧ OwnI w w' (.slice A' a.length c') (mapG gSum i a b a.length).1 ∧
      Below (put B (mapG gSum i a b a.length).2 (c + 2 * a.length) w).heap.size (put B (mapG gSum i a b a.length).2 (c + 2 * a.length) w) w' := by
  obtain ⟨A1, cp1, rfl, hl1, hr1⟩ := h1
  obtain ⟨A2, cp2, rfl, hl2, hr2⟩ := h2
  rw [← hlen] at hl2 hr2 ⊢
  have d1 : (((a.length : Nat) : Int) != ((a.length : Nat) : Int)) = false := by simp
  by_cases hz0 : a.length = 0
  · rw [hz0] at d1 ⊢
    have e0 : (mapG gSum i a b 0) = ([], i) := rfl
    rw [e0]
    simp only [Int.natCast_zero, Int.mul_zero, Int.add_zero]
    rw [rput_self h]
    clear h e0 ha hr1 hz0 hl1 hc hl hb hr2 hlen hl2
    go_enter Try.func29, Try.ntmps29
    go_wp2_with fail
    go_loopg [8, 9] 1 (fun g s8 s9 wr => s8 = .slice none 0 0 ∧ s9 = .int .i64 0 ∧ ∃ z, wr = past w z)
    case atStart => exact ⟨rfl, rfl, _, past_of (Below.refl _ _)⟩
    case round =>
      obtain ⟨rfl, rfl, z, rfl⟩ := hrel
      go_wp2_with fail
      go_ret2
      exact ⟨none, 0, rfl, OwnK.nil _ _ _ _, past_below _ _⟩
  have hp0 : 0 < a.length := by omega
  obtain ⟨b1, o1, rfl, hb1, hw1, hc1⟩ := hr1 hp0
  obtain ⟨b2, o2, rfl, hb2, hw2, hc2⟩ := hr2 hp0
  have hBw := h.lt
  have H := Lib.hid h
  have HR1 := Lib.hid hc1
  have HR2 := Lib.hid hc2
  have HL := Lib.hid hlen
  have HB := Lib.hid hb
  have HA := Lib.hid ha
  have HC := Lib.hid hc
  have hpl := rput_self h
  have HPL := Lib.hid hpl
  clear h hc1 hr1 ha hc hpl hc2 hr2 hlen hb
  go_enter Try.func29, Try.ntmps29
  go_wp2_with fail
  go_loopg [8, 9] a.length (fun gg s8 s9 wr => ∃ (k : Nat) (A : Option Addr) (cp : Nat), k ≤ a.length ∧ a.length ≤ gg + k ∧ s9 = .int .i64 k ∧ s8 = .slice A k cp ∧ OwnI w wr (.slice A k cp) (mapG gSum i a b k).1 ∧
    Below (put B (mapG gSum i a b k).2 (c + 2 * k) w).heap.size (put B (mapG gSum i a b k).2 (c + 2 * k) w) wr)
  case atStart =>
    refine ⟨0, none, 0, by omega, by omega, rfl, rfl, OwnK.nil _ _ _ _, ?_⟩
    have e0 : (mapG gSum i a b 0) = ([], i) := rfl
    rw [e0]
    simp only [Int.natCast_zero, Int.mul_zero, Int.add_zero]
    rw [HPL.out]
    exact Below.refl _ _
  case round =>
    obtain ⟨k, A, cp, hk, hg, rfl, rfl, hown, hbel⟩ := hrel
    have hml := mapG_len gSum i a b k
    obtain ⟨P, hP⟩ : ∃ P, (mapG gSum i a b k) = P := ⟨_, rfl⟩
    have hnx : (mapG gSum i a b (k + 1)) = ((mapG gSum i a b k).1 ++ [(gSum (mapG gSum i a b k).2 (a.getD k 0) (b.getD k 0)).1], (gSum (mapG gSum i a b k).2 (a.getD k 0) (b.getD k 0)).2) := rfl
    rw [hP] at hown hbel hnx hml
    obtain ⟨R, f⟩ := P
    simp only at hown hbel hnx hml
    obtain ⟨cc, hcc⟩ : ∃ cc : Int, c + 2 * (k : Int) = cc := ⟨_, rfl⟩
    rw [hcc] at hbel
    by_cases hlt : k < a.length
    · have hx := HA.out.get hlt
      have hx0 := HR1.out k hlt
      have hwx : b1 < (put B f cc w).heap.size := by rw [put_size]; exact hw1
      have hcx := (hbel.cell (p := ⟨b1, o1 + k, none⟩) hwx).trans ((put_cell B f cc w _ hb1).trans hx0)
      obtain ⟨x, hxx⟩ : ∃ x, a.getD k 0 = x := ⟨_, rfl⟩
      rw [hxx] at hx hcx hx0 hnx
      have hkb : k < b.length := by have := HL.out; omega
      have hy := HB.out.get hkb
      have hy0 := HR2.out k hkb
      have hwy : b2 < (put B f cc w).heap.size := by rw [put_size]; exact hw2
      have hcy := (hbel.cell (p := ⟨b2, o2 + k, none⟩) hwy).trans ((put_cell B f cc w _ hb2).trans hy0)
      obtain ⟨y, hyy⟩ : ∃ y, b.getD k 0 = y := ⟨_, rfl⟩
      rw [hyy] at hy hcy hy0 hnx
      have hua := (H.out.put f cc).keep hbel
      have hBr : B < wr.heap.size := hua.lt
      have hcb : 0 ≤ cc ∧ cc + 2 ≤ 4611686018427387904 := by have := HC.out; omega
      have hst := fun (W : World) (kp : Below wr.heap.size wr W) (v : Value) (hv : SL W B v [x, y]) => r4Add2 (hua.keep kp) hx hy hv hcb
      obtain ⟨q, hq⟩ : ∃ q, gSum f x y = q := ⟨_, rfl⟩
      rw [hq] at hnx
      simp only [hq] at hst
      obtain ⟨q1, q2⟩ := q
      simp only at hnx hst
      have hst2 : ∀ (W : World), Below wr.heap.size wr W → ∀ (v : Value) (hv : SL W B v [x, y]), Calls Try.prog 71 #[UP B, v] W fun e w' => e = .returned (.int .i64 q1) ∧ OwnI w w' (.slice A k cp) R ∧ Below (put B q2 (cc + 2) w).heap.size (put B q2 (cc + 2) w) w' ∧ w'.cell? ⟨b1, o1 + k, none⟩ = some (.int .i64 x) ∧ w'.cell? ⟨b2, o2 + k, none⟩ = some (.int .i64 y) :=
        fun W kp v hv => (hst W kp v hv).mono fun e w' h => ⟨h.1, (ownK_put (hown.keep kp) hBw _ _).keep h.2, next_put hbel kp h.2, cell_via kp h.2 hb1 hcx, cell_via kp h.2 hb2 hcy⟩
      clear hst
      have HO := Lib.hid hown
      have HE := Lib.hid hbel
      have HX := Lib.hid hnx
      have HCC := Lib.hid hcc
      have HML := Lib.hid hml
      have hRl : R.length ≤ 1000000 := by omega
      clear hown hbel hnx hP hxx hq hua hcc hml hyy
      go_wp2_with fail
      go_region_held3 (fun w' => w'.cell? ⟨b1, o1 + k, none⟩ = some (.int .i64 x) ∧ w'.cell? ⟨b2, o2 + k, none⟩ = some (.int .i64 y)) ((go_split_ands; refine ⟨?_, ?_⟩ <;> (first | assumption | (simp [go_sem, *]; done)))) ((first | (go_at_call 71; with_reducible refine Calls.mono (hst2 _ ?_ _ (SL2 ?_ ?_ ?_)) ?_; (focus ((first | ((repeat (first | assumption | exact Below.refl _ _ | with_reducible refine past_t _ ?_ | with_reducible refine below_a _ ?_ | with_reducible refine Below.drew ?_ | with_reducible refine below_d _ ?_ | (with_reducible refine Below.setCell ?_ (by (show _ ≤ _; repeat (first | exact Nat.le_refl _ | assumption | (omega; done) | with_reducible exact le_past (Nat.le_refl _) | with_reducible refine le_past ?_ | with_reducible refine le_al ?_ | with_reducible refine le_set ?_ | with_reducible refine le_p1 ?_))) _))); done) | assumption | omega | (simp; done) | (simp [go_sem]; done) | (simp; omega) | (simp [go_sem, *]; done)); done)); (focus ((first | ((repeat (first | assumption | exact Below.refl _ _ | with_reducible refine past_t _ ?_ | with_reducible refine below_a _ ?_ | with_reducible refine Below.drew ?_ | with_reducible refine below_d _ ?_ | (with_reducible refine Below.setCell ?_ (by (show _ ≤ _; repeat (first | exact Nat.le_refl _ | assumption | (omega; done) | with_reducible exact le_past (Nat.le_refl _) | with_reducible refine le_past ?_ | with_reducible refine le_al ?_ | with_reducible refine le_set ?_ | with_reducible refine le_p1 ?_))) _))); done) | assumption | omega | (simp; done) | (simp [go_sem]; done) | (simp; omega) | (simp [go_sem, *]; done)); done)); (focus ((first | ((repeat (first | assumption | exact Below.refl _ _ | with_reducible refine past_t _ ?_ | with_reducible refine below_a _ ?_ | with_reducible refine Below.drew ?_ | with_reducible refine below_d _ ?_ | (with_reducible refine Below.setCell ?_ (by (show _ ≤ _; repeat (first | exact Nat.le_refl _ | assumption | (omega; done) | with_reducible exact le_past (Nat.le_refl _) | with_reducible refine le_past ?_ | with_reducible refine le_al ?_ | with_reducible refine le_set ?_ | with_reducible refine le_p1 ?_))) _))); done) | assumption | omega | (simp; done) | (simp [go_sem]; done) | (simp; omega) | (simp [go_sem, *]; done)); done)); (focus ((first | ((repeat (first | assumption | exact Below.refl _ _ | with_reducible refine past_t _ ?_ | with_reducible refine below_a _ ?_ | with_reducible refine Below.drew ?_ | with_reducible refine below_d _ ?_ | (with_reducible refine Below.setCell ?_ (by (show _ ≤ _; repeat (first | exact Nat.le_refl _ | assumption | (omega; done) | with_reducible exact le_past (Nat.le_refl _) | with_reducible refine le_past ?_ | with_reducible refine le_al ?_ | with_reducible refine le_set ?_ | with_reducible refine le_p1 ?_))) _))); done) | assumption | omega | (simp; done) | (simp [go_sem]; done) | (simp; omega) | (simp [go_sem, *]; done)); done)); rintro _ w2 ⟨rfl, ho2, hb4, hcx2, hcy2⟩) | (refine step_append_i (by rfl) _ _ (by rfl) (put B q2 (cc + 2) w) (by rfl) (by rfl) ?_ ((ho2.base (by rw [put_size]; exact Nat.le_refl _)).keep ?_) (RS.lit .i64 _ [q1] _ _ ?_ 1 ?_ ?_ 1 ?_ _ ?_) ?_ ?_; (focus ((first | ((repeat (first | assumption | exact Below.refl _ _ | with_reducible refine past_t _ ?_ | with_reducible refine below_a _ ?_ | with_reducible refine Below.drew ?_ | with_reducible refine below_d _ ?_ | (with_reducible refine Below.setCell ?_ (by (show _ ≤ _; repeat (first | exact Nat.le_refl _ | assumption | (omega; done) | with_reducible exact le_past (Nat.le_refl _) | with_reducible refine le_past ?_ | with_reducible refine le_al ?_ | with_reducible refine le_set ?_ | with_reducible refine le_p1 ?_))) _))); done) | assumption | omega | (simp; done) | (simp [go_sem]; done) | (simp; omega) | (simp [go_sem, *]; done)); done)); (focus ((first | ((repeat (first | assumption | exact Below.refl _ _ | with_reducible refine past_t _ ?_ | with_reducible refine below_a _ ?_ | with_reducible refine Below.drew ?_ | with_reducible refine below_d _ ?_ | (with_reducible refine Below.setCell ?_ (by (show _ ≤ _; repeat (first | exact Nat.le_refl _ | assumption | (omega; done) | with_reducible exact le_past (Nat.le_refl _) | with_reducible refine le_past ?_ | with_reducible refine le_al ?_ | with_reducible refine le_set ?_ | with_reducible refine le_p1 ?_))) _))); done) | assumption | omega | (simp; done) | (simp [go_sem]; done) | (simp; omega) | (simp [go_sem, *]; done)); done)); (focus ((first | ((repeat (first | assumption | exact Below.refl _ _ | with_reducible refine past_t _ ?_ | with_reducible refine below_a _ ?_ | with_reducible refine Below.drew ?_ | with_reducible refine below_d _ ?_ | (with_reducible refine Below.setCell ?_ (by (show _ ≤ _; repeat (first | exact Nat.le_refl _ | assumption | (omega; done) | with_reducible exact le_past (Nat.le_refl _) | with_reducible refine le_past ?_ | with_reducible refine le_al ?_ | with_reducible refine le_set ?_ | with_reducible refine le_p1 ?_))) _))); done) | assumption | omega | (simp; done) | (simp [go_sem]; done) | (simp; omega) | (simp [go_sem, *]; done)); done)); (focus ((first | ((repeat (first | assumption | exact Below.refl _ _ | with_reducible refine past_t _ ?_ | with_reducible refine below_a _ ?_ | with_reducible refine Below.drew ?_ | with_reducible refine below_d _ ?_ | (with_reducible refine Below.setCell ?_ (by (show _ ≤ _; repeat (first | exact Nat.le_refl _ | assumption | (omega; done) | with_reducible exact le_past (Nat.le_refl _) | with_reducible refine le_past ?_ | with_reducible refine le_al ?_ | with_reducible refine le_set ?_ | with_reducible refine le_p1 ?_))) _))); done) | assumption | omega | (simp; done) | (simp [go_sem]; done) | (simp; omega) | (simp [go_sem, *]; done)); done)); (focus ((first | ((repeat (first | assumption | exact Below.refl _ _ | with_reducible refine past_t _ ?_ | with_reducible refine below_a _ ?_ | with_reducible refine Below.drew ?_ | with_reducible refine below_d _ ?_ | (with_reducible refine Below.setCell ?_ (by (show _ ≤ _; repeat (first | exact Nat.le_refl _ | assumption | (omega; done) | with_reducible exact le_past (Nat.le_refl _) | with_reducible refine le_past ?_ | with_reducible refine le_al ?_ | with_reducible refine le_set ?_ | with_reducible refine le_p1 ?_))) _))); done) | assumption | omega | (simp; done) | (simp [go_sem]; done) | (simp; omega) | (simp [go_sem, *]; done)); done)); (focus ((first | ((repeat (first | assumption | exact Below.refl _ _ | with_reducible refine past_t _ ?_ | with_reducible refine below_a _ ?_ | with_reducible refine Below.drew ?_ | with_reducible refine below_d _ ?_ | (with_reducible refine Below.setCell ?_ (by (show _ ≤ _; repeat (first | exact Nat.le_refl _ | assumption | (omega; done) | with_reducible exact le_past (Nat.le_refl _) | with_reducible refine le_past ?_ | with_reducible refine le_al ?_ | with_reducible refine le_set ?_ | with_reducible refine le_p1 ?_))) _))); done) | assumption | omega | (simp; done) | (simp [go_sem]; done) | (simp; omega) | (simp [go_sem, *]; done)); done)); (focus ((first | ((repeat (first | assumption | exact Below.refl _ _ | with_reducible refine past_t _ ?_ | with_reducible refine below_a _ ?_ | with_reducible refine Below.drew ?_ | with_reducible refine below_d _ ?_ | (with_reducible refine Below.setCell ?_ (by (show _ ≤ _; repeat (first | exact Nat.le_refl _ | assumption | (omega; done) | with_reducible exact le_past (Nat.le_refl _) | with_reducible refine le_past ?_ | with_reducible refine le_al ?_ | with_reducible refine le_set ?_ | with_reducible refine le_p1 ?_))) _))); done) | assumption | omega | (simp; done) | (simp [go_sem]; done) | (simp; omega) | (simp [go_sem, *]; done)); done)); (focus ((first | ((repeat (first | assumption | exact Below.refl _ _ | with_reducible refine past_t _ ?_ | with_reducible refine below_a _ ?_ | with_reducible refine Below.drew ?_ | with_reducible refine below_d _ ?_ | (with_reducible refine Below.setCell ?_ (by (show _ ≤ _; repeat (first | exact Nat.le_refl _ | assumption | (omega; done) | with_reducible exact le_past (Nat.le_refl _) | with_reducible refine le_past ?_ | with_reducible refine le_al ?_ | with_reducible refine le_set ?_ | with_reducible refine le_p1 ?_))) _))); done) | assumption | omega | (simp; done) | (simp [go_sem]; done) | (simp; omega) | (simp [go_sem, *]; done)); done)); intro A3 c3 z3 ho3)))
      go_wp2_with fail
      go_roundg (a.length - (k + 1))
      case measure => omega
      case rel =>
        have hml := HML.out
        have hc2 : c + 2 * ((k + 1 : Nat) : Int) = cc + 2 := by have := HCC.out; omega
        refine ⟨k + 1, A3, c3, by omega, by omega, by go_num, by rw [hml], ?_, ?_⟩
        · rw [HX.out]
          have := ho3.base (U := w) (by rw [put_size]; exact Nat.le_refl _)
          rw [hml] at this
          exact this
        · rw [HX.out, hc2]
          exact past_below _ _
    · obtain rfl : k = a.length := by omega
      have HP := Lib.hid hP
      have HO := Lib.hid hown
      have HE := Lib.hid hbel
      have HCC := Lib.hid hcc
      clear hP hown hbel hcc hnx hml
      go_wp2_with fail
      go_ret2
      refine ⟨A, cp, rfl, ?_, ?_⟩
      · rw [HP.out]; exact HO.out
      · rw [HP.out, HCC.out]; exact HE.out
set_option maxHeartbeats 4000000 in
theorem r6Less {B : Nat} {i : Bool} {c : Int} {w : World} (h : RA B i c w) (v1 v2 : Value) (a b : List Int) (ha : AllI a) (hb : AllI b) (h1 : SL w B v1 a) (h2 : SL w B v2 b) (hlen : a.length = b.length) (hc : 0 ≤ c ∧ c + 1 * a.length ≤ 4611686018427387904) (hl : a.length ≤ 1000000) :
    Calls Try.prog 31 #[UP B, v1, v2] w fun e w' => ∃ A' c', e = .returned (.tuple #[.slice A' a.length c', .int .i64 0]) ∧ OwnI w w' (.slice A' a.length c') (mapG gLess i a b a.length).1 ∧
      Below (put B (mapG gLess i a b a.length).2 (c + 1 * a.length) w).heap.size (put B (mapG gLess i a b a.length).2 (c + 1 * a.length) w) w' := by
  obtain ⟨A1, cp1, rfl, hl1, hr1⟩ := h1
  obtain ⟨A2, cp2, rfl, hl2, hr2⟩ := h2
  rw [← hlen] at hl2 hr2 ⊢
  have d1 : (((a.length : Nat) : Int) != ((a.length : Nat) : Int)) = false := by simp
  by_cases hz0 : a.length = 0
  · rw [hz0] at d1 ⊢
    have e0 : (mapG gLess i a b 0) = ([], i) := rfl
    rw [e0]
    simp only [Int.natCast_zero, Int.mul_zero, Int.add_zero]
    rw [rput_self h]
    clear h e0 ha hr1 hz0 hl1 hc hl hb hr2 hlen hl2
    go_enter Try.func31, Try.ntmps31
    go_wp2_with fail
    go_loopg [8, 9] 1 (fun g s8 s9 wr => s8 = .slice none 0 0 ∧ s9 = .int .i64 0 ∧ ∃ z, wr = past w z)
    case atStart => exact ⟨rfl, rfl, _, past_of (Below.refl _ _)⟩
    case round =>
      obtain ⟨rfl, rfl, z, rfl⟩ := hrel
      go_wp2_with fail
      go_ret2
      exact ⟨none, 0, rfl, OwnK.nil _ _ _ _, past_below _ _⟩
  have hp0 : 0 < a.length := by omega
  obtain ⟨b1, o1, rfl, hb1, hw1, hc1⟩ := hr1 hp0
  obtain ⟨b2, o2, rfl, hb2, hw2, hc2⟩ := hr2 hp0
  have hBw := h.lt
  have H := Lib.hid h
  have HR1 := Lib.hid hc1
  have HR2 := Lib.hid hc2
  have HL := Lib.hid hlen
  have HB := Lib.hid hb
  have HA := Lib.hid ha
  have HC := Lib.hid hc
  have hpl := rput_self h
  have HPL := Lib.hid hpl
  clear h hc1 hr1 ha hc hpl hc2 hr2 hlen hb
  go_enter Try.func31, Try.ntmps31
  go_wp2_with fail
  go_loopg [8, 9] a.length (fun gg s8 s9 wr => ∃ (k : Nat) (A : Option Addr) (cp : Nat), k ≤ a.length ∧ a.length ≤ gg + k ∧ s9 = .int .i64 k ∧ s8 = .slice A k cp ∧ OwnI w wr (.slice A k cp) (mapG gLess i a b k).1 ∧
    Below (put B (mapG gLess i a b k).2 (c + 1 * k) w).heap.size (put B (mapG gLess i a b k).2 (c + 1 * k) w) wr)
  case atStart =>
    refine ⟨0, none, 0, by omega, by omega, rfl, rfl, OwnK.nil _ _ _ _, ?_⟩
    have e0 : (mapG gLess i a b 0) = ([], i) := rfl
    rw [e0]
    simp only [Int.natCast_zero, Int.mul_zero, Int.add_zero]
    rw [HPL.out]
    exact Below.refl _ _
  case round =>
    obtain ⟨k, A, cp, hk, hg, rfl, rfl, hown, hbel⟩ := hrel
    have hml := mapG_len gLess i a b k
    obtain ⟨P, hP⟩ : ∃ P, (mapG gLess i a b k) = P := ⟨_, rfl⟩
    have hnx : (mapG gLess i a b (k + 1)) = ((mapG gLess i a b k).1 ++ [(gLess (mapG gLess i a b k).2 (a.getD k 0) (b.getD k 0)).1], (gLess (mapG gLess i a b k).2 (a.getD k 0) (b.getD k 0)).2) := rfl
    rw [hP] at hown hbel hnx hml
    obtain ⟨R, f⟩ := P
    simp only at hown hbel hnx hml
    obtain ⟨cc, hcc⟩ : ∃ cc : Int, c + 1 * (k : Int) = cc := ⟨_, rfl⟩
    rw [hcc] at hbel
    by_cases hlt : k < a.length
    · have hx := HA.out.get hlt
      have hx0 := HR1.out k hlt
      have hwx : b1 < (put B f cc w).heap.size := by rw [put_size]; exact hw1
      have hcx := (hbel.cell (p := ⟨b1, o1 + k, none⟩) hwx).trans ((put_cell B f cc w _ hb1).trans hx0)
      obtain ⟨x, hxx⟩ : ∃ x, a.getD k 0 = x := ⟨_, rfl⟩
      rw [hxx] at hx hcx hx0 hnx
      have hkb : k < b.length := by have := HL.out; omega
      have hy := HB.out.get hkb
      have hy0 := HR2.out k hkb
      have hwy : b2 < (put B f cc w).heap.size := by rw [put_size]; exact hw2
      have hcy := (hbel.cell (p := ⟨b2, o2 + k, none⟩) hwy).trans ((put_cell B f cc w _ hb2).trans hy0)
      obtain ⟨y, hyy⟩ : ∃ y, b.getD k 0 = y := ⟨_, rfl⟩
      rw [hyy] at hy hcy hy0 hnx
      have hua := (H.out.put f cc).keep hbel
      have hBr : B < wr.heap.size := hua.lt
      have hcb : 0 ≤ cc ∧ cc + 1 ≤ 4611686018427387904 := by have := HC.out; omega
      have hst := fun (W : World) (kp : Below wr.heap.size wr W) => r4Less2 (hua.keep kp) hx hy hcb
      obtain ⟨q, hq⟩ : ∃ q, gLess f x y = q := ⟨_, rfl⟩
      rw [hq] at hnx
      simp only [hq] at hst
      obtain ⟨q1, q2⟩ := q
      simp only at hnx hst
      have hst2 : ∀ (W : World), Below wr.heap.size wr W → ∀ (_ : True), Calls Try.prog 73 #[UP B, .int .i64 x, .int .i64 y] W fun e w' => e = .returned (.int .i64 q1) ∧ OwnI w w' (.slice A k cp) R ∧ Below (put B q2 (cc + 1) w).heap.size (put B q2 (cc + 1) w) w' ∧ w'.cell? ⟨b1, o1 + k, none⟩ = some (.int .i64 x) ∧ w'.cell? ⟨b2, o2 + k, none⟩ = some (.int .i64 y) :=
        fun W kp _ => (hst W kp).mono fun e w' h => ⟨h.1, (ownK_put (hown.keep kp) hBw _ _).keep h.2, next_put hbel kp h.2, cell_via kp h.2 hb1 hcx, cell_via kp h.2 hb2 hcy⟩
      clear hst
      have HO := Lib.hid hown
      have HE := Lib.hid hbel
      have HX := Lib.hid hnx
      have HCC := Lib.hid hcc
      have HML := Lib.hid hml
      have hRl : R.length ≤ 1000000 := by omega
      clear hown hbel hnx hP hxx hq hua hcc hml hyy
      go_wp2_with fail
      go_region_held3 (fun w' => w'.cell? ⟨b1, o1 + k, none⟩ = some (.int .i64 x) ∧ w'.cell? ⟨b2, o2 + k, none⟩ = some (.int .i64 y)) ((go_split_ands; refine ⟨?_, ?_⟩ <;> (first | assumption | (simp [go_sem, *]; done)))) ((first | (go_at_call 73; with_reducible refine Calls.mono (hst2 _ ?_ trivial) ?_; (focus ((first | ((repeat (first | assumption | exact Below.refl _ _ | with_reducible refine past_t _ ?_ | with_reducible refine below_a _ ?_ | with_reducible refine Below.drew ?_ | with_reducible refine below_d _ ?_ | (with_reducible refine Below.setCell ?_ (by (show _ ≤ _; repeat (first | exact Nat.le_refl _ | assumption | (omega; done) | with_reducible exact le_past (Nat.le_refl _) | with_reducible refine le_past ?_ | with_reducible refine le_al ?_ | with_reducible refine le_set ?_ | with_reducible refine le_p1 ?_))) _))); done) | assumption | omega | (simp; done) | (simp [go_sem]; done) | (simp; omega) | (simp [go_sem, *]; done)); done)); rintro _ w2 ⟨rfl, ho2, hb4, hcx2, hcy2⟩) | (refine step_append_i (by rfl) _ _ (by rfl) (put B q2 (cc + 1) w) (by rfl) (by rfl) ?_ ((ho2.base (by rw [put_size]; exact Nat.le_refl _)).keep ?_) (RS.lit .i64 _ [q1] _ _ ?_ 1 ?_ ?_ 1 ?_ _ ?_) ?_ ?_; (focus ((first | ((repeat (first | assumption | exact Below.refl _ _ | with_reducible refine past_t _ ?_ | with_reducible refine below_a _ ?_ | with_reducible refine Below.drew ?_ | with_reducible refine below_d _ ?_ | (with_reducible refine Below.setCell ?_ (by (show _ ≤ _; repeat (first | exact Nat.le_refl _ | assumption | (omega; done) | with_reducible exact le_past (Nat.le_refl _) | with_reducible refine le_past ?_ | with_reducible refine le_al ?_ | with_reducible refine le_set ?_ | with_reducible refine le_p1 ?_))) _))); done) | assumption | omega | (simp; done) | (simp [go_sem]; done) | (simp; omega) | (simp [go_sem, *]; done)); done)); (focus ((first | ((repeat (first | assumption | exact Below.refl _ _ | with_reducible refine past_t _ ?_ | with_reducible refine below_a _ ?_ | with_reducible refine Below.drew ?_ | with_reducible refine below_d _ ?_ | (with_reducible refine Below.setCell ?_ (by (show _ ≤ _; repeat (first | exact Nat.le_refl _ | assumption | (omega; done) | with_reducible exact le_past (Nat.le_refl _) | with_reducible refine le_past ?_ | with_reducible refine le_al ?_ | with_reducible refine le_set ?_ | with_reducible refine le_p1 ?_))) _))); done) | assumption | omega | (simp; done) | (simp [go_sem]; done) | (simp; omega) | (simp [go_sem, *]; done)); done)); (focus ((first | ((repeat (first | assumption | exact Below.refl _ _ | with_reducible refine past_t _ ?_ | with_reducible refine below_a _ ?_ | with_reducible refine Below.drew ?_ | with_reducible refine below_d _ ?_ | (with_reducible refine Below.setCell ?_ (by (show _ ≤ _; repeat (first | exact Nat.le_refl _ | assumption | (omega; done) | with_reducible exact le_past (Nat.le_refl _) | with_reducible refine le_past ?_ | with_reducible refine le_al ?_ | with_reducible refine le_set ?_ | with_reducible refine le_p1 ?_))) _))); done) | assumption | omega | (simp; done) | (simp [go_sem]; done) | (simp; omega) | (simp [go_sem, *]; done)); done)); (focus ((first | ((repeat (first | assumption | exact Below.refl _ _ | with_reducible refine past_t _ ?_ | with_reducible refine below_a _ ?_ | with_reducible refine Below.drew ?_ | with_reducible refine below_d _ ?_ | (with_reducible refine Below.setCell ?_ (by (show _ ≤ _; repeat (first | exact Nat.le_refl _ | assumption | (omega; done) | with_reducible exact le_past (Nat.le_refl _) | with_reducible refine le_past ?_ | with_reducible refine le_al ?_ | with_reducible refine le_set ?_ | with_reducible refine le_p1 ?_))) _))); done) | assumption | omega | (simp; done) | (simp [go_sem]; done) | (simp; omega) | (simp [go_sem, *]; done)); done)); (focus ((first | ((repeat (first | assumption | exact Below.refl _ _ | with_reducible refine past_t _ ?_ | with_reducible refine below_a _ ?_ | with_reducible refine Below.drew ?_ | with_reducible refine below_d _ ?_ | (with_reducible refine Below.setCell ?_ (by (show _ ≤ _; repeat (first | exact Nat.le_refl _ | assumption | (omega; done) | with_reducible exact le_past (Nat.le_refl _) | with_reducible refine le_past ?_ | with_reducible refine le_al ?_ | with_reducible refine le_set ?_ | with_reducible refine le_p1 ?_))) _))); done) | assumption | omega | (simp; done) | (simp [go_sem]; done) | (simp; omega) | (simp [go_sem, *]; done)); done)); (focus ((first | ((repeat (first | assumption | exact Below.refl _ _ | with_reducible refine past_t _ ?_ | with_reducible refine below_a _ ?_ | with_reducible refine Below.drew ?_ | with_reducible refine below_d _ ?_ | (with_reducible refine Below.setCell ?_ (by (show _ ≤ _; repeat (first | exact Nat.le_refl _ | assumption | (omega; done) | with_reducible exact le_past (Nat.le_refl _) | with_reducible refine le_past ?_ | with_reducible refine le_al ?_ | with_reducible refine le_set ?_ | with_reducible refine le_p1 ?_))) _))); done) | assumption | omega | (simp; done) | (simp [go_sem]; done) | (simp; omega) | (simp [go_sem, *]; done)); done)); (focus ((first | ((repeat (first | assumption | exact Below.refl _ _ | with_reducible refine past_t _ ?_ | with_reducible refine below_a _ ?_ | with_reducible refine Below.drew ?_ | with_reducible refine below_d _ ?_ | (with_reducible refine Below.setCell ?_ (by (show _ ≤ _; repeat (first | exact Nat.le_refl _ | assumption | (omega; done) | with_reducible exact le_past (Nat.le_refl _) | with_reducible refine le_past ?_ | with_reducible refine le_al ?_ | with_reducible refine le_set ?_ | with_reducible refine le_p1 ?_))) _))); done) | assumption | omega | (simp; done) | (simp [go_sem]; done) | (simp; omega) | (simp [go_sem, *]; done)); done)); (focus ((first | ((repeat (first | assumption | exact Below.refl _ _ | with_reducible refine past_t _ ?_ | with_reducible refine below_a _ ?_ | with_reducible refine Below.drew ?_ | with_reducible refine below_d _ ?_ | (with_reducible refine Below.setCell ?_ (by (show _ ≤ _; repeat (first | exact Nat.le_refl _ | assumption | (omega; done) | with_reducible exact le_past (Nat.le_refl _) | with_reducible refine le_past ?_ | with_reducible refine le_al ?_ | with_reducible refine le_set ?_ | with_reducible refine le_p1 ?_))) _))); done) | assumption | omega | (simp; done) | (simp [go_sem]; done) | (simp; omega) | (simp [go_sem, *]; done)); done)); intro A3 c3 z3 ho3)))
      go_wp2_with fail
      go_roundg (a.length - (k + 1))
      case measure => omega
      case rel =>
        have hml := HML.out
        have hc2 : c + 1 * ((k + 1 : Nat) : Int) = cc + 1 := by have := HCC.out; omega
        refine ⟨k + 1, A3, c3, by omega, by omega, by go_num, by rw [hml], ?_, ?_⟩
        · rw [HX.out]
          have := ho3.base (U := w) (by rw [put_size]; exact Nat.le_refl _)
          rw [hml] at this
          exact this
        · rw [HX.out, hc2]
          exact past_below _ _
    · obtain rfl : k = a.length := by omega
      have HP := Lib.hid hP
      have HO := Lib.hid hown
      have HE := Lib.hid hbel
      have HCC := Lib.hid hcc
      clear hP hown hbel hcc hnx hml
      go_wp2_with fail
      go_ret2
      refine ⟨A, cp, rfl, ?_, ?_⟩
      · rw [HP.out]; exact HO.out
      · rw [HP.out, HCC.out]; exact HE.out
set_option maxHeartbeats 4000000 in
theorem r6Scale {B : Nat} {i : Bool} {c : Int} {w : World} (h : RA B i c w) (v : Value) (a : List Int) (s : Int) (ha : AllI a) (hs : InI s) (h1 : SL w B v a) (hc : 0 ≤ c ∧ c + 2 * a.length ≤ 4611686018427387904) (hl : a.length ≤ 1000000) :
    Calls Try.prog 32 #[UP B, v, .int .i64 s] w fun e w' => ∃ A' c', e = .returned (.tuple #[.slice A' a.length c', .int .i64 0]) ∧ OwnI w w' (.slice A' a.length c') (mapG (gScaleS s) i a a a.length).1 ∧
      Below (put B (mapG (gScaleS s) i a a a.length).2 (c + 2 * a.length) w).heap.size (put B (mapG (gScaleS s) i a a a.length).2 (c + 2 * a.length) w) w' := by
  obtain ⟨A1, cp1, rfl, hl1, hr1⟩ := h1
  by_cases hz0 : a.length = 0
  · rw [hz0]
    have e0 : (mapG (gScaleS s) i a a 0) = ([], i) := rfl
    rw [e0]
    simp only [Int.natCast_zero, Int.mul_zero, Int.add_zero]
    rw [rput_self h]
    clear h e0 ha hr1 hz0 hl1 hc hl
    go_enter Try.func32, Try.ntmps32
    go_wp2_with fail
    go_loopg [8, 9] 1 (fun g s8 s9 wr => s8 = .slice none 0 0 ∧ s9 = .int .i64 0 ∧ ∃ z, wr = past w z)
    case atStart => exact ⟨rfl, rfl, _, past_of (Below.refl _ _)⟩
    case round =>
      obtain ⟨rfl, rfl, z, rfl⟩ := hrel
      go_wp2_with fail
      go_ret2
      exact ⟨none, 0, rfl, OwnK.nil _ _ _ _, past_below _ _⟩
  have hp0 : 0 < a.length := by omega
  obtain ⟨b1, o1, rfl, hb1, hw1, hc1⟩ := hr1 hp0
  have hBw := h.lt
  have H := Lib.hid h
  have HR1 := Lib.hid hc1
  have HA := Lib.hid ha
  have HC := Lib.hid hc
  have hpl := rput_self h
  have HPL := Lib.hid hpl
  clear h hc1 hr1 ha hc hpl
  go_enter Try.func32, Try.ntmps32
  go_wp2_with fail
  go_loopg [8, 9] a.length (fun gg s8 s9 wr => ∃ (k : Nat) (A : Option Addr) (cp : Nat), k ≤ a.length ∧ a.length ≤ gg + k ∧ s9 = .int .i64 k ∧ s8 = .slice A k cp ∧ OwnI w wr (.slice A k cp) (mapG (gScaleS s) i a a k).1 ∧
    Below (put B (mapG (gScaleS s) i a a k).2 (c + 2 * k) w).heap.size (put B (mapG (gScaleS s) i a a k).2 (c + 2 * k) w) wr)
  case atStart =>
    refine ⟨0, none, 0, by omega, by omega, rfl, rfl, OwnK.nil _ _ _ _, ?_⟩
    have e0 : (mapG (gScaleS s) i a a 0) = ([], i) := rfl
    rw [e0]
    simp only [Int.natCast_zero, Int.mul_zero, Int.add_zero]
    rw [HPL.out]
    exact Below.refl _ _
  case round =>
    obtain ⟨k, A, cp, hk, hg, rfl, rfl, hown, hbel⟩ := hrel
    have hml := mapG_len (gScaleS s) i a a k
    obtain ⟨P, hP⟩ : ∃ P, (mapG (gScaleS s) i a a k) = P := ⟨_, rfl⟩
    have hnx : (mapG (gScaleS s) i a a (k + 1)) = ((mapG (gScaleS s) i a a k).1 ++ [((gScaleS s) (mapG (gScaleS s) i a a k).2 (a.getD k 0) (a.getD k 0)).1], ((gScaleS s) (mapG (gScaleS s) i a a k).2 (a.getD k 0) (a.getD k 0)).2) := rfl
    rw [hP] at hown hbel hnx hml
    obtain ⟨R, f⟩ := P
    simp only at hown hbel hnx hml
    obtain ⟨cc, hcc⟩ : ∃ cc : Int, c + 2 * (k : Int) = cc := ⟨_, rfl⟩
    rw [hcc] at hbel
    by_cases hlt : k < a.length
    · have hx := HA.out.get hlt
      have hx0 := HR1.out k hlt
      have hwx : b1 < (put B f cc w).heap.size := by rw [put_size]; exact hw1
      have hcx := (hbel.cell (p := ⟨b1, o1 + k, none⟩) hwx).trans ((put_cell B f cc w _ hb1).trans hx0)
      obtain ⟨x, hxx⟩ : ∃ x, a.getD k 0 = x := ⟨_, rfl⟩
      rw [hxx] at hx hcx hx0 hnx
      have hgs : gScaleS s f x x = gScale f x s := rfl
      rw [hgs] at hnx
      have hua := (H.out.put f cc).keep hbel
      have hBr : B < wr.heap.size := hua.lt
      have hcb : 0 ≤ cc ∧ cc + 2 ≤ 4611686018427387904 := by have := HC.out; omega
      have hst := fun (W : World) (kp : Below wr.heap.size wr W) (v : Value) (hv : SL W B v [x, s]) => r4Mul2 (hua.keep kp) hx hs hv hcb
      obtain ⟨q, hq⟩ : ∃ q, gScale f x s = q := ⟨_, rfl⟩
      rw [hq] at hnx
      simp only [hq] at hst
      obtain ⟨q1, q2⟩ := q
      simp only at hnx hst
      have hst2 : ∀ (W : World), Below wr.heap.size wr W → ∀ (v : Value) (hv : SL W B v [x, s]), Calls Try.prog 74 #[UP B, v] W fun e w' => e = .returned (.int .i64 q1) ∧ OwnI w w' (.slice A k cp) R ∧ Below (put B q2 (cc + 2) w).heap.size (put B q2 (cc + 2) w) w' :=
        fun W kp v hv => (hst W kp v hv).mono fun e w' h => ⟨h.1, (ownK_put (hown.keep kp) hBw _ _).keep h.2, next_put hbel kp h.2⟩
      clear hst
      have HO := Lib.hid hown
      have HE := Lib.hid hbel
      have HX := Lib.hid hnx
      have HCC := Lib.hid hcc
      have HML := Lib.hid hml
      have hRl : R.length ≤ 1000000 := by omega
      clear hown hbel hnx hP hxx hq hua hcc hml
      go_wp2_with fail
      go_wp2_with (first | (go_at_call 74; with_reducible refine Calls.mono (hst2 _ ?_ _ (SL2 ?_ ?_ ?_)) ?_; (focus ((first | ((repeat (first | assumption | exact Below.refl _ _ | with_reducible refine past_t _ ?_ | with_reducible refine below_a _ ?_ | with_reducible refine Below.drew ?_ | with_reducible refine below_d _ ?_ | (with_reducible refine Below.setCell ?_ (by (show _ ≤ _; repeat (first | exact Nat.le_refl _ | assumption | (omega; done) | with_reducible exact le_past (Nat.le_refl _) | with_reducible refine le_past ?_ | with_reducible refine le_al ?_ | with_reducible refine le_set ?_ | with_reducible refine le_p1 ?_))) _))); done) | assumption | omega | (simp; done) | (simp [go_sem]; done) | (simp; omega) | (simp [go_sem, *]; done)); done)); (focus ((first | ((repeat (first | assumption | exact Below.refl _ _ | with_reducible refine past_t _ ?_ | with_reducible refine below_a _ ?_ | with_reducible refine Below.drew ?_ | with_reducible refine below_d _ ?_ | (with_reducible refine Below.setCell ?_ (by (show _ ≤ _; repeat (first | exact Nat.le_refl _ | assumption | (omega; done) | with_reducible exact le_past (Nat.le_refl _) | with_reducible refine le_past ?_ | with_reducible refine le_al ?_ | with_reducible refine le_set ?_ | with_reducible refine le_p1 ?_))) _))); done) | assumption | omega | (simp; done) | (simp [go_sem]; done) | (simp; omega) | (simp [go_sem, *]; done)); done)); (focus ((first | ((repeat (first | assumption | exact Below.refl _ _ | with_reducible refine past_t _ ?_ | with_reducible refine below_a _ ?_ | with_reducible refine Below.drew ?_ | with_reducible refine below_d _ ?_ | (with_reducible refine Below.setCell ?_ (by (show _ ≤ _; repeat (first | exact Nat.le_refl _ | assumption | (omega; done) | with_reducible exact le_past (Nat.le_refl _) | with_reducible refine le_past ?_ | with_reducible refine le_al ?_ | with_reducible refine le_set ?_ | with_reducible refine le_p1 ?_))) _))); done) | assumption | omega | (simp; done) | (simp [go_sem]; done) | (simp; omega) | (simp [go_sem, *]; done)); done)); (focus ((first | ((repeat (first | assumption | exact Below.refl _ _ | with_reducible refine past_t _ ?_ | with_reducible refine below_a _ ?_ | with_reducible refine Below.drew ?_ | with_reducible refine below_d _ ?_ | (with_reducible refine Below.setCell ?_ (by (show _ ≤ _; repeat (first | exact Nat.le_refl _ | assumption | (omega; done) | with_reducible exact le_past (Nat.le_refl _) | with_reducible refine le_past ?_ | with_reducible refine le_al ?_ | with_reducible refine le_set ?_ | with_reducible refine le_p1 ?_))) _))); done) | assumption | omega | (simp; done) | (simp [go_sem]; done) | (simp; omega) | (simp [go_sem, *]; done)); done)); rintro _ w2 ⟨rfl, ho2, hb4⟩) | (at_builtin; (refine append_i (by rfl) _ _ (by rfl) (put B q2 (cc + 2) w) (by rfl) (by rfl) ?_ ((ho2.base (by rw [put_size]; exact Nat.le_refl _)).keep ?_) (RS.lit .i64 _ [q1] _ _ ?_ 1 ?_ ?_ 1 ?_ _ ?_) ?_ ?_; (focus ((first | ((repeat (first | assumption | exact Below.refl _ _ | with_reducible refine past_t _ ?_ | with_reducible refine below_a _ ?_ | with_reducible refine Below.drew ?_ | with_reducible refine below_d _ ?_ | (with_reducible refine Below.setCell ?_ (by (show _ ≤ _; repeat (first | exact Nat.le_refl _ | assumption | (omega; done) | with_reducible exact le_past (Nat.le_refl _) | with_reducible refine le_past ?_ | with_reducible refine le_al ?_ | with_reducible refine le_set ?_ | with_reducible refine le_p1 ?_))) _))); done) | assumption | omega | (simp; done) | (simp [go_sem]; done) | (simp; omega) | (simp [go_sem, *]; done)); done)); (focus ((first | ((repeat (first | assumption | exact Below.refl _ _ | with_reducible refine past_t _ ?_ | with_reducible refine below_a _ ?_ | with_reducible refine Below.drew ?_ | with_reducible refine below_d _ ?_ | (with_reducible refine Below.setCell ?_ (by (show _ ≤ _; repeat (first | exact Nat.le_refl _ | assumption | (omega; done) | with_reducible exact le_past (Nat.le_refl _) | with_reducible refine le_past ?_ | with_reducible refine le_al ?_ | with_reducible refine le_set ?_ | with_reducible refine le_p1 ?_))) _))); done) | assumption | omega | (simp; done) | (simp [go_sem]; done) | (simp; omega) | (simp [go_sem, *]; done)); done)); (focus ((first | ((repeat (first | assumption | exact Below.refl _ _ | with_reducible refine past_t _ ?_ | with_reducible refine below_a _ ?_ | with_reducible refine Below.drew ?_ | with_reducible refine below_d _ ?_ | (with_reducible refine Below.setCell ?_ (by (show _ ≤ _; repeat (first | exact Nat.le_refl _ | assumption | (omega; done) | with_reducible exact le_past (Nat.le_refl _) | with_reducible refine le_past ?_ | with_reducible refine le_al ?_ | with_reducible refine le_set ?_ | with_reducible refine le_p1 ?_))) _))); done) | assumption | omega | (simp; done) | (simp [go_sem]; done) | (simp; omega) | (simp [go_sem, *]; done)); done)); (focus ((first | ((repeat (first | assumption | exact Below.refl _ _ | with_reducible refine past_t _ ?_ | with_reducible refine below_a _ ?_ | with_reducible refine Below.drew ?_ | with_reducible refine below_d _ ?_ | (with_reducible refine Below.setCell ?_ (by (show _ ≤ _; repeat (first | exact Nat.le_refl _ | assumption | (omega; done) | with_reducible exact le_past (Nat.le_refl _) | with_reducible refine le_past ?_ | with_reducible refine le_al ?_ | with_reducible refine le_set ?_ | with_reducible refine le_p1 ?_))) _))); done) | assumption | omega | (simp; done) | (simp [go_sem]; done) | (simp; omega) | (simp [go_sem, *]; done)); done)); (focus ((first | ((repeat (first | assumption | exact Below.refl _ _ | with_reducible refine past_t _ ?_ | with_reducible refine below_a _ ?_ | with_reducible refine Below.drew ?_ | with_reducible refine below_d _ ?_ | (with_reducible refine Below.setCell ?_ (by (show _ ≤ _; repeat (first | exact Nat.le_refl _ | assumption | (omega; done) | with_reducible exact le_past (Nat.le_refl _) | with_reducible refine le_past ?_ | with_reducible refine le_al ?_ | with_reducible refine le_set ?_ | with_reducible refine le_p1 ?_))) _))); done) | assumption | omega | (simp; done) | (simp [go_sem]; done) | (simp; omega) | (simp [go_sem, *]; done)); done)); (focus ((first | ((repeat (first | assumption | exact Below.refl _ _ | with_reducible refine past_t _ ?_ | with_reducible refine below_a _ ?_ | with_reducible refine Below.drew ?_ | with_reducible refine below_d _ ?_ | (with_reducible refine Below.setCell ?_ (by (show _ ≤ _; repeat (first | exact Nat.le_refl _ | assumption | (omega; done) | with_reducible exact le_past (Nat.le_refl _) | with_reducible refine le_past ?_ | with_reducible refine le_al ?_ | with_reducible refine le_set ?_ | with_reducible refine le_p1 ?_))) _))); done) | assumption | omega | (simp; done) | (simp [go_sem]; done) | (simp; omega) | (simp [go_sem, *]; done)); done)); (focus ((first | ((repeat (first | assumption | exact Below.refl _ _ | with_reducible refine past_t _ ?_ | with_reducible refine below_a _ ?_ | with_reducible refine Below.drew ?_ | with_reducible refine below_d _ ?_ | (with_reducible refine Below.setCell ?_ (by (show _ ≤ _; repeat (first | exact Nat.le_refl _ | assumption | (omega; done) | with_reducible exact le_past (Nat.le_refl _) | with_reducible refine le_past ?_ | with_reducible refine le_al ?_ | with_reducible refine le_set ?_ | with_reducible refine le_p1 ?_))) _))); done) | assumption | omega | (simp; done) | (simp [go_sem]; done) | (simp; omega) | (simp [go_sem, *]; done)); done)); (focus ((first | ((repeat (first | assumption | exact Below.refl _ _ | with_reducible refine past_t _ ?_ | with_reducible refine below_a _ ?_ | with_reducible refine Below.drew ?_ | with_reducible refine below_d _ ?_ | (with_reducible refine Below.setCell ?_ (by (show _ ≤ _; repeat (first | exact Nat.le_refl _ | assumption | (omega; done) | with_reducible exact le_past (Nat.le_refl _) | with_reducible refine le_past ?_ | with_reducible refine le_al ?_ | with_reducible refine le_set ?_ | with_reducible refine le_p1 ?_))) _))); done) | assumption | omega | (simp; done) | (simp [go_sem]; done) | (simp; omega) | (simp [go_sem, *]; done)); done)); intro A3 c3 z3 ho3)))
      go_roundg (a.length - (k + 1))
      case measure => omega
      case rel =>
        have hml := HML.out
        have hc2 : c + 2 * ((k + 1 : Nat) : Int) = cc + 2 := by have := HCC.out; omega
        refine ⟨k + 1, A3, c3, by omega, by omega, by go_num, by rw [hml], ?_, ?_⟩
        · rw [HX.out]
          have := ho3.base (U := w) (by rw [put_size]; exact Nat.le_refl _)
          rw [hml] at this
          exact this
        · rw [HX.out, hc2]
          exact past_below _ _
    · obtain rfl : k = a.length := by omega
      have HP := Lib.hid hP
      have HO := Lib.hid hown
      have HE := Lib.hid hbel
      have HCC := Lib.hid hcc
      clear hP hown hbel hcc hnx hml
      go_wp2_with fail
      go_ret2
      refine ⟨A, cp, rfl, ?_, ?_⟩
      · rw [HP.out]; exact HO.out
      · rw [HP.out, HCC.out]; exact HE.out
theorem r6SumNo (v : Value) (A1 A2 : Option Addr) (n m c1 c2 : Nat) (hne : n ≠ m) (h1 : n ≤ 4611686018427387904) (h2 : m ≤ 4611686018427387904) (w : World) :
    Calls Try.prog 29 #[v, .slice A1 n c1, .slice A2 m c2] w fun e w' => e = .returned (.tuple #[.slice none 0 0, .int .i64 3]) ∧ Below w.heap.size w w' := by
  have d1 : (((n : Nat) : Int) != ((m : Nat) : Int)) = true := by simp; omega
  go_enter Try.func29, Try.ntmps29
  go_wp2_with fail
  go_ret2
  exact ⟨rfl, Below.refl _ _⟩
theorem r6LessNo (v : Value) (A1 A2 : Option Addr) (n m c1 c2 : Nat) (hne : n ≠ m) (h1 : n ≤ 4611686018427387904) (h2 : m ≤ 4611686018427387904) (w : World) :
    Calls Try.prog 31 #[v, .slice A1 n c1, .slice A2 m c2] w fun e w' => e = .returned (.tuple #[.slice none 0 0, .int .i64 3]) ∧ Below w.heap.size w w' := by
  have d1 : (((n : Nat) : Int) != ((m : Nat) : Int)) = true := by simp; omega
  go_enter Try.func31, Try.ntmps31
  go_wp2_with fail
  go_ret2
  exact ⟨rfl, Below.refl _ _⟩
end Go.Proofs.Ytfhiodclbabdkaa
