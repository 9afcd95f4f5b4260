/- The document's unit (printed by mk_runit.py). -/
import Derived.Test.YtlhadociaekkhaaQVec1
import Derived.Test.YtlhadociaekkhaaQFix2
namespace Go.Proofs.Ytlhadociaekkhaa
set_option linter.unusedVariables false
set_option maxRecDepth 100000
open Go.RowKit
/-- The document's unit at block B: was something cut, how many operations. -/
structure RA (B : Nat) (i : Bool) (c : Int) (w : World) : Prop where
  c0 : w.cell? ⟨B, 0, none⟩ = some (.bool i)
  c1 : w.cell? ⟨B, 1, none⟩ = some (.int .i64 c)
  f0 : w.frozen? ⟨B, 0, none⟩ = false
  f1 : w.frozen? ⟨B, 1, none⟩ = false
theorem UA.ra {B : Nat} {i : Bool} {c : Int} {w : World} (h : UA B i c w) : RA B i c w := ⟨h.c0, h.c1, h.f0, h.f1⟩
theorem RA.lt {B : Nat} {i : Bool} {c : Int} {w : World} (h : RA B i c w) : B < w.heap.size := World.block_lt_of_cell? w _ h.c0
theorem rput_self {B : Nat} {i : Bool} {c : Int} {w : World} (h : RA B i c w) : put B i c w = w := by
  unfold put; rw [set_self w B 0 _ h.c0, set_self w B 1 _ h.c1]
theorem RA.put {B : Nat} {i : Bool} {c : Int} {w : World} (h : RA B i c w) (j : Bool) (d : Int) : RA B j d (put B j d w) := by
  have e0 : (w.setCell ⟨B, 0, none⟩ (.bool j)).cell? ⟨B, 0, none⟩ = some (.bool j) := World.cell?_setCell_same _ _ _ h.c0
  have e1 : (w.setCell ⟨B, 0, none⟩ (.bool j)).cell? ⟨B, 1, none⟩ = some (.int .i64 c) := by rw [World.cell?_setCell_other _ _ _ _ (by simp)]; exact h.c1
  refine ⟨?_, ?_, by rw [put_mark]; exact h.f0, by rw [put_mark]; exact h.f1⟩
  · unfold Proofs.Ytlhadociaekkhaa.put; rw [World.cell?_setCell_other _ _ _ _ (by simp)]; exact e0
  · unfold Proofs.Ytlhadociaekkhaa.put; exact World.cell?_setCell_same _ _ _ e1
theorem RA.keep {B : Nat} {i : Bool} {c : Int} {w v : World} (h : RA B i c w) (k : Below w.heap.size w v) : RA B i c v :=
  ⟨(k.cell h.lt).trans h.c0, (k.cell h.lt).trans h.c1, (k.frozen h.lt).trans h.f0, (k.frozen h.lt).trans h.f1⟩
theorem RA.far {B C : Nat} {i : Bool} {c : Int} {w : World} (h : RA B i c w) (hne : B ≠ C) (j : Bool) (d : Int) : RA B i c (Proofs.Ytlhadociaekkhaa.put C j d w) :=
  ⟨(put_cell C j d w ⟨B, 0, none⟩ hne).trans h.c0, (put_cell C j d w ⟨B, 1, none⟩ hne).trans h.c1, (put_mark C j d w _).trans h.f0, (put_mark C j d w _).trans h.f1⟩
theorem UA.far {B C : Nat} {i : Bool} {c : Int} {w : World} (h : UA B i c w) (hne : B ≠ C) (j : Bool) (d : Int) : UA B i c (Proofs.Ytlhadociaekkhaa.put C j d w) :=
  ⟨(put_cell C j d w ⟨B, 0, none⟩ hne).trans h.c0, (put_cell C j d w ⟨B, 1, none⟩ hne).trans h.c1, (put_cell C j d w ⟨B, 2, none⟩ hne).trans h.c2, (put_mark C j d w _).trans h.f0, (put_mark C j d w _).trans h.f1⟩
theorem ra_past {B : Nat} {i : Bool} {c : Int} {w : World} (h : RA B i c w) (j : Bool) (d : Int) (z : World) : RA B j d (past (put B j d w) z) := (h.put j d).keep (past_below _ _)
theorem ra_start {B : Nat} {i : Bool} {c : Int} {w : World} (h : RA B i c w) : w = past (put B i c w) w := by
  rw [rput_self h]; exact past_of (Below.refl _ _)
@[go_sem] theorem put_lit2 (B : Nat) (i : Bool) (c : Int) (w : World) (x y : Value) (T : TypeId) (h : B = w.heap.size) : put B i c (w.alloc (.cells #[x, y] T)) = w.alloc (.cells #[.bool i, .int .i64 c] T) := by
  subst h
  unfold put
  rw [World.setCell_alloc_at _ _ _ _ _ rfl, World.setCell_alloc_at _ _ _ _ _ rfl]
  rfl
theorem r4New (w : World) : Calls Try.prog 11 #[] w fun e w' => e = .returned (UP w.heap.size) ∧ w' = w.alloc (.cells #[.bool false, .int .i64 0] 64) := by
  go_enter Try.func11, Try.ntmps11
  go_wp2_with fail
  go_ret
  exact ⟨rfl, rfl⟩
theorem r4Did {B : Nat} {i : Bool} {c : Int} {w : World} (h : RA B i c w) (hc : 0 ≤ c ∧ c ≤ 4611686018427387904) (n : Int) (cut : Bool) :
    Calls Try.prog 75 #[UP B, .int .i64 n, .bool cut] w fun e w' => e = .returned (.int .i64 n) ∧ Below (put B (i || cut) (c + 1) w).heap.size (put B (i || cut) (c + 1) w) w' := by
  have c0 := h.c0
  have c1 := h.c1
  have f0 := h.f0
  have f1 := h.f1
  have hp := put_10 B (i || cut) (c + 1) w
  rw [← hp]
  clear h hp
  cases i <;> cases cut
  all_goals
    simp only [Bool.or_false, Bool.or_true]
    go_enter Try.func75, Try.ntmps75
    go_wp2_with fail
    go_ret
    exact ⟨rfl, Below.refl _ _⟩
theorem r4DidP {B : Nat} {i : Bool} {c : Int} {w : World} (h : RA B i c w) (hc : 0 ≤ c ∧ c ≤ 4611686018427387904) (n : Int) (cut : Bool) (z : World) :
    Calls Try.prog 75 #[UP B, .int .i64 n, .bool cut] (past w z) fun e w' => e = .returned (.int .i64 n) ∧ Below (put B (i || cut) (c + 1) w).heap.size (put B (i || cut) (c + 1) w) w' :=
  (r4Did (h.keep (past_below _ _)) hc n cut).mono fun e w' ⟨h1, h2⟩ => ⟨h1, lift_put (past_below _ _) h2⟩
theorem r4Plus {B : Nat} {i : Bool} {c : Int} {w : World} (h : RA B i c w) (hc : 0 ≤ c ∧ c ≤ 4611686018427387904) (a b : Int) (ha : InI a) (hb : InI b) :
    Calls Try.prog 69 #[UP B, .int .i64 a, .int .i64 b] w fun e w' => e = .returned (.int .i64 (opAdd a b).1) ∧ Below (put B (i || (opAdd a b).2) (c + 1) w).heap.size (put B (i || (opAdd a b).2) (c + 1) w) w' := by
  have hop : ∀ w, Calls Try.prog 81 #[.int .i64 a, .int .i64 b] w fun e w' => e = .returned (.tuple #[.int .i64 (opAdd a b).1, .bool (opAdd a b).2]) ∧ Below w.heap.size w w' := fun w => rFAdd a b w ha hb
  obtain ⟨p, hp⟩ : ∃ p, opAdd a b = p := ⟨_, rfl⟩
  rw [hp] at hop ⊢
  obtain ⟨n, cut⟩ := p
  simp only at hop ⊢
  have hd := r4DidP h hc n cut
  clear h hp
  go_enter Try.func69, Try.ntmps69
  go_wp2_with (first | (go_at_call 81; first | (with_reducible refine Calls_past2 (hop _) (fun z => ?_)) | (with_reducible refine Calls_past (hop _) (fun z => ?_))) | (go_at_call 75; with_reducible refine Calls_to (hd _) (fun z => ?_)))
  go_ret
  exact ⟨rfl, past_below _ _⟩
theorem r4Times {B : Nat} {i : Bool} {c : Int} {w : World} (h : RA B i c w) (hc : 0 ≤ c ∧ c ≤ 4611686018427387904) (a b : Int) (ha : InI a) (hb : InI b) :
    Calls Try.prog 70 #[UP B, .int .i64 a, .int .i64 b] w fun e w' => e = .returned (.int .i64 (opMul a b).1) ∧ Below (put B (i || (opMul a b).2) (c + 1) w).heap.size (put B (i || (opMul a b).2) (c + 1) w) w' := by
  have hop : ∀ w, Calls Try.prog 82 #[.int .i64 a, .int .i64 b] w fun e w' => e = .returned (.tuple #[.int .i64 (opMul a b).1, .bool (opMul a b).2]) ∧ Below w.heap.size w w' := fun w => rFMul a b w ha hb
  obtain ⟨p, hp⟩ : ∃ p, opMul a b = p := ⟨_, rfl⟩
  rw [hp] at hop ⊢
  obtain ⟨n, cut⟩ := p
  simp only at hop ⊢
  have hd := r4DidP h hc n cut
  clear h hp
  go_enter Try.func70, Try.ntmps70
  go_wp2_with (first | (go_at_call 82; first | (with_reducible refine Calls_past2 (hop _) (fun z => ?_)) | (with_reducible refine Calls_past (hop _) (fun z => ?_))) | (go_at_call 75; with_reducible refine Calls_to (hd _) (fun z => ?_)))
  go_ret
  exact ⟨rfl, past_below _ _⟩
theorem r4Sub {B : Nat} {i : Bool} {c : Int} {w : World} (h : RA B i c w) (hc : 0 ≤ c ∧ c ≤ 4611686018427387904) (a b : Int) (ha : InI a) (hb : InI b) :
    Calls Try.prog 59 #[UP B, .int .i64 a, .int .i64 b] w fun e w' => e = .returned (.int .i64 (opSub a b).1) ∧ Below (put B (i || (opSub a b).2) (c + 1) w).heap.size (put B (i || (opSub a b).2) (c + 1) w) w' := by
  have hop : ∀ w, Calls Try.prog 74 #[.int .i64 a, .int .i64 b] w fun e w' => e = .returned (.tuple #[.int .i64 (opSub a b).1, .bool (opSub a b).2]) ∧ Below w.heap.size w w' := fun w => rFSub a b w ha hb
  obtain ⟨p, hp⟩ : ∃ p, opSub a b = p := ⟨_, rfl⟩
  rw [hp] at hop ⊢
  obtain ⟨n, cut⟩ := p
  simp only at hop ⊢
  have hd := r4DidP h hc n cut
  clear h hp
  go_enter Try.func59, Try.ntmps59
  go_wp2_with (first | (go_at_call 74; first | (with_reducible refine Calls_past2 (hop _) (fun z => ?_)) | (with_reducible refine Calls_past (hop _) (fun z => ?_))) | (go_at_call 75; with_reducible refine Calls_to (hd _) (fun z => ?_)))
  go_ret
  exact ⟨rfl, past_below _ _⟩
set_option maxHeartbeats 2000000 in
theorem r4Add {B : Nat} {i : Bool} {c : Int} {w : World} (h : RA B i c w) (v : Value) (zs : List Int) (hz : AllI zs) (hv : SL w B v zs) (hc : 0 ≤ c ∧ c + zs.length ≤ 4611686018427387904) :
    Calls Try.prog 57 #[UP B, v] w fun e w' => e = .returned (.int .i64 (runL opAdd (0, i) zs).1) ∧
      Below (put B (runL opAdd (0, i) zs).2 (c + zs.length) w).heap.size (put B (runL opAdd (0, i) zs).2 (c + zs.length) w) w' := by
  obtain ⟨A, cp, rfl, hl, hrow⟩ := hv
  by_cases hz0 : zs.length = 0
  · obtain rfl : zs = [] := List.length_eq_zero_iff.1 hz0
    have e0 : (runL opAdd (0, i) []) = (0, i) := rfl
    rw [e0]
    simp only [List.length_nil, Int.natCast_zero, Int.add_zero]
    rw [rput_self h]
    clear h e0 hz hrow hz0
    go_enter Try.func57, Try.ntmps57
    go_wp2_with fail
    go_loopg [5, 6] 1 (fun g s5 s6 wr => s5 = .int .i64 0 ∧ s6 = .int .i64 0 ∧ ∃ z, wr = past w z)
    case atStart => exact ⟨rfl, rfl, _, past_of (Below.refl _ _)⟩
    case round =>
      obtain ⟨rfl, rfl, z, rfl⟩ := hrel
      go_wp2_with fail
      go_ret
      exact ⟨rfl, past_below _ _⟩
  · obtain ⟨b, o, rfl, hbB, hbw, hrow⟩ := hrow (by omega)
    have hlt := h.lt
    have run0 : runL opAdd (0, i) (zs.take 0) = (0, i) := by simp [runL]
    have H := Lib.hid h
    have HR := Lib.hid hrow
    have hst := ra_start h
    have HS := Lib.hid hst
    have R0 := Lib.hid run0
    clear h hrow hst run0
    go_enter Try.func57, Try.ntmps57
    go_wp2_with fail
    go_loopg [5, 6] zs.length (fun g s5 s6 wr => ∃ k : Nat, k ≤ zs.length ∧ zs.length ≤ g + k ∧ s5 = .int .i64 (runL opAdd (0, i) (zs.take k)).1 ∧ s6 = .int .i64 k ∧ ∃ z, wr = past (put B (runL opAdd (0, i) (zs.take k)).2 (c + k) w) z)
    case atStart =>
      refine ⟨0, by omega, by omega, by rw [R0.out], rfl, w, ?_⟩
      rw [R0.out]
      simp only [Int.natCast_zero, Int.add_zero]
      exact HS.out
    case round =>
      obtain ⟨k, hk, hg, rfl, rfl, z, rfl⟩ := hrel
      have hin := runL_in opAdd_in (p := (0, i)) (by show InI 0; exact ⟨by omega, by omega⟩) (zs.take k)
      obtain ⟨P, hP⟩ : ∃ P, runL opAdd (0, i) (zs.take k) = P := ⟨_, rfl⟩
      rw [hP] at hin ⊢
      by_cases hlt : k < zs.length
      · have hx := hz.get hlt
        have hcell := HR.out k hlt
        have hnx := runL_next opAdd (0, i) zs k hlt
        rw [hP] at hnx
        obtain ⟨x, hxx⟩ : ∃ x, zs.getD k 0 = x := ⟨_, rfl⟩
        rw [hxx] at hx hcell hnx
        obtain ⟨n, cut⟩ := P
        simp only at hnx hin ⊢
        have hd := fun z => r4Plus (ra_past H.out cut (c + k) z) (by omega) n x hin hx
        obtain ⟨p, hp⟩ : ∃ p, opAdd n x = p := ⟨_, rfl⟩
        have hac : acc opAdd (n, cut) x = (p.1, cut || p.2) := by unfold acc; simp only [hp]
        rw [hac] at hnx
        simp only [hp] at hd
        have HX := Lib.hid hnx
        clear hP hnx hxx hp hac
        go_wp2_with (first | (go_at_call 69; with_reducible refine Calls_put (hd _) (fun z => ?_)))
        go_roundg (zs.length - (k + 1))
        case measure => omega
        case rel =>
          refine ⟨k + 1, by omega, by omega, by rw [HX.out], by go_num, z, ?_⟩
          rw [HX.out]
          have : c + (k : Int) + 1 = c + ((k + 1 : Nat) : Int) := by omega
          rw [this]
      · obtain rfl : k = zs.length := by omega
        rw [List.take_of_length_le (Nat.le_refl _)] at hP
        have HP := Lib.hid hP
        clear hP
        go_wp2_with fail
        go_ret
        exact ⟨by rw [HP.out]; rfl, by rw [HP.out]; exact past_below _ _⟩
set_option maxHeartbeats 2000000 in
theorem r4Mul {B : Nat} {i : Bool} {c : Int} {w : World} (h : RA B i c w) (v : Value) (zs : List Int) (hz : AllI zs) (hv : SL w B v zs) (hc : 0 ≤ c ∧ c + zs.length ≤ 4611686018427387904) :
    Calls Try.prog 62 #[UP B, v] w fun e w' => e = .returned (.int .i64 (runL opMul (4294967296, i) zs).1) ∧
      Below (put B (runL opMul (4294967296, i) zs).2 (c + zs.length) w).heap.size (put B (runL opMul (4294967296, i) zs).2 (c + zs.length) w) w' := by
  obtain ⟨A, cp, rfl, hl, hrow⟩ := hv
  by_cases hz0 : zs.length = 0
  · obtain rfl : zs = [] := List.length_eq_zero_iff.1 hz0
    have e0 : (runL opMul (4294967296, i) []) = (4294967296, i) := rfl
    rw [e0]
    simp only [List.length_nil, Int.natCast_zero, Int.add_zero]
    rw [rput_self h]
    clear h e0 hz hrow hz0
    go_enter Try.func62, Try.ntmps62
    go_wp2_with fail
    go_loopg [5, 6] 1 (fun g s5 s6 wr => s5 = .int .i64 4294967296 ∧ s6 = .int .i64 0 ∧ ∃ z, wr = past w z)
    case atStart => exact ⟨rfl, rfl, _, past_of (Below.refl _ _)⟩
    case round =>
      obtain ⟨rfl, rfl, z, rfl⟩ := hrel
      go_wp2_with fail
      go_ret
      exact ⟨rfl, past_below _ _⟩
  · obtain ⟨b, o, rfl, hbB, hbw, hrow⟩ := hrow (by omega)
    have hlt := h.lt
    have run0 : runL opMul (4294967296, i) (zs.take 0) = (4294967296, i) := by simp [runL]
    have H := Lib.hid h
    have HR := Lib.hid hrow
    have hst := ra_start h
    have HS := Lib.hid hst
    have R0 := Lib.hid run0
    clear h hrow hst run0
    go_enter Try.func62, Try.ntmps62
    go_wp2_with fail
    go_loopg [5, 6] zs.length (fun g s5 s6 wr => ∃ k : Nat, k ≤ zs.length ∧ zs.length ≤ g + k ∧ s5 = .int .i64 (runL opMul (4294967296, i) (zs.take k)).1 ∧ s6 = .int .i64 k ∧ ∃ z, wr = past (put B (runL opMul (4294967296, i) (zs.take k)).2 (c + k) w) z)
    case atStart =>
      refine ⟨0, by omega, by omega, by rw [R0.out], rfl, w, ?_⟩
      rw [R0.out]
      simp only [Int.natCast_zero, Int.add_zero]
      exact HS.out
    case round =>
      obtain ⟨k, hk, hg, rfl, rfl, z, rfl⟩ := hrel
      have hin := runL_in opMul_in (p := (4294967296, i)) (by show InI 4294967296; exact ⟨by omega, by omega⟩) (zs.take k)
      obtain ⟨P, hP⟩ : ∃ P, runL opMul (4294967296, i) (zs.take k) = P := ⟨_, rfl⟩
      rw [hP] at hin ⊢
      by_cases hlt : k < zs.length
      · have hx := hz.get hlt
        have hcell := HR.out k hlt
        have hnx := runL_next opMul (4294967296, i) zs k hlt
        rw [hP] at hnx
        obtain ⟨x, hxx⟩ : ∃ x, zs.getD k 0 = x := ⟨_, rfl⟩
        rw [hxx] at hx hcell hnx
        obtain ⟨n, cut⟩ := P
        simp only at hnx hin ⊢
        have hd := fun z => r4Times (ra_past H.out cut (c + k) z) (by omega) n x hin hx
        obtain ⟨p, hp⟩ : ∃ p, opMul n x = p := ⟨_, rfl⟩
        have hac : acc opMul (n, cut) x = (p.1, cut || p.2) := by unfold acc; simp only [hp]
        rw [hac] at hnx
        simp only [hp] at hd
        have HX := Lib.hid hnx
        clear hP hnx hxx hp hac
        go_wp2_with (first | (go_at_call 70; with_reducible refine Calls_put (hd _) (fun z => ?_)))
        go_roundg (zs.length - (k + 1))
        case measure => omega
        case rel =>
          refine ⟨k + 1, by omega, by omega, by rw [HX.out], by go_num, z, ?_⟩
          rw [HX.out]
          have : c + (k : Int) + 1 = c + ((k + 1 : Nat) : Int) := by omega
          rw [this]
      · obtain rfl : k = zs.length := by omega
        rw [List.take_of_length_le (Nat.le_refl _)] at hP
        have HP := Lib.hid hP
        clear hP
        go_wp2_with fail
        go_ret
        exact ⟨by rw [HP.out]; rfl, by rw [HP.out]; exact past_below _ _⟩
theorem r4DotNo (v : Value) (A1 A2 : Option Addr) (n m c1 c2 : Nat) (hn : n ≠ m) (h1 : n ≤ 4611686018427387904) (h2 : m ≤ 4611686018427387904) (w : World) :
    Calls Try.prog 48 #[v, .slice A1 n c1, .slice A2 m c2] w fun e w' => e = .returned (.tuple #[.int .i64 0, .int .i64 3]) ∧ Below w.heap.size w w' := by
  have d1 : (((n : Nat) : Int) != ((m : Nat) : Int)) = true := by simp; omega
  go_enter Try.func48, Try.ntmps48
  go_wp2_with fail
  go_ret2
  exact ⟨rfl, Below.refl _ _⟩
set_option maxHeartbeats 2000000 in
theorem r4Dot {B : Nat} {i : Bool} {c : Int} {w : World} (h : RA B i c w) (v1 v2 : Value) (a b : List Int) (ha : AllI a) (hb : AllI b) (h1 : SL w B v1 a) (h2 : SL w B v2 b) (hlen : a.length = b.length) (hc : 0 ≤ c ∧ c + 2 * a.length ≤ 4611686018427387904) :
    Calls Try.prog 48 #[UP B, v1, v2] w fun e w' => e = .returned (.tuple #[.int .i64 (runD (0, i) a b a.length).1, .int .i64 0]) ∧
      Below (put B (runD (0, i) a b a.length).2 (c + 2 * a.length) w).heap.size (put B (runD (0, i) a b a.length).2 (c + 2 * a.length) w) w' := by
  obtain ⟨A1, cp1, rfl, hl1, hr1⟩ := h1
  obtain ⟨A2, cp2, rfl, hl2, hr2⟩ := h2
  rw [← hlen] at hl2 hr2 ⊢
  have d1 : (((a.length : Nat) : Int) != ((a.length : Nat) : Int)) = false := by simp
  by_cases hz0 : a.length = 0
  · rw [hz0]
    have e0 : runD (0, i) a b 0 = (0, i) := rfl
    rw [e0]
    simp only [Int.natCast_zero, Int.mul_zero, Int.add_zero]
    rw [rput_self h]
    clear h e0 ha hb hr1 hr2 hz0 hlen hl1 hl2 d1
    go_enter Try.func48, Try.ntmps48
    go_wp2_with fail
    go_loopg [8, 9] 1 (fun g s8 s9 wr => s8 = .int .i64 0 ∧ s9 = .int .i64 0 ∧ ∃ z, wr = past w z)
    case atStart => exact ⟨rfl, rfl, _, past_of (Below.refl _ _)⟩
    case round =>
      obtain ⟨rfl, rfl, z, rfl⟩ := hrel
      go_wp2_with fail
      go_ret2
      exact ⟨rfl, past_below _ _⟩
  · have hp0 : 0 < a.length := by omega
    obtain ⟨b1, o1, rfl, hb1, hw1, hc1⟩ := hr1 hp0
    obtain ⟨b2, o2, rfl, hb2, hw2, hc2⟩ := hr2 hp0
    have hlt := h.lt
    have H := Lib.hid h
    have HR1 := Lib.hid hc1
    have HR2 := Lib.hid hc2
    have HL := Lib.hid hlen
    have hst := ra_start h
    have HS := Lib.hid hst
    clear h hc1 hc2 hr1 hr2 hlen hst
    go_enter Try.func48, Try.ntmps48
    go_wp2_with fail
    go_loopg [8, 9] a.length (fun g s8 s9 wr => ∃ k : Nat, k ≤ a.length ∧ a.length ≤ g + k ∧ s8 = .int .i64 (runD (0, i) a b k).1 ∧ s9 = .int .i64 k ∧ ∃ z, wr = past (put B (runD (0, i) a b k).2 (c + 2 * k) w) z)
    case atStart =>
      refine ⟨0, by omega, by omega, rfl, rfl, w, ?_⟩
      have e0 : runD (0, i) a b 0 = (0, i) := rfl
      rw [e0]
      simp only [Int.natCast_zero, Int.mul_zero, Int.add_zero]
      exact HS.out
    case round =>
      obtain ⟨k, hk, hg, rfl, rfl, z, rfl⟩ := hrel
      have hin := runD_in (p := (0, i)) (by show InI 0; exact ⟨by omega, by omega⟩) a b k
      by_cases hlt : k < a.length
      · have hx := ha.get hlt
        have hy := hb.get (k := k) (by have := HL.out; omega)
        have hcx := HR1.out k hlt
        have hcy := HR2.out k (by have := HL.out; omega)
        have hnx : runD (0, i) a b (k + 1) = accD (runD (0, i) a b k) (a.getD k 0) (b.getD k 0) := rfl
        obtain ⟨P, hP⟩ : ∃ P, runD (0, i) a b k = P := ⟨_, rfl⟩
        rw [hP] at hin hnx ⊢
        obtain ⟨x, hxx⟩ : ∃ x, a.getD k 0 = x := ⟨_, rfl⟩
        obtain ⟨y, hyy⟩ : ∃ y, b.getD k 0 = y := ⟨_, rfl⟩
        rw [hxx] at hx hcx hnx
        rw [hyy] at hy hcy hnx
        obtain ⟨n, cut⟩ := P
        simp only at hin hnx ⊢
        have hmi := opMul_in x y
        have hacc : accD (n, cut) x y = ((opAdd n (opMul x y).1).1, (cut || (opMul x y).2) || (opAdd n (opMul x y).1).2) := rfl
        have hm := fun (W : World) (kp : Below (put B cut (c + 2 * k) w).heap.size (put B cut (c + 2 * k) w) W) (h1 : W.cell? ⟨b1, o1 + k, none⟩ = some (.int .i64 x)) (h2 : W.cell? ⟨b2, o2 + k, none⟩ = some (.int .i64 y)) =>
          (r4Times ((H.out.put cut (c + 2 * k)).keep kp) (by omega) x y hx hy).mono fun e w' h => (⟨h.1, next_put kp (Below.refl _ _) h.2, cell_via (Below.refl _ _) h.2 hb1 h1, cell_via (Below.refl _ _) h.2 hb2 h2⟩ : e = Ending.returned (.int .i64 (opMul x y).1) ∧ Below (put B (cut || (opMul x y).2) (c + 2 * k + 1) w).heap.size (put B (cut || (opMul x y).2) (c + 2 * k + 1) w) w' ∧ w'.cell? ⟨b1, o1 + k, none⟩ = some (.int .i64 x) ∧ w'.cell? ⟨b2, o2 + k, none⟩ = some (.int .i64 y))
        obtain ⟨q, hq⟩ : ∃ q, opMul x y = q := ⟨_, rfl⟩
        rw [hq] at hacc hmi
        simp only [hq] at hm
        obtain ⟨m, mc⟩ := q
        simp only at hm hmi hacc
        have hs := fun (W : World) (kp : Below (put B (cut || mc) (c + 2 * k + 1) w).heap.size (put B (cut || mc) (c + 2 * k + 1) w) W) (h1 : W.cell? ⟨b1, o1 + k, none⟩ = some (.int .i64 x)) (h2 : W.cell? ⟨b2, o2 + k, none⟩ = some (.int .i64 y)) =>
          (r4Plus ((H.out.put (cut || mc) (c + 2 * k + 1)).keep kp) (by omega) n m hin hmi).mono fun e w' h => (⟨h.1, next_put kp (Below.refl _ _) h.2, cell_via (Below.refl _ _) h.2 hb1 h1, cell_via (Below.refl _ _) h.2 hb2 h2⟩ : e = Ending.returned (.int .i64 (opAdd n m).1) ∧ Below (put B ((cut || mc) || (opAdd n m).2) (c + 2 * k + 1 + 1) w).heap.size (put B ((cut || mc) || (opAdd n m).2) (c + 2 * k + 1 + 1) w) w' ∧ w'.cell? ⟨b1, o1 + k, none⟩ = some (.int .i64 x) ∧ w'.cell? ⟨b2, o2 + k, none⟩ = some (.int .i64 y))
        obtain ⟨r, hr⟩ : ∃ r, opAdd n m = r := ⟨_, rfl⟩
        rw [hr] at hacc
        simp only [hr] at hs
        obtain ⟨s, sc⟩ := r
        simp only at hs hacc
        rw [hacc] at hnx
        have c1 : (past (put B cut (c + 2 * k) w) z).cell? ⟨b1, o1 + k, none⟩ = some (.int .i64 x) := ((past_below _ z).cell (p := ⟨b1, o1 + k, none⟩) (by rw [put_size]; exact hw1)).trans ((put_cell B _ _ w _ hb1).trans hcx)
        have c2 : (past (put B cut (c + 2 * k) w) z).cell? ⟨b2, o2 + k, none⟩ = some (.int .i64 y) := ((past_below _ z).cell (p := ⟨b2, o2 + k, none⟩) (by rw [put_size]; exact hw2)).trans ((put_cell B _ _ w _ hb2).trans hcy)
        have HX := Lib.hid hnx
        have hpz := past_below (put B cut (c + 2 * k) w) z
        clear hP hnx hxx hyy hq hr hacc
        obtain ⟨wr, hwr⟩ : ∃ wr, past (put B cut (c + 2 * k) w) z = wr := ⟨_, rfl⟩
        rw [hwr] at c1 c2 hpz ⊢
        clear hwr
        go_wp2_with fail
        go_region_held3 (fun w' => w'.cell? ⟨b1, o1 + k, none⟩ = some (.int .i64 x) ∧ w'.cell? ⟨b2, o2 + k, none⟩ = some (.int .i64 y)) ((go_split_ands; refine ⟨?_, ?_⟩ <;> (first | assumption | (simp [go_sem, *]; done)))) ((first | (go_at_call 70; with_reducible refine Calls.mono (hm _ ?_ ?_ ?_) ?_; (focus ((repeat (first | assumption | exact Below.refl _ _ | with_reducible refine past_t _ ?_ | with_reducible refine below_a _ ?_ | with_reducible refine Below.drew ?_ | with_reducible refine below_d _ ?_ | (with_reducible refine Below.setCell ?_ (by (show _ ≤ _; repeat (first | exact Nat.le_refl _ | assumption | (omega; done) | with_reducible exact le_past (Nat.le_refl _) | with_reducible refine le_past ?_ | with_reducible refine le_al ?_ | with_reducible refine le_set ?_ | with_reducible refine le_p1 ?_))) _))); done)); (focus ((first | assumption | (simp [go_sem, *]; done)); done)); (focus ((first | assumption | (simp [go_sem, *]; done)); done)); rintro _ w2 ⟨rfl, hb4, hcx2, hcy2⟩) | (go_at_call 69; with_reducible refine Calls.mono (hs _ ?_ ?_ ?_) ?_; (focus ((repeat (first | assumption | exact Below.refl _ _ | with_reducible refine past_t _ ?_ | with_reducible refine below_a _ ?_ | with_reducible refine Below.drew ?_ | with_reducible refine below_d _ ?_ | (with_reducible refine Below.setCell ?_ (by (show _ ≤ _; repeat (first | exact Nat.le_refl _ | assumption | (omega; done) | with_reducible exact le_past (Nat.le_refl _) | with_reducible refine le_past ?_ | with_reducible refine le_al ?_ | with_reducible refine le_set ?_ | with_reducible refine le_p1 ?_))) _))); done)); (focus ((first | assumption | (simp [go_sem, *]; done)); done)); (focus ((first | assumption | (simp [go_sem, *]; done)); done)); rintro _ w3 ⟨rfl, hb5, hcx3, hcy3⟩)))
        go_wp2_with fail
        go_roundg (a.length - (k + 1))
        case measure => omega
        case rel =>
          have : c + 2 * ((k + 1 : Nat) : Int) = c + 2 * (k : Int) + 1 + 1 := by omega
          refine ⟨k + 1, by omega, by omega, by rw [HX.out], by go_num, ?_⟩
          rw [HX.out, this]
          exact ⟨_, past_of (by assumption)⟩
      · obtain rfl : k = a.length := by omega
        go_wp2_with fail
        go_ret2
        exact ⟨rfl, past_below _ _⟩
end Go.Proofs.Ytlhadociaekkhaa
