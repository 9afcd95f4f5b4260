/- Package mat: what is checked; the closures. -/
import Derived.Test.YtlhadociaekkhaaQMat2
set_option linter.unusedSimpArgs false
set_option linter.unusedVariables false
namespace Go.Proofs.Ytlhadociaekkhaa
set_option linter.unusedVariables false
set_option maxRecDepth 100000
open Go.RowKit Go.Shelf
/-- Why a matrix is none. -/
def chk (R C : Int) (n : Nat) : Int := if (1 ≤ R ∧ R ≤ 12) ∧ (1 ≤ C ∧ C ≤ 12) ∧ (n : Int) = R * C then 0 else 3
theorem mSized (n : Int) (w : World) : Calls Try.prog 51 #[.int .i64 n] w fun e w' => e = .returned (.bool (decide (1 ≤ n ∧ n ≤ 12))) ∧ w' = w := by
  by_cases h1 : 1 ≤ n
  · by_cases h2 : n ≤ 12
    · rw [decide_eq_true ⟨h1, h2⟩]
      go_enter Try.func51, Try.ntmps51
      go_wp2_with fail
      all_goals first | (exfalso; omega) | (go_ret; exact ⟨by first | rfl | (simp; omega), rfl⟩)
    · rw [decide_eq_false (fun h => h2 h.2)]
      go_enter Try.func51, Try.ntmps51
      go_wp2_with fail
      all_goals first | (exfalso; omega) | (go_ret; exact ⟨by first | rfl | (simp; omega), rfl⟩)
  · rw [decide_eq_false (fun h => h1 h.1)]
    go_enter Try.func51, Try.ntmps51
    go_wp2_with fail
    all_goals first | (exfalso; omega) | (go_ret; exact ⟨by first | rfl | (simp; omega), rfl⟩)
set_option maxHeartbeats 2000000 in
theorem mCheck (R C : Int) (A : Option Addr) (n cap : Nat) (w : World) : Calls Try.prog 25 #[.agg #[.int .i64 R, .int .i64 C, .slice A n cap]] w fun e w' => e = .returned (.int .i64 (chk R C n)) ∧ Below w.heap.size w w' := by
  by_cases h1 : 1 ≤ R ∧ R ≤ 12
  · have hs1 : ∀ W, Calls Try.prog 51 #[.int .i64 R] W fun e w' => e = .returned (.bool true) ∧ w' = W := fun W => by have := mSized R W; rwa [decide_eq_true h1] at this
    by_cases h2 : 1 ≤ C ∧ C ≤ 12
    · have hs2 : ∀ W, Calls Try.prog 51 #[.int .i64 C] W fun e w' => e = .returned (.bool true) ∧ w' = W := fun W => by have := mSized C W; rwa [decide_eq_true h2] at this
      have hbd : -9223372036854775808 ≤ R * C ∧ R * C ≤ 9223372036854775807 := by
        have := Int.mul_le_mul h1.2 h2.2 (by omega) (by omega)
        have := Int.mul_nonneg (show 0 ≤ R by omega) (show 0 ≤ C by omega)
        omega
      have hw : wrap64 (R * C) = R * C := IntWalk.wrap64_in (R * C) hbd
      have hx : chk R C n = if ((n : Int) != R * C) = true then 3 else 0 := by
        unfold chk
        by_cases h3 : (n : Int) = R * C
        · rw [if_pos ⟨h1, h2, h3⟩, if_neg (by simp [h3])]
        · rw [if_neg (fun h => h3 h.2.2), if_pos (by simpa using h3)]
      generalize chk R C n = x at *
      have HX := Lib.hid hx
      clear hx h1 h2
      go_enter Try.func25, Try.ntmps25
      go_wp2_with (first | (go_at_call 51; first | (refine (hs1 _).mono ?_; rintro e w' ⟨rfl, rfl⟩) | (refine (hs2 _).mono ?_; rintro e w' ⟨rfl, rfl⟩)))
      all_goals (rename_i hq; go_ret; refine ⟨by rw [HX.out, hq]; rfl, by (repeat (first | assumption | exact Below.refl _ _ | with_reducible refine past_t _ ?_ | with_reducible refine below_a _ ?_ | with_reducible refine Below.drew ?_ | with_reducible refine below_d _ ?_ | (with_reducible refine Below.setCell ?_ (by (show _ ≤ _; repeat (first | exact Nat.le_refl _ | assumption | (omega; done) | with_reducible exact le_past (Nat.le_refl _) | with_reducible refine le_past ?_ | with_reducible refine le_al ?_ | with_reducible refine le_set ?_ | with_reducible refine le_p1 ?_))) _)))⟩)
    · have hs2 : ∀ W, Calls Try.prog 51 #[.int .i64 C] W fun e w' => e = .returned (.bool false) ∧ w' = W := fun W => by have := mSized C W; rwa [decide_eq_false h2] at this
      have e0 : chk R C n = 3 := by unfold chk; rw [if_neg (fun h => h2 h.2.1)]
      rw [e0]
      clear e0
      go_enter Try.func25, Try.ntmps25
      go_wp2_with (first | (go_at_call 51; first | (refine (hs1 _).mono ?_; rintro e w' ⟨rfl, rfl⟩) | (refine (hs2 _).mono ?_; rintro e w' ⟨rfl, rfl⟩)))
      go_ret
      exact ⟨rfl, by (repeat (first | assumption | exact Below.refl _ _ | with_reducible refine past_t _ ?_ | with_reducible refine below_a _ ?_ | with_reducible refine Below.drew ?_ | with_reducible refine below_d _ ?_ | (with_reducible refine Below.setCell ?_ (by (show _ ≤ _; repeat (first | exact Nat.le_refl _ | assumption | (omega; done) | with_reducible exact le_past (Nat.le_refl _) | with_reducible refine le_past ?_ | with_reducible refine le_al ?_ | with_reducible refine le_set ?_ | with_reducible refine le_p1 ?_))) _)))⟩
  · have hs1 : ∀ W, Calls Try.prog 51 #[.int .i64 R] W fun e w' => e = .returned (.bool false) ∧ w' = W := fun W => by have := mSized R W; rwa [decide_eq_false h1] at this
    have e0 : chk R C n = 3 := by unfold chk; rw [if_neg (fun h => h1 h.1)]
    rw [e0]
    clear e0
    go_enter Try.func25, Try.ntmps25
    go_wp2_with (first | (go_at_call 51; refine (hs1 _).mono ?_; rintro e w' ⟨rfl, rfl⟩))
    go_ret
    exact ⟨rfl, by (repeat (first | assumption | exact Below.refl _ _ | with_reducible refine past_t _ ?_ | with_reducible refine below_a _ ?_ | with_reducible refine Below.drew ?_ | with_reducible refine below_d _ ?_ | (with_reducible refine Below.setCell ?_ (by (show _ ≤ _; repeat (first | exact Nat.le_refl _ | assumption | (omega; done) | with_reducible exact le_past (Nat.le_refl _) | with_reducible refine le_past ?_ | with_reducible refine le_al ?_ | with_reducible refine le_set ?_ | with_reducible refine le_p1 ?_))) _)))⟩
end Go.Proofs.Ytlhadociaekkhaa
/- Package mat: the closures of Diag and Turn; what is made by them. -/
namespace Go.Proofs.Ytlhadociaekkhaa
set_option linter.unusedVariables false
set_option maxRecDepth 100000
open Go.RowKit Go.Shelf
theorem mDiag1 {Bl B : Nat} {v : Value} {zs : List Int} {w : World} (hB : w.cell? ⟨Bl, 0, none⟩ = some v) (hv : SL w B v zs) (i k : Nat) (hi : i < zs.length) (hk : k < zs.length) (hN : zs.length ≤ 4611686018427387904) :
    Calls Try.prog 52 #[.int .i64 i, .int .i64 k, .pointer (some ⟨Bl, 0, none⟩)] w fun e w' => e = .returned (.int .i64 (if i = k then zs.getD i 0 else 0)) ∧ Below w.heap.size w w' := by
  obtain ⟨A, cap, rfl, hl, hr⟩ := hv
  obtain ⟨b, o, rfl, hb, hbs, hrow⟩ := hr (by omega)
  have hx := hrow i hi
  have hil : (i : Int) < zs.length := by omega
  by_cases h : i = k
  · subst h
    rw [if_pos rfl]
    clear hrow hr hk
    go_enter Try.func52, Try.ntmps52
    go_wp2_with fail
    go_ret
    exact ⟨by simp [List.getD, hi], by (repeat (first | assumption | exact Below.refl _ _ | with_reducible refine past_t _ ?_ | with_reducible refine below_a _ ?_ | with_reducible refine Below.drew ?_ | with_reducible refine below_d _ ?_ | (with_reducible refine Below.setCell ?_ (by (show _ ≤ _; repeat (first | exact Nat.le_refl _ | assumption | (omega; done) | with_reducible exact le_past (Nat.le_refl _) | with_reducible refine le_past ?_ | with_reducible refine le_al ?_ | with_reducible refine le_set ?_ | with_reducible refine le_p1 ?_))) _)))⟩
  · rw [if_neg h]
    have h2 : ¬ (i : Int) = (k : Int) := by omega
    clear hrow hr
    go_enter Try.func52, Try.ntmps52
    go_wp2_with fail
    go_ret
    exact ⟨rfl, by (repeat (first | assumption | exact Below.refl _ _ | with_reducible refine past_t _ ?_ | with_reducible refine below_a _ ?_ | with_reducible refine Below.drew ?_ | with_reducible refine below_d _ ?_ | (with_reducible refine Below.setCell ?_ (by (show _ ≤ _; repeat (first | exact Nat.le_refl _ | assumption | (omega; done) | with_reducible exact le_past (Nat.le_refl _) | with_reducible refine le_past ?_ | with_reducible refine le_al ?_ | with_reducible refine le_set ?_ | with_reducible refine le_p1 ?_))) _)))⟩
theorem mTurn1 {Bm B : Nat} {R : Int} {C : Nat} {v : Value} {zs : List Int} {w : World} (h0 : w.cell? ⟨Bm, 0, none⟩ = some (.int .i64 R)) (h1 : w.cell? ⟨Bm, 1, none⟩ = some (.int .i64 C)) (h2 : w.cell? ⟨Bm, 2, none⟩ = some v) (hv : SL w B v zs) (i k : Nat)
    (hk : k * C + i < zs.length) (hkC : k * C ≤ 144) (hN : zs.length ≤ 144) :
    Calls Try.prog 50 #[.int .i64 i, .int .i64 k, .pointer (some ⟨Bm, 0, none⟩)] w fun e w' => e = .returned (.int .i64 (zs.getD (k * C + i) 0)) ∧ Below w.heap.size w w' := by
  obtain ⟨A, cap, rfl, hl, hr⟩ := hv
  obtain ⟨b, o, rfl, hb, hbs, hrow⟩ := hr (by omega)
  have hx := hrow _ hk
  have e1 : ((k * C : Nat) : Int) = (k : Int) * (C : Int) := by simp
  have hw : wrap64 ((k : Int) * (C : Int)) = ((k * C : Nat) : Int) := by rw [← e1]; exact IntWalk.wrap64_in _ ⟨by omega, by omega⟩
  generalize k * C = p at *
  generalize zs.getD (p + i) 0 = x at *
  clear e1 hrow hr
  go_enter Try.func50, Try.ntmps50
  go_wp2_with fail
  go_ret
  exact ⟨rfl, by (repeat (first | assumption | exact Below.refl _ _ | with_reducible refine past_t _ ?_ | with_reducible refine below_a _ ?_ | with_reducible refine Below.drew ?_ | with_reducible refine below_d _ ?_ | (with_reducible refine Below.setCell ?_ (by (show _ ≤ _; repeat (first | exact Nat.le_refl _ | assumption | (omega; done) | with_reducible exact le_past (Nat.le_refl _) | with_reducible refine le_past ?_ | with_reducible refine le_al ?_ | with_reducible refine le_set ?_ | with_reducible refine le_p1 ?_))) _)))⟩
/-- What a made matrix has, where the closure changes nothing. -/
theorem madeF_unit (v : Unit → Nat → Int) (nx : Unit → Nat → Unit) (l : List Nat) : (madeF v nx () l).1 = l.map (v ()) := by
  have : ∀ (l : List Nat) (p : List Int × Unit), (l.foldl (fun p x => (p.1 ++ [v p.2 x], nx p.2 x)) p).1 = p.1 ++ l.map (v ()) := by
    intro l
    induction l with
    | nil => intro p; simp
    | cons a l ih => intro p; rw [List.foldl_cons, ih]; simp
  unfold madeF; rw [this]; rfl
def diagL (zs : List Int) : List Int := (List.range (zs.length * zs.length)).map fun x => if x / zs.length = x % zs.length then zs.getD (x / zs.length) 0 else 0
def turnL (R C : Nat) (zs : List Int) : List Int := (List.range (C * R)).map fun x => zs.getD ((x % R) * C + x / R) 0
theorem ko_refl (w : World) : ∀ s s' : Unit, KeepsOthers ((fun _ => w) s) ((fun _ => w) s') := fun _ _ => KeepsOthers.refl _
theorem hat_of {w W : World} {W' : World} {p : Prop} (hW : Below w.heap.size w W) (h1 : p) (h2 : Below W.heap.size W W') :
    p ∧ Below w.heap.size w W' ∧ W.heap.size ≤ W'.heap.size ∧ ∀ k, w.heap.size ≤ k → k < W.heap.size → W'.heap[k]? = W.heap[k]? :=
  ⟨h1, hW.trans (h2.mono hW.size), h2.size, fun k _ hk => h2.block k hk⟩
theorem mMadeDiag {Bl B : Nat} {v : Value} {zs : List Int} {w : World} (hB : w.cell? ⟨Bl, 0, none⟩ = some v) (hv : SL w B v zs) (hn : 1 ≤ zs.length ∧ zs.length ≤ 12) :
    Calls Try.prog 45 #[.int .i64 zs.length, .int .i64 zs.length, .func (.func 52) #[] #[.pointer (some ⟨Bl, 0, none⟩)]] w fun e w' => ∃ A cap, e = .returned (.agg #[.int .i64 zs.length, .int .i64 zs.length, .slice A (zs.length * zs.length) cap]) ∧ OwnI w w' (.slice A (zs.length * zs.length) cap) (diagL zs) ∧
      Below w.heap.size w w' := by
  have := madeG 52 #[.pointer (some ⟨Bl, 0, none⟩)] (enters_of Try.func52 (by kernel_rfl) rfl) () (fun _ => w) (fun _ x => if x / zs.length = x % zs.length then zs.getD (x / zs.length) 0 else 0) (fun _ _ => ())
    zs.length zs.length (zs.length * zs.length) hn hn rfl w (fun _ => rfl) (ko_refl w) rfl (fun _ _ => True) trivial (fun _ _ _ _ => trivial) (fun k s x W _ _ hW => by
      have h1 : x.1 / zs.length < zs.length := Nat.div_lt_of_lt_mul x.2
      have h2 : x.1 % zs.length < zs.length := Nat.mod_lt _ (by omega)
      refine (mDiag1 (cell_keep hB hW) (hv.keep hW) _ _ h1 h2 (by omega)).mono ?_
      rintro e W' ⟨rfl, hb⟩
      exact hat_of hW rfl hb)
  rw [madeF_unit] at this
  exact this
theorem mMadeTurn {Bm B R C : Nat} {v : Value} {zs : List Int} {w : World} (h0 : w.cell? ⟨Bm, 0, none⟩ = some (.int .i64 R)) (h1 : w.cell? ⟨Bm, 1, none⟩ = some (.int .i64 C)) (h2 : w.cell? ⟨Bm, 2, none⟩ = some v) (hv : SL w B v zs) (hR : 1 ≤ R ∧ R ≤ 12) (hC : 1 ≤ C ∧ C ≤ 12) (hz : zs.length = R * C) :
    Calls Try.prog 45 #[.int .i64 C, .int .i64 R, .func (.func 50) #[] #[.pointer (some ⟨Bm, 0, none⟩)]] w fun e w' => ∃ A cap, e = .returned (.agg #[.int .i64 C, .int .i64 R, .slice A (C * R) cap]) ∧ OwnI w w' (.slice A (C * R) cap) (turnL R C zs) ∧
      Below w.heap.size w w' := by
  have := madeG 50 #[.pointer (some ⟨Bm, 0, none⟩)] (enters_of Try.func50 (by kernel_rfl) rfl) () (fun _ => w) (fun _ x => zs.getD ((x % R) * C + x / R) 0) (fun _ _ => ())
    C R (C * R) hC hR rfl w (fun _ => rfl) (ko_refl w) rfl (fun _ _ => True) trivial (fun _ _ _ _ => trivial) (fun k s x W _ _ hW => by
      have k1 : x.1 / R < C := Nat.div_lt_of_lt_mul (by have h := Nat.mul_comm C R; have := x.2; omega)
      have k2 : x.1 % R < R := Nat.mod_lt _ (by omega)
      have k3 : x.1 % R * C + C ≤ R * C := by rw [← Nat.succ_mul]; exact Nat.mul_le_mul_right _ k2
      have k4 : R * C ≤ 144 := Nat.mul_le_mul hR.2 hC.2
      refine (mTurn1 (cell_keep h0 hW) (cell_keep h1 hW) (cell_keep h2 hW) (hv.keep hW) _ _ (by omega) (by omega) (by omega)).mono ?_
      rintro e W' ⟨rfl, hb⟩
      exact hat_of hW rfl hb)
  rw [madeF_unit] at this
  exact this
theorem results_cm {fn : Func} {t u B : Nat} {T : TypeId} (h : fn.results = #[.cell t 24, .tmp u]) {tmps : Array Value} {w : World} {x0 x1 x2 : Value} (hp : tmps.getD t undef = .pointer (some ⟨B, 0, none⟩)) (h0 : w.cell? ⟨B, 0, none⟩ = some x0) (h1 : w.cell? ⟨B, 1, none⟩ = some x1) (h2 : w.cell? ⟨B, 2, none⟩ = some x2) :
    (results fn tmps).run Try.prog w = .ok (.tuple #[.agg #[x0, x1, x2], tmps.getD u undef]) w := by
  have hp2 : tmps[t]?.getD undef = .pointer (some ⟨B, 0, none⟩) := by rw [← hp]; simp
  simp [results, h, hp2, h0, h1, h2, go_sem]
theorem own_set {V w : World} {E : TypeId} {k : IntKind} {v : Value} {zs : List Int} (h : OwnK V w E k v zs) {b i : Nat} (hb : b < V.heap.size) (u : Value) : OwnK V (w.setCell ⟨b, i, none⟩ u) E k v zs := by
  obtain ⟨h0, h1 | ⟨g, cap, cur, h1, hg, hh, h3⟩⟩ := h
  · exact ⟨h0, .inl h1⟩
  · exact ⟨h0, .inr ⟨g, cap, cur, h1, hg, (Below.heap_setCell w ⟨b, i, none⟩ u g (by show g ≠ b; omega)).trans hh, h3⟩⟩
/-- The world in which a result's box holds a matrix. -/
abbrev boxed (B : Nat) (x0 x1 x2 : Value) (w : World) : World := ((w.setCell ⟨B, 0, none⟩ x0).setCell ⟨B, 1, none⟩ x1).setCell ⟨B, 2, none⟩ x2
theorem Blk.boxed {w : World} {B : Nat} {T : TypeId} {y0 y1 y2 : Value} (h : Blk w B T #[y0, y1, y2]) (x0 x1 x2 : Value) : Blk (boxed B x0 x1 x2 w) B T #[x0, x1, x2] := ((h.set 0 x0).set 1 x1).set 2 x2
theorem results_bm {fn : Func} {t u B : Nat} (h : fn.results = #[.cell t 24, .tmp u]) {tmps : Array Value} {w : World} {T : TypeId} {y0 y1 y2 x0 x1 x2 : Value} (hp : tmps.getD t undef = .pointer (some ⟨B, 0, none⟩)) (hq : Blk w B T #[y0, y1, y2]) :
    (results fn tmps).run Try.prog (boxed B x0 x1 x2 w) = .ok (.tuple #[.agg #[x0, x1, x2], tmps.getD u undef]) (boxed B x0 x1 x2 w) :=
  results_cm (T := 0) h hp ((hq.boxed x0 x1 x2).cell 0) ((hq.boxed x0 x1 x2).cell 1) ((hq.boxed x0 x1 x2).cell 2)
theorem own_box {V w : World} {E : TypeId} {k : IntKind} {v : Value} {zs : List Int} (h : OwnK V w E k v zs) {B : Nat} (hb : B < V.heap.size) (x0 x1 x2 : Value) : OwnK V (boxed B x0 x1 x2 w) E k v zs := own_set (own_set (own_set h hb _) hb _) hb _
theorem below_box {V w : World} {n : Nat} (h : Below n V w) {B : Nat} (hb : n ≤ B) (x0 x1 x2 : Value) : Below n V (boxed B x0 x1 x2 w) := ((h.setCell (by exact hb) _).setCell (by exact hb) _).setCell (by exact hb) _
/-- No matrix. -/
abbrev M0 : Value := .agg #[.int .i64 0, .int .i64 0, .slice none 0 0]
set_option maxHeartbeats 2000000 in
theorem mDiagNo {A : Option Addr} {n c : Nat} {w : World} (hn : ¬(1 ≤ n ∧ n ≤ 12)) : Calls Try.prog 28 #[.slice A n c] w fun e w' => e = .returned (.tuple #[M0, .int .i64 3]) ∧ Below w.heap.size w w' := by
  have hs := fun W => mSized (n : Int) W
  rw [decide_eq_false (by omega : ¬(1 ≤ (n : Int) ∧ (n : Int) ≤ 12))] at hs
  go_enter Try.func28, Try.ntmps28
  go_wp2_with (first | (go_at_call 51; refine (hs _).mono ?_; rintro e w' ⟨rfl, rfl⟩))
  refine bodyPost_ret (results_cm (T := 0) (x0 := .int .i64 0) (x1 := .int .i64 0) (x2 := .slice none 0 0) rfl rfl (by (first | (simp [go_sem]; done) | (simp [go_sem, ↓IntWalk.iteOmega]; done))) (by (first | (simp [go_sem]; done) | (simp [go_sem, ↓IntWalk.iteOmega]; done))) (by (first | (simp [go_sem]; done) | (simp [go_sem, ↓IntWalk.iteOmega]; done)))) rfl ?_
  exact ⟨rfl, by (repeat (first | assumption | exact Below.refl _ _ | with_reducible refine past_t _ ?_ | with_reducible refine below_a _ ?_ | with_reducible refine Below.drew ?_ | with_reducible refine below_d _ ?_ | (with_reducible refine Below.setCell ?_ (by (show _ ≤ _; repeat (first | exact Nat.le_refl _ | assumption | (omega; done) | with_reducible exact le_past (Nat.le_refl _) | with_reducible refine le_past ?_ | with_reducible refine le_al ?_ | with_reducible refine le_set ?_ | with_reducible refine le_p1 ?_))) _)))⟩
set_option maxHeartbeats 2000000 in
theorem mDiag {B : Nat} {v : Value} {zs : List Int} {w : World} (hv : SL w B v zs) (hn : 1 ≤ zs.length ∧ zs.length ≤ 12) : Calls Try.prog 28 #[v] w fun e w' =>
    ∃ A cap, e = .returned (.tuple #[.agg #[.int .i64 zs.length, .int .i64 zs.length, .slice A (zs.length * zs.length) cap], .int .i64 0]) ∧ OwnI w w' (.slice A (zs.length * zs.length) cap) (diagL zs) ∧ Below w.heap.size w w' := by
  have hs := fun W => mSized (zs.length : Int) W
  rw [decide_eq_true (by omega : 1 ≤ (zs.length : Int) ∧ (zs.length : Int) ≤ 12)] at hs
  have HV := Lib.hid hv
  obtain ⟨A0, cap0, rfl, hl, hr⟩ := hv
  clear hr
  go_enter Try.func28, Try.ntmps28
  go_wp2_with (first | (go_at_call 51; refine (hs _).mono ?_; rintro e w' ⟨rfl, rfl⟩) | (go_at_call 45; refine (mMadeDiag (B := B) ?_ (HV.out.keep ?_) hn).mono ?_; (focus ((first | (simp [go_sem]; done) | (simp [go_sem, ↓IntWalk.iteOmega]; done)); done)); (focus ((repeat (first | assumption | exact Below.refl _ _ | with_reducible refine past_t _ ?_ | with_reducible refine below_a _ ?_ | with_reducible refine Below.drew ?_ | with_reducible refine below_d _ ?_ | (with_reducible refine Below.setCell ?_ (by (show _ ≤ _; repeat (first | exact Nat.le_refl _ | assumption | (omega; done) | with_reducible exact le_past (Nat.le_refl _) | with_reducible refine le_past ?_ | with_reducible refine le_al ?_ | with_reducible refine le_set ?_ | with_reducible refine le_p1 ?_))) _))); done)); rintro e w' ⟨A, cap, rfl, ho, hb⟩; have hq := (Blk.new (w.alloc _) 24 #[.int .i64 0, .int .i64 0, .slice none 0 0]).keep hb; simp only [World.size_alloc] at hq; have q0 := hq.cell 0; have q1 := hq.cell 1; have q2 := hq.cell 2; have q3 := hq.mark 0; have q4 := hq.mark 1; have q5 := hq.mark 2; have q6 := hq.lt; simp at q0 q1 q2))
  have hB0 := below_box (below_a _ (below_a _ (Below.refl _ w)) |>.trans (hb.mono (by simp only [World.size_alloc]; omega))) (B := w.heap.size + 1) (by omega) (.int .i64 zs.length) (.int .i64 zs.length) (.slice A (zs.length * zs.length) cap)
  have ho0 := (own_box ho (B := w.heap.size + 1) (by simp only [World.size_alloc]; omega) (.int .i64 zs.length) (.int .i64 zs.length) (.slice A (zs.length * zs.length) cap)).base (U := w) (by simp only [World.size_alloc]; omega)
  refine bodyPost_ret (results_bm rfl rfl hq) rfl ⟨_, _, rfl, ho0, hB0⟩
end Go.Proofs.Ytlhadociaekkhaa
/- Package mat: Eye, Turn, Row. -/
namespace Go.Proofs.Ytlhadociaekkhaa
set_option linter.unusedVariables false
set_option maxRecDepth 100000
open Go.RowKit Go.Shelf
set_option maxHeartbeats 2000000 in
theorem mEyeNo {n : Int} {w : World} (hn : ¬(1 ≤ n ∧ n ≤ 12)) : Calls Try.prog 26 #[.int .i64 n] w fun e w' => e = .returned (.tuple #[M0, .int .i64 3]) ∧ Below w.heap.size w w' := by
  have hs := fun W => mSized n W
  rw [decide_eq_false hn] at hs
  go_enter Try.func26, Try.ntmps26
  go_wp2_with (first | (go_at_call 51; refine (hs _).mono ?_; rintro e w' ⟨rfl, rfl⟩))
  refine bodyPost_ret (results_cm (T := 0) (x0 := .int .i64 0) (x1 := .int .i64 0) (x2 := .slice none 0 0) rfl rfl (by (first | (simp [go_sem]; done) | (simp [go_sem, ↓IntWalk.iteOmega]; done))) (by (first | (simp [go_sem]; done) | (simp [go_sem, ↓IntWalk.iteOmega]; done))) (by (first | (simp [go_sem]; done) | (simp [go_sem, ↓IntWalk.iteOmega]; done)))) rfl ?_
  exact ⟨rfl, by (repeat (first | assumption | exact Below.refl _ _ | with_reducible refine past_t _ ?_ | with_reducible refine below_a _ ?_ | with_reducible refine Below.drew ?_ | with_reducible refine below_d _ ?_ | (with_reducible refine Below.setCell ?_ (by (show _ ≤ _; repeat (first | exact Nat.le_refl _ | assumption | (omega; done) | with_reducible exact le_past (Nat.le_refl _) | with_reducible refine le_past ?_ | with_reducible refine le_al ?_ | with_reducible refine le_set ?_ | with_reducible refine le_p1 ?_))) _)))⟩
def oneL (n : Nat) : List Int := List.replicate n 4294967296
set_option maxHeartbeats 2000000 in
theorem mEye {n : Nat} {w : World} (hn : 1 ≤ n ∧ n ≤ 12) : Calls Try.prog 26 #[.int .i64 n] w fun e w' =>
    ∃ A cap, e = .returned (.tuple #[.agg #[.int .i64 n, .int .i64 n, .slice A (n * n) cap], .int .i64 0]) ∧ OwnI w w' (.slice A (n * n) cap) (diagL (oneL n)) ∧ Below w.heap.size w w' := by
  have hs := fun W => mSized (n : Int) W
  rw [decide_eq_true (by omega : 1 ≤ (n : Int) ∧ (n : Int) ≤ 12)] at hs
  have hol : (oneL n).length = n := by simp [oneL]
  obtain ⟨MK, hMK, hmk⟩ : ∃ MK : Array Value, MK.size = n * 1 ∧ ∀ w : World, (Instr.makeSlice 22 (.int .i64 n) (.int .i64 n)).run Try.prog w = .ok (.slice (some ⟨w.heap.size, 0, none⟩) n n) (w.alloc (.cells MK 3)) := by
    obtain ⟨i0, hi, hz0, hz1, hz2⟩ := info_parts infoI
    refine ⟨_, ?_, fun w => by have := run_make (P := Try.prog) w 22 3 i0 _ Try.underlying22 hi hz0 .i64 .i64 n n (by omega) (by omega) (by rw [hz2]; omega) (by omega); simpa using this⟩
    rw [size_madeCells, hz1]
  have HMK := Lib.hid hMK
  clear hMK
  go_enter Try.func26, Try.ntmps26
  go_wp2_with (first | (go_at_call 51; refine (hs _).mono ?_; rintro e w' ⟨rfl, rfl⟩))
  go_loopg [5, 14] n (fun g s5 s14 wr => ∃ (k : Nat) (cs : Array Value), k ≤ n ∧ n ≤ g + k ∧ s14 = .int .i64 k ∧ cs.size = n ∧ cs.toList.take k = List.replicate k (.int .i64 4294967296) ∧ Below w.heap.size w wr ∧ Blk wr w.heap.size 24 #[.int .i64 0, .int .i64 0, .slice none 0 0] ∧ Blk wr (w.heap.size + 1) 3 cs)
  case atStart =>
    refine ⟨0, MK, by omega, by omega, rfl, by have := HMK.out; omega, rfl, by (repeat (first | assumption | exact Below.refl _ _ | with_reducible refine past_t _ ?_ | with_reducible refine below_a _ ?_ | with_reducible refine Below.drew ?_ | with_reducible refine below_d _ ?_ | (with_reducible refine Below.setCell ?_ (by (show _ ≤ _; repeat (first | exact Nat.le_refl _ | assumption | (omega; done) | with_reducible exact le_past (Nat.le_refl _) | with_reducible refine le_past ?_ | with_reducible refine le_al ?_ | with_reducible refine le_set ?_ | with_reducible refine le_p1 ?_))) _))), ?_, ?_⟩
    · exact (Blk.new w _ _).keep ((Below.refl _ _).alloc (Nat.le_refl _) _)
    · have := Blk.new (w.alloc (.cells #[.int .i64 0, .int .i64 0, .slice none 0 0] 24)) 3 MK
      simpa using this
  case round =>
    obtain ⟨k, cs, hk, hg, rfl, hcs, htk, hb, hq, hc⟩ := hrel
    by_cases hlt : k < n
    · obtain ⟨u, hu⟩ : ∃ u, wr.cell? ⟨w.heap.size + 1, k, none⟩ = some u := ⟨_, (hc.cell k).trans (Array.getElem?_eq_getElem (by omega))⟩
      have hm := hc.mark k
      have HC := Lib.hid (And.intro hq hc)
      have HT := Lib.hid (And.intro hcs htk)
      clear hq hc hcs htk
      go_wp2_with fail
      go_roundg (n - (k + 1))
      case measure => omega
      case rel =>
        obtain ⟨hq, hc⟩ := HC.out
        obtain ⟨hcs, htk⟩ := HT.out
        refine ⟨k + 1, cs.setIfInBounds k (.int .i64 4294967296), by omega, by omega, by go_num, by simp [hcs], ?_, hb.setCell (by show w.heap.size ≤ w.heap.size + 1; omega) _, hq.far (by omega) _, hc.set _ _⟩
        rw [Array.toList_setIfInBounds]
        have hlc : k < cs.toList.length := by simpa [hcs] using hlt
        rw [List.take_succ_eq_append_getElem (by simpa using hlc), List.take_set_of_le (Nat.le_refl _), htk, List.replicate_succ']
        simp
    · obtain rfl : k = n := by omega
      have hown : SL wr w.heap.size (.slice (some ⟨w.heap.size + 1, 0, none⟩) k k) (oneL k) := by
        refine ⟨_, k, by rw [hol], by rw [hol]; omega, fun _ => ⟨w.heap.size + 1, 0, rfl, by omega, hc.lt, fun j hj => ?_⟩⟩
        rw [hol] at hj
        have e1 := hc.cell (0 + j)
        rw [e1]
        have e2 : cs.toList[j]? = (cs.toList.take k)[j]? := by rw [List.getElem?_take]; simp [hj]
        rw [Nat.zero_add, ← Array.getElem?_toList, e2, htk]
        simp [oneL, hj, List.getD]
      have HD : ∀ W, Below wr.heap.size wr W → Calls Try.prog 28 #[.slice (some ⟨w.heap.size + 1, 0, none⟩) k k] W fun e w' => ∃ A cap, e = .returned (.tuple #[.agg #[.int .i64 k, .int .i64 k, .slice A (k * k) cap], .int .i64 0]) ∧ OwnI W w' (.slice A (k * k) cap) (diagL (oneL k)) ∧ Below W.heap.size W w' := fun W hW => by
        have := mDiag (hown.keep hW) (by rw [hol]; exact hn)
        rwa [hol] at this
      have HC := Lib.hid hc
      have HQ := Lib.hid hq
      clear hc hcs htk hq hown
      go_wp2_with (first | (go_at_call 28; refine (HD _ (Below.refl _ _)).mono ?_; rintro e w' ⟨A, cap, rfl, ho, hb2⟩; have hq := HQ.out.keep hb2; have q0 := hq.cell 0; have q1 := hq.cell 1; have q2 := hq.cell 2; have q3 := hq.mark 0; have q4 := hq.mark 1; have q5 := hq.mark 2; have q6 := hq.lt; simp at q0 q1 q2))
      have hsz := hb.size
      have hlt2 := HC.out.lt
      have hB0 := below_box (hb.trans (hb2.mono (by omega))) (B := w.heap.size) (by omega) (.int .i64 k) (.int .i64 k) (.slice A (k * k) cap)
      have ho0 := (own_box ho (B := w.heap.size) (by omega) (.int .i64 k) (.int .i64 k) (.slice A (k * k) cap)).base (U := w) hsz
      refine bodyPost_ret (results_bm rfl rfl hq) rfl ⟨_, _, rfl, ho0, hB0⟩
set_option maxHeartbeats 2000000 in
theorem mTurnNo {R C : Int} {A : Option Addr} {n c : Nat} {w : World} (h : chk R C n = 3) : Calls Try.prog 24 #[.agg #[.int .i64 R, .int .i64 C, .slice A n c]] w fun e w' => e = .returned (.tuple #[M0, .int .i64 3]) ∧ Below w.heap.size w w' := by
  have hs := fun W => mCheck R C A n c W
  rw [h] at hs
  go_enter Try.func24, Try.ntmps24
  go_wp2_with (first | (go_at_call 25; refine (hs _).mono ?_; rintro e w' ⟨rfl, hb⟩; obtain ⟨z, rfl⟩ := ex_past hb))
  refine bodyPost_ret (results_cm (T := 0) (x0 := .int .i64 0) (x1 := .int .i64 0) (x2 := .slice none 0 0) rfl rfl (by (first | (simp [go_sem]; done) | (simp [go_sem, ↓IntWalk.iteOmega]; done))) (by (first | (simp [go_sem]; done) | (simp [go_sem, ↓IntWalk.iteOmega]; done))) (by (first | (simp [go_sem]; done) | (simp [go_sem, ↓IntWalk.iteOmega]; done)))) rfl ?_
  exact ⟨rfl, by (repeat (first | assumption | exact Below.refl _ _ | with_reducible refine past_t _ ?_ | with_reducible refine below_a _ ?_ | with_reducible refine Below.drew ?_ | with_reducible refine below_d _ ?_ | (with_reducible refine Below.setCell ?_ (by (show _ ≤ _; repeat (first | exact Nat.le_refl _ | assumption | (omega; done) | with_reducible exact le_past (Nat.le_refl _) | with_reducible refine le_past ?_ | with_reducible refine le_al ?_ | with_reducible refine le_set ?_ | with_reducible refine le_p1 ?_))) _)))⟩
set_option maxHeartbeats 2000000 in
theorem mTurn {B R C : Nat} {v : Value} {zs : List Int} {w : World} (hv : SL w B v zs) (hR : 1 ≤ R ∧ R ≤ 12) (hC : 1 ≤ C ∧ C ≤ 12) (hz : zs.length = R * C) : Calls Try.prog 24 #[.agg #[.int .i64 R, .int .i64 C, v]] w fun e w' =>
    ∃ A cap, e = .returned (.tuple #[.agg #[.int .i64 C, .int .i64 R, .slice A (C * R) cap], .int .i64 0]) ∧ OwnI w w' (.slice A (C * R) cap) (turnL R C zs) ∧ Below w.heap.size w w' := by
  have hck : chk R C zs.length = 0 := by unfold chk; rw [if_pos ⟨by omega, by omega, by rw [hz]; simp⟩]
  have hs := fun A c W => mCheck R C A zs.length c W
  rw [hck] at hs
  have HV := Lib.hid hv
  obtain ⟨A0, cap0, rfl, hl, hr⟩ := hv
  clear hr hck
  have HZ := Lib.hid hz
  clear hz
  go_enter Try.func24, Try.ntmps24
  go_wp2_with (first | (go_at_call 25; refine (hs _ _ _).mono ?_; rintro e w' ⟨rfl, hb⟩; obtain ⟨z, rfl⟩ := ex_past hb; clear hb) | (go_at_call 45; refine (mMadeTurn (B := B) ?_ ?_ ?_ (HV.out.keep ?_) hR hC HZ.out).mono ?_; (focus ((first | (simp [go_sem]; done) | (simp [go_sem, ↓IntWalk.iteOmega]; done)); done)); (focus ((first | (simp [go_sem]; done) | (simp [go_sem, ↓IntWalk.iteOmega]; done)); done)); (focus ((first | (simp [go_sem]; done) | (simp [go_sem, ↓IntWalk.iteOmega]; done)); done)); (focus ((repeat (first | assumption | exact Below.refl _ _ | with_reducible refine past_t _ ?_ | with_reducible refine below_a _ ?_ | with_reducible refine Below.drew ?_ | with_reducible refine below_d _ ?_ | (with_reducible refine Below.setCell ?_ (by (show _ ≤ _; repeat (first | exact Nat.le_refl _ | assumption | (omega; done) | with_reducible exact le_past (Nat.le_refl _) | with_reducible refine le_past ?_ | with_reducible refine le_al ?_ | with_reducible refine le_set ?_ | with_reducible refine le_p1 ?_))) _))); done)); rintro e w' ⟨A, cap, rfl, ho, hb⟩; have hq := ((Blk.new (w.alloc _) 24 #[.int .i64 0, .int .i64 0, .slice none 0 0]).keep (past_below _ z)).keep hb; simp only [World.size_alloc] at hq; have q0 := hq.cell 0; have q1 := hq.cell 1; have q2 := hq.cell 2; have q3 := hq.mark 0; have q4 := hq.mark 1; have q5 := hq.mark 2; have q6 := hq.lt; simp at q0 q1 q2))
  have hB0 := below_box (((below_a _ (below_a _ (Below.refl _ w))).trans ((past_below _ z).mono (by simp only [World.size_alloc]; omega))).trans (hb.mono (Nat.le_trans (by simp only [World.size_alloc]; omega) (past_size _ _)))) (B := w.heap.size + 1) (by omega) (.int .i64 C) (.int .i64 R) (.slice A (C * R) cap)
  have ho0 := (own_box ho (B := w.heap.size + 1) (Nat.lt_of_lt_of_le (by simp only [World.size_alloc]; omega) (past_below _ z).size) (.int .i64 C) (.int .i64 R) (.slice A (C * R) cap)).base (U := w) (Nat.le_trans (by simp only [World.size_alloc]; omega) (past_below _ z).size)
  refine bodyPost_ret (results_bm rfl rfl hq) rfl ⟨_, _, rfl, ho0, hB0⟩
set_option maxHeartbeats 2000000 in
theorem mRowNo {R C : Int} {A : Option Addr} {n c : Nat} {i : Int} {w : World} (h : ¬(chk R C n = 0 ∧ 0 ≤ i ∧ i < R)) : Calls Try.prog 31 #[.agg #[.int .i64 R, .int .i64 C, .slice A n c], .int .i64 i] w fun e w' => e = .returned (.tuple #[.slice none 0 0, .int .i64 3]) ∧ Below w.heap.size w w' := by
  have hs := fun W => mCheck R C A n c W
  by_cases hc0 : chk R C n = 0
  · rw [hc0] at hs
    by_cases hi : i < 0
    · clear h
      go_enter Try.func31, Try.ntmps31
      go_wp2_with (first | (go_at_call 25; refine (hs _).mono ?_; rintro e w' ⟨rfl, hb⟩; obtain ⟨z, rfl⟩ := ex_past hb))
      go_ret2
      exact ⟨rfl, by (repeat (first | assumption | exact Below.refl _ _ | with_reducible refine past_t _ ?_ | with_reducible refine below_a _ ?_ | with_reducible refine Below.drew ?_ | with_reducible refine below_d _ ?_ | (with_reducible refine Below.setCell ?_ (by (show _ ≤ _; repeat (first | exact Nat.le_refl _ | assumption | (omega; done) | with_reducible exact le_past (Nat.le_refl _) | with_reducible refine le_past ?_ | with_reducible refine le_al ?_ | with_reducible refine le_set ?_ | with_reducible refine le_p1 ?_))) _)))⟩
    · have hi2 : R ≤ i := by omega
      clear h
      go_enter Try.func31, Try.ntmps31
      go_wp2_with (first | (go_at_call 25; refine (hs _).mono ?_; rintro e w' ⟨rfl, hb⟩; obtain ⟨z, rfl⟩ := ex_past hb))
      go_ret2
      exact ⟨rfl, by (repeat (first | assumption | exact Below.refl _ _ | with_reducible refine past_t _ ?_ | with_reducible refine below_a _ ?_ | with_reducible refine Below.drew ?_ | with_reducible refine below_d _ ?_ | (with_reducible refine Below.setCell ?_ (by (show _ ≤ _; repeat (first | exact Nat.le_refl _ | assumption | (omega; done) | with_reducible exact le_past (Nat.le_refl _) | with_reducible refine le_past ?_ | with_reducible refine le_al ?_ | with_reducible refine le_set ?_ | with_reducible refine le_p1 ?_))) _)))⟩
  · have h3 : chk R C n = 3 := by unfold chk at hc0 ⊢; split <;> simp_all
    rw [h3] at hs
    go_enter Try.func31, Try.ntmps31
    go_wp2_with (first | (go_at_call 25; refine (hs _).mono ?_; rintro e w' ⟨rfl, hb⟩; obtain ⟨z, rfl⟩ := ex_past hb))
    go_ret2
    exact ⟨rfl, by (repeat (first | assumption | exact Below.refl _ _ | with_reducible refine past_t _ ?_ | with_reducible refine below_a _ ?_ | with_reducible refine Below.drew ?_ | with_reducible refine below_d _ ?_ | (with_reducible refine Below.setCell ?_ (by (show _ ≤ _; repeat (first | exact Nat.le_refl _ | assumption | (omega; done) | with_reducible exact le_past (Nat.le_refl _) | with_reducible refine le_past ?_ | with_reducible refine le_al ?_ | with_reducible refine le_set ?_ | with_reducible refine le_p1 ?_))) _)))⟩
/-- A row. -/
def rowL (zs : List Int) (C i : Nat) : List Int := (zs.drop (i * C)).take C
theorem rowL_len {zs : List Int} {R C i : Nat} (hz : zs.length = R * C) (hi : i < R) : (rowL zs C i).length = C ∧ i * C + C ≤ zs.length := by
  have : (i + 1) * C ≤ R * C := Nat.mul_le_mul_right _ hi
  rw [Nat.succ_mul] at this
  unfold rowL
  simp
  omega
set_option maxHeartbeats 2000000 in
theorem mRow {R C i c : Nat} {A : Option Addr} {zs : List Int} {w : World} (hv : RS .i64 w A zs.length c zs) (hR : 1 ≤ R ∧ R ≤ 12) (hC : 1 ≤ C ∧ C ≤ 12) (hz : zs.length = R * C) (hi : i < R) : Calls Try.prog 31 #[.agg #[.int .i64 R, .int .i64 C, .slice A zs.length c], .int .i64 i] w fun e w' =>
    ∃ A' c', e = .returned (.tuple #[.slice A' C c', .int .i64 0]) ∧ OwnI w w' (.slice A' C c') (rowL zs C i) ∧ Below w.heap.size w w' := by
  have hck : chk R C zs.length = 0 := by unfold chk; rw [if_pos ⟨by omega, by omega, by rw [hz]; simp⟩]
  have hs := fun W => mCheck R C A zs.length c W
  rw [hck] at hs
  obtain ⟨hll, hle⟩ := rowL_len hz hi
  have hN : R * C ≤ 144 := Nat.mul_le_mul hR.2 hC.2
  obtain ⟨b, o, rfl, _, _⟩ := hv.at_ (by omega)
  have hrs := hv.cut (i * C) (i * C + C) (by omega) hle
  have hcp := hv.cap
  have htp := hv.top
  have HR := Lib.hid hrs
  have e1 : ((i * C : Nat) : Int) = (i : Int) * (C : Int) := by simp
  have hw : wrap64 ((i : Int) * (C : Int)) = ((i * C : Nat) : Int) := by rw [← e1]; exact IntWalk.wrap64_in _ ⟨by omega, by omega⟩
  rw [← hz] at hN
  have hnz : ¬ zs.length = 0 := Nat.ne_of_gt (Nat.lt_of_lt_of_le hC.1 (Nat.le_trans (Nat.le_add_left C (i * C)) hle))
  have hiR : ¬ (R : Int) ≤ (i : Int) := by omega
  unfold rowL at hll ⊢
  generalize i * C = p at *
  clear hrs hv e1 hck hz
  go_enter Try.func31, Try.ntmps31
  go_wp2_with (first | (go_at_call 25; refine (hs _).mono ?_; rintro e w' ⟨rfl, hb⟩; obtain ⟨z, rfl⟩ := ex_past hb; clear hb) | (at_builtin; refine append_i (by rfl) _ _ (by rfl) w (by rfl) (by rfl) ?_ (OwnK.nil _ _ _ _) (HR.out.keep ?_) ?_ ?_; (focus ((first | ((repeat (first | assumption | exact Below.refl _ _ | with_reducible refine past_t _ ?_ | with_reducible refine below_a _ ?_ | with_reducible refine Below.drew ?_ | with_reducible refine below_d _ ?_ | (with_reducible refine Below.setCell ?_ (by (show _ ≤ _; repeat (first | exact Nat.le_refl _ | assumption | (omega; done) | with_reducible exact le_past (Nat.le_refl _) | with_reducible refine le_past ?_ | with_reducible refine le_al ?_ | with_reducible refine le_set ?_ | with_reducible refine le_p1 ?_))) _))); done) | (with_reducible rfl; done) | omega | (rfl; done) | (simp; done) | (simp [go_sem]; done) | (simp; omega) | (simp [go_sem]; omega)); done)); (focus ((first | ((repeat (first | assumption | exact Below.refl _ _ | with_reducible refine past_t _ ?_ | with_reducible refine below_a _ ?_ | with_reducible refine Below.drew ?_ | with_reducible refine below_d _ ?_ | (with_reducible refine Below.setCell ?_ (by (show _ ≤ _; repeat (first | exact Nat.le_refl _ | assumption | (omega; done) | with_reducible exact le_past (Nat.le_refl _) | with_reducible refine le_past ?_ | with_reducible refine le_al ?_ | with_reducible refine le_set ?_ | with_reducible refine le_p1 ?_))) _))); done) | (with_reducible rfl; done) | omega | (rfl; done) | (simp; done) | (simp [go_sem]; done) | (simp; omega) | (simp [go_sem]; omega)); done)); (focus ((first | ((repeat (first | assumption | exact Below.refl _ _ | with_reducible refine past_t _ ?_ | with_reducible refine below_a _ ?_ | with_reducible refine Below.drew ?_ | with_reducible refine below_d _ ?_ | (with_reducible refine Below.setCell ?_ (by (show _ ≤ _; repeat (first | exact Nat.le_refl _ | assumption | (omega; done) | with_reducible exact le_past (Nat.le_refl _) | with_reducible refine le_past ?_ | with_reducible refine le_al ?_ | with_reducible refine le_set ?_ | with_reducible refine le_p1 ?_))) _))); done) | (with_reducible rfl; done) | omega | (rfl; done) | (simp; done) | (simp [go_sem]; done) | (simp; omega) | (simp [go_sem]; omega)); done)); intro A1 c1 z1 ho1; (try simp only [List.nil_append, List.length_nil, Nat.zero_add, Nat.add_sub_cancel_left] at ho1 ⊢)))
  all_goals go_ret2
  all_goals (rw [hll] at ho1; exact ⟨A1, c1, rfl, ho1, past_below _ _⟩)
end Go.Proofs.Ytlhadociaekkhaa
/- Package mat: who refuses. -/
namespace Go.Proofs.Ytlhadociaekkhaa
set_option linter.unusedVariables false
set_option maxRecDepth 100000
open Go.RowKit Go.Shelf
theorem mNone {B : Nat} {i : Bool} {c : Int} {w : World} (h : UA B i c w) (hc : 0 ≤ c ∧ c ≤ 4611686018427387904) : Calls Try.prog 63 #[UP B] w fun e w' => e = .returned (.bool false) ∧ Below w.heap.size w w' := by
  have hd : Calls Try.prog 47 #[UP B, .slice none 0 0, .slice none 0 0] w fun e w' => e = .returned (.tuple #[.int .i64 0, .int .i64 0]) ∧ Below w.heap.size w w' := by
    have := uDot h _ _ [] [] (by intro n hn; cases hn) (by intro n hn; cases hn) (SL.nil w B) (SL.nil w B) rfl (by simp; omega)
    have e0 : runD (0, i) [] [] ([] : List Int).length = (0, i) := rfl
    rw [e0] at this
    simp only [List.length_nil, Int.natCast_zero, Int.mul_zero, Int.add_zero] at this
    rw [put_self h] at this
    exact this
  clear h
  go_enter Try.func63, Try.ntmps63
  go_wp2_with ((go_at_call 47; first | (with_reducible refine Calls_past2 (hd) (fun z => ?_)) | (with_reducible refine Calls_past (hd) (fun z => ?_))))
  go_ret
  exact ⟨rfl, past_below _ _⟩
theorem mNoneN {p : Option Addr} {w : World} (h : NU p w) : Calls Try.prog 63 #[.pointer p] w fun e w' => e = .returned (.bool true) ∧ Below w.heap.size w w' := by
  have hd := nDot h (.slice none 0 0) (.slice none 0 0)
  clear h
  go_enter Try.func63, Try.ntmps63
  go_wp2_with ((go_at_call 47; first | (with_reducible refine Calls_past2 (hd) (fun z => ?_)) | (with_reducible refine Calls_past (hd) (fun z => ?_))))
  go_ret
  exact ⟨rfl, past_below _ _⟩
theorem mRefusesN {p : Option Addr} {w : World} (h : NU p w) (f : Bool) (v : Value) : Calls Try.prog 44 #[.pointer p, .bool f, v] w fun e w' => e = .returned (.int .i64 1) ∧ Below w.heap.size w w' := by
  have hd := mNoneN h
  clear h
  go_enter Try.func44, Try.ntmps44
  go_wp2_with ((go_at_call 63; first | (with_reducible refine Calls_past2 (hd) (fun z => ?_)) | (with_reducible refine Calls_past (hd) (fun z => ?_))))
  go_ret
  exact ⟨rfl, past_below _ _⟩
/-- Matrices one behind the other in a block. -/
structure ML (w : World) (L k : Nat) (R C : Nat → Int) (A : Nat → Option Addr) (n d : Nat → Nat) : Prop where
  lt : L < w.heap.size
  r : ∀ j, j < k → w.cell? ⟨L, 3 * j, none⟩ = some (.int .i64 (R j))
  c : ∀ j, j < k → w.cell? ⟨L, 3 * j + 1, none⟩ = some (.int .i64 (C j))
  v : ∀ j, j < k → w.cell? ⟨L, 3 * j + 2, none⟩ = some (.slice (A j) (n j) (d j))
/-- Why matrices are refused. -/
def rfs (f : Bool) (ok : Prop) [Decidable ok] : Int := if ok then (if f then 0 else 3) else 3
theorem chk_or (R C : Int) (n : Nat) : chk R C n = 0 ∨ chk R C n = 3 := by unfold chk; split <;> simp
set_option maxHeartbeats 4000000 in
theorem mRefuses {B : Nat} {i : Bool} {c : Int} {w : World} (h : UA B i c w) (hc : 0 ≤ c ∧ c ≤ 4611686018427387904) (f : Bool) {L k : Nat} (hk : k ≤ 2) {R C : Nat → Int} {A : Nat → Option Addr} {n d : Nat → Nat} (hm : ML w L k R C A n d) :
    Calls Try.prog 44 #[UP B, .bool f, .slice (some ⟨L, 0, none⟩) k k] w fun e w' => e = .returned (.int .i64 (rfs f (∀ j, j < k → chk (R j) (C j) (n j) = 0))) ∧ Below w.heap.size w w' := by
  have hd := mNone h hc
  have hs := fun j => mCheck (R j) (C j) (A j) (n j) (d j)
  clear h
  have HM := Lib.hid hm
  have hL := hm.lt
  clear hm
  obtain ⟨x, hx⟩ : ∃ x, x = rfs f (∀ j, j < k → chk (R j) (C j) (n j) = 0) := ⟨_, rfl⟩
  rw [← hx]
  have HX := Lib.hid hx
  clear hx
  go_enter Try.func44, Try.ntmps44
  go_wp2_with ((go_at_call 63; first | (with_reducible refine Calls_past2 (hd) (fun z => ?_)) | (with_reducible refine Calls_past (hd) (fun z => ?_))))
  go_loopg [13] k (fun g s13 wr => ∃ j : Nat, j ≤ k ∧ k ≤ g + j ∧ s13 = .int .i64 j ∧ (∀ a, a < j → chk (R a) (C a) (n a) = 0) ∧ ∃ z, wr = past w z)
  case atStart => exact ⟨0, by omega, by omega, rfl, fun a ha => absurd ha (by omega), _, rfl⟩
  case round =>
    obtain ⟨j, hj, hg, rfl, hall, z, rfl⟩ := hrel
    by_cases hlt : j < k
    · have hr0 : (past w z).cell? ⟨L, 3 * j, none⟩ = some (.int .i64 (R j)) := ((past_below w z).cell (p := ⟨L, 3 * j, none⟩) hL).trans (HM.out.r j hlt)
      have hr1 : (past w z).cell? ⟨L, 3 * j + 1, none⟩ = some (.int .i64 (C j)) := ((past_below w z).cell (p := ⟨L, 3 * j + 1, none⟩) hL).trans (HM.out.c j hlt)
      have hr2 : (past w z).cell? ⟨L, 3 * j + 2, none⟩ = some (.slice (A j) (n j) (d j)) := ((past_below w z).cell (p := ⟨L, 3 * j + 2, none⟩) hL).trans (HM.out.v j hlt)
      have e3 : j * 3 = 3 * j := Nat.mul_comm _ _
      have H0 := Lib.hid hall
      rcases chk_or (R j) (C j) (n j) with h0 | h0
      · have hsj := hs j
        rw [h0] at hsj
        have H1 := Lib.hid h0
        clear h0 hs hall
        go_wp2_with (first | (go_at_call 25; refine (hsj _).mono ?_; rintro e w' ⟨rfl, hb⟩; obtain ⟨z2, rfl⟩ := ex_past hb; clear hb))
        go_roundg (k - (j + 1))
        case measure => omega
        case rel => exact ⟨j + 1, by omega, by omega, by go_num, fun a ha => by rcases Nat.lt_succ_iff_lt_or_eq.1 ha with h | rfl; exact H0.out a h; exact H1.out, ex_past (by (repeat (first | assumption | exact Below.refl _ _ | with_reducible refine past_t _ ?_ | with_reducible refine below_a _ ?_ | with_reducible refine Below.drew ?_ | with_reducible refine below_d _ ?_ | (with_reducible refine Below.setCell ?_ (by (show _ ≤ _; repeat (first | exact Nat.le_refl _ | assumption | (omega; done) | with_reducible exact le_past (Nat.le_refl _) | with_reducible refine le_past ?_ | with_reducible refine le_al ?_ | with_reducible refine le_set ?_ | with_reducible refine le_p1 ?_))) _))))⟩
      · have hsj := hs j
        rw [h0] at hsj
        have H1 := Lib.hid h0
        clear h0 hs hall
        go_wp2_with (first | (go_at_call 25; refine (hsj _).mono ?_; rintro e w' ⟨rfl, hb⟩; obtain ⟨z2, rfl⟩ := ex_past hb; clear hb))
        go_ret
        refine ⟨?_, by (repeat (first | assumption | exact Below.refl _ _ | with_reducible refine past_t _ ?_ | with_reducible refine below_a _ ?_ | with_reducible refine Below.drew ?_ | with_reducible refine below_d _ ?_ | (with_reducible refine Below.setCell ?_ (by (show _ ≤ _; repeat (first | exact Nat.le_refl _ | assumption | (omega; done) | with_reducible exact le_past (Nat.le_refl _) | with_reducible refine le_past ?_ | with_reducible refine le_al ?_ | with_reducible refine le_set ?_ | with_reducible refine le_p1 ?_))) _)))⟩
        rw [HX.out]
        unfold rfs
        rw [if_neg (fun hh => by have := hh j hlt; rw [H1.out] at this; omega)]
        rfl
    · obtain rfl : j = k := by omega
      have H0 := Lib.hid hall
      clear hall hs
      cases f <;> (
        go_wp2_with fail
        go_ret
        refine ⟨?_, by (repeat (first | assumption | exact Below.refl _ _ | with_reducible refine past_t _ ?_ | with_reducible refine below_a _ ?_ | with_reducible refine Below.drew ?_ | with_reducible refine below_d _ ?_ | (with_reducible refine Below.setCell ?_ (by (show _ ≤ _; repeat (first | exact Nat.le_refl _ | assumption | (omega; done) | with_reducible exact le_past (Nat.le_refl _) | with_reducible refine le_past ?_ | with_reducible refine le_al ?_ | with_reducible refine le_set ?_ | with_reducible refine le_p1 ?_))) _)))⟩
        rw [HX.out]
        unfold rfs
        rw [if_pos H0.out]
        rfl)
end Go.Proofs.Ytlhadociaekkhaa
/- Package mat: each. -/
namespace Go.Proofs.Ytlhadociaekkhaa
set_option linter.unusedVariables false
set_option maxRecDepth 100000
open Go.RowKit Go.Shelf
set_option maxHeartbeats 4000000 in
theorem mEach1 (fD : FuncId) (ba ca : Array Value) (hen : ∀ (args : Array Value) (w : World), (callFunc fD args).run Try.prog w = .ok (.enter fD args) w) {Bd Ba Bb B C : Nat} {v1 v2 : Value} {a b : List Int} {w : World}
    (hd : w.cell? ⟨Bd, 0, none⟩ = some (.func (.func fD) ba ca)) (ha1 : w.cell? ⟨Ba, 1, none⟩ = some (.int .i64 C)) (ha2 : w.cell? ⟨Ba, 2, none⟩ = some v1) (hb1 : w.cell? ⟨Bb, 1, none⟩ = some (.int .i64 C)) (hb2 : w.cell? ⟨Bb, 2, none⟩ = some v2)
    (h1 : SL w B v1 a) (h2 : SL w B v2 b) (i k : Nat) (hia : i * C + k < a.length) (hib : i * C + k < b.length) (hN : i * C + k < 144) (P : World → Prop) (y : Int)
    (hdoes : ∀ m, Calls Try.prog fD (ba ++ #[.int .i64 (a.getD (i * C + k) 0), .int .i64 (b.getD (i * C + k) 0)] ++ ca) (w.drewN m) fun e w' => e = .returned (.int .i64 y) ∧ P w') :
    Calls Try.prog 71 #[.int .i64 i, .int .i64 k, .pointer (some ⟨Bd, 0, none⟩), .pointer (some ⟨Ba, 0, none⟩), .pointer (some ⟨Bb, 0, none⟩)] w fun e w' => e = .returned (.int .i64 y) ∧ P w' := by
  obtain ⟨A1, c1, rfl, hl1, hr1⟩ := h1
  obtain ⟨A2, c2, rfl, hl2, hr2⟩ := h2
  obtain ⟨p1, o1, rfl, _, _, hw1⟩ := hr1 (by omega)
  obtain ⟨p2, o2, rfl, _, _, hw2⟩ := hr2 (by omega)
  have hx1 := hw1 _ hia
  have hx2 := hw2 _ hib
  have e1 : ((i * C : Nat) : Int) = (i : Int) * (C : Int) := by simp
  have hw : wrap64 ((i : Int) * (C : Int)) = ((i * C : Nat) : Int) := by rw [← e1]; exact IntWalk.wrap64_in _ ⟨by omega, by omega⟩
  clear e1 hw1 hw2 hr1 hr2
  generalize i * C = p at *
  generalize a.getD (p + k) 0 = x1 at *
  generalize b.getD (p + k) 0 = x2 at *
  have hD : ∀ m, CallsIn Fence.wide 5 Try.prog fD (ba ++ (#[.int .i64 x1, .int .i64 x2] ++ ca)) (w.drewN m) fun e w' => e = .returned (.int .i64 y) ∧ P w' := fun m => by
    have := (callsIn_wide (n := 5)).2 (hdoes m)
    rwa [Array.append_assoc] at this
  clear hdoes
  refine (callsIn_wide (n := 6)).1 ?_
  refine callsIn_of_wp Try.func71 rfl trivial ?_ rfl
  simp only [Try.ntmps71, List.size_toArray, List.length_cons, List.length_nil, Nat.reduceAdd, Nat.reduceSub, Array.replicate_succ, Array.replicate_zero, List.push_toArray, List.append_toArray, List.nil_append, List.cons_append]
  gi_wp2
  refine region_headF (C := fun w' => ∃ m, w' = w.drewN m) rfl 21 (by kernel_rfl) (by kernel_rfl) ⟨1, rfl⟩ ?_
  simp only [List.take_succ_cons, List.take_zero, List.drop_succ_cons, List.drop_zero]
  repeat (gi_big_quiet_step (fail))
  refine wpQuietIn_nil ?_; rintro _ ⟨m, rfl⟩
  gi_wp2_with (refine ⟨trivial, ?_⟩; refine (hD m).mono ?_; rintro e w' ⟨rfl, hP⟩)
  go_ret
  exact ⟨rfl, hP⟩
theorem ko_put (B : Nat) (w : World) (s s' : Bool × Int) : KeepsOthers ((fun s : Bool × Int => put B s.1 s.2 w) s) ((fun s : Bool × Int => put B s.1 s.2 w) s') := by
  have h := (KeepsOthers.setCell (put B s.1 s.2 w) ⟨B, 0, none⟩ (.bool s'.1)).trans (KeepsOthers.setCell _ ⟨B, 1, none⟩ (.int .i64 s'.2))
  have e : KeepsOthers (put B s.1 s.2 w) (put B s'.1 s'.2 (put B s.1 s.2 w)) := h
  rw [put_put] at e
  exact e
theorem AllI.at {a : List Int} (h : AllI a) {j : Nat} (hj : j < a.length) : InI (a.getD j 0) := by
  have e : a.getD j 0 = a[j] := by simp [List.getD, hj]
  rw [e]
  exact h _ (List.getElem_mem hj)
theorem below_drewN (W : World) (m : Nat) : Below W.heap.size W (W.drewN m) := (Below.refl _ _).grown (grownBy_drewN W m) (Nat.le_refl _) (fun k e => by cases e)
theorem put_far (B : Nat) (j : Bool) (d : Int) (w : World) {k : Nat} (h : k ≠ B) : (put B j d w).heap[k]? = w.heap[k]? := by
  unfold put
  rw [Below.heap_setCell _ ⟨B, 1, none⟩ _ _ h, Below.heap_setCell _ ⟨B, 0, none⟩ _ _ h]
theorem hat_put {w W Y w' : World} {B : Nat} {f j : Bool} {cc d : Int} (hB : B < w.heap.size) (hz : Below w.heap.size (put B f cc w) W) (hy : Below W.heap.size W Y) (hb : Below (put B j d Y).heap.size (put B j d Y) w') :
    Below w.heap.size (put B j d w) w' ∧ W.heap.size ≤ w'.heap.size ∧ ∀ k, w.heap.size ≤ k → k < W.heap.size → w'.heap[k]? = W.heap[k]? := by
  have h1 : Below (put B j d w).heap.size (put B j d w) w' := next_put (f := f) (cc := cc) (by rw [put_size]; exact hz) hy hb
  rw [put_size] at h1
  have s1 := hy.size
  have s2 := hb.size
  rw [put_size] at s2
  refine ⟨h1, Nat.le_trans s1 s2, fun k hk hl => ?_⟩
  rw [hb.block k (by rw [put_size]; omega), put_far _ _ _ _ (by omega)]
  exact hy.block k hl
/-- What two lists come to, number by number, and what the unit is then. -/
theorem madeF_mapG (g : Bool → Int → Int → Int × Bool) (dk : Int) (i : Bool) (c : Int) (a b : List Int) (n : Nat) :
    madeF (σ := Bool × Int) (fun s x => (g s.1 (a.getD x 0) (b.getD x 0)).1) (fun s x => ((g s.1 (a.getD x 0) (b.getD x 0)).2, s.2 + dk)) (i, c) (List.range n) = ((mapG g i a b n).1, ((mapG g i a b n).2, c + dk * n)) := by
  induction n with
  | zero => simp [madeF, mapG]
  | succ n ih =>
    rw [List.range_succ, madeF_snoc, ih]
    have e : mapG g i a b (n + 1) = ((mapG g i a b n).1 ++ [(g (mapG g i a b n).2 (a.getD n 0) (b.getD n 0)).1], (g (mapG g i a b n).2 (a.getD n 0) (b.getD n 0)).2) := rfl
    rw [e]
    refine Prod.ext rfl (Prod.ext rfl ?_)
    show c + dk * (n : Int) + dk = c + dk * ((n + 1 : Nat) : Int)
    rw [Int.natCast_succ, Int.mul_add, Int.mul_one]
    omega
theorem mMadeEach (fD : FuncId) (ba ca : Array Value) (hen : ∀ (args : Array Value) (w : World), (callFunc fD args).run Try.prog w = .ok (.enter fD args) w) (g : Bool → Int → Int → Int × Bool) (dk : Int) (hdk : 0 ≤ dk ∧ dk ≤ 2)
    {Bd Ba Bb B R C : Nat} {i : Bool} {c : Int} {v1 v2 : Value} {a b : List Int} {w : World} (h : UA B i c w) (hc : 0 ≤ c ∧ c ≤ 4611686018427380000) (hBd : Bd ≠ B) (hBa : Ba ≠ B) (hBb : Bb ≠ B)
    (hd : w.cell? ⟨Bd, 0, none⟩ = some (.func (.func fD) ba ca)) (ha1 : w.cell? ⟨Ba, 1, none⟩ = some (.int .i64 C)) (ha2 : w.cell? ⟨Ba, 2, none⟩ = some v1) (hb1 : w.cell? ⟨Bb, 1, none⟩ = some (.int .i64 C)) (hb2 : w.cell? ⟨Bb, 2, none⟩ = some v2)
    (h1 : SL w B v1 a) (h2 : SL w B v2 b) (hR : 1 ≤ R ∧ R ≤ 12) (hC : 1 ≤ C ∧ C ≤ 12) (hza : a.length = R * C) (hzb : b.length = R * C) (hia : AllI a) (hib : AllI b)
    (hdoes : ∀ (W : World) (j : Bool) (d x y : Int), UA B j d W → InI x → InI y → 0 ≤ d ∧ d ≤ 4611686018427387000 → (∀ b o v, b ≠ B → w.cell? ⟨b, o, none⟩ = some v → W.cell? ⟨b, o, none⟩ = some v) →
      Calls Try.prog fD (ba ++ #[.int .i64 x, .int .i64 y] ++ ca) W fun e w' => e = .returned (.int .i64 (g j x y).1) ∧ Below (put B (g j x y).2 (d + dk) W).heap.size (put B (g j x y).2 (d + dk) W) w') :
    Calls Try.prog 45 #[.int .i64 R, .int .i64 C, .func (.func 71) #[] #[.pointer (some ⟨Bd, 0, none⟩), .pointer (some ⟨Ba, 0, none⟩), .pointer (some ⟨Bb, 0, none⟩)]] w fun e w' =>
      ∃ A cap, e = .returned (.agg #[.int .i64 R, .int .i64 C, .slice A (R * C) cap]) ∧ OwnI w w' (.slice A (R * C) cap) (mapG g i a b (R * C)).1 ∧ Below w.heap.size (put B (mapG g i a b (R * C)).2 (c + dk * (R * C : Nat)) w) w' := by
  have hN : R * C ≤ 144 := Nat.mul_le_mul hR.2 hC.2
  have := madeG 71 #[.pointer (some ⟨Bd, 0, none⟩), .pointer (some ⟨Ba, 0, none⟩), .pointer (some ⟨Bb, 0, none⟩)] (enters_of Try.func71 (by kernel_rfl) rfl) (σ := Bool × Int) (i, c) (fun s => put B s.1 s.2 w)
    (fun s x => (g s.1 (a.getD x 0) (b.getD x 0)).1) (fun s x => ((g s.1 (a.getD x 0) (b.getD x 0)).2, s.2 + dk))
    R C (R * C) hR hC rfl w (fun s => put_size _ _ _ _) (ko_put B w) (put_self h) (fun k s => s.2 = c + dk * k) (by simp) (fun k s x hk => by show s.2 + dk = _; rw [hk, Int.natCast_succ, Int.mul_add, Int.mul_one]; omega) (fun k s x W hk hok hW => by
      have e1 : x.1 / C * C + x.1 % C = x.1 := Nat.div_add_mod' _ _
      have hxl := x.2
      have hW2 : Below (put B s.1 s.2 w).heap.size (put B s.1 s.2 w) W := by rw [put_size]; exact hW
      have hUW := (h.put s.1 s.2).keep hW2
      have hcell : ∀ b o v, b ≠ B → w.cell? ⟨b, o, none⟩ = some v → W.cell? ⟨b, o, none⟩ = some v := fun b o v hb hv => cell_keep ((put_cell B _ _ w ⟨b, o, none⟩ hb).trans hv) hW2
      have hdk2 : dk * (k : Int) ≤ 2 * 144 := by
        refine Int.mul_le_mul hdk.2 (by omega) (by omega) (by omega)
      have hdk3 : 0 ≤ dk * (k : Int) := Int.mul_nonneg hdk.1 (by omega)
      have hx1 : InI (a.getD x.1 0) := hia.at (by omega)
      have hx2 : InI (b.getD x.1 0) := hib.at (by omega)
      have := mEach1 fD ba ca hen (B := B) (hcell _ _ _ hBd hd) (hcell _ _ _ hBa ha1) (hcell _ _ _ hBa ha2) (hcell _ _ _ hBb hb1) (hcell _ _ _ hBb hb2) ((h1.put s.1 s.2).keep hW2) ((h2.put s.1 s.2).keep hW2) (x.1 / C) (x.1 % C) (by omega) (by omega) (by omega)
        (fun w' => Below w.heap.size (put B (g s.1 (a.getD x.1 0) (b.getD x.1 0)).2 (s.2 + dk) w) w' ∧ W.heap.size ≤ w'.heap.size ∧ ∀ k, w.heap.size ≤ k → k < W.heap.size → w'.heap[k]? = W.heap[k]?) (g s.1 (a.getD x.1 0) (b.getD x.1 0)).1 (fun m => by
          rw [e1]
          refine (hdoes _ s.1 s.2 _ _ (hUW.keep (below_drewN W m)) hx1 hx2 ⟨by omega, by omega⟩ (fun b o v hb hv => cell_keep (hcell b o v hb hv) (below_drewN W m))).mono ?_
          rintro e w' ⟨rfl, hb⟩
          exact ⟨rfl, hat_put h.lt hW (below_drewN W m) hb⟩)
      exact this)
  rw [madeF_mapG] at this
  exact this
theorem rfs_congr (f : Bool) {p q : Prop} [Decidable p] [Decidable q] (h : p ↔ q) : rfs f p = rfs f q := by
  unfold rfs
  by_cases hp : p
  · rw [if_pos hp, if_pos (h.1 hp)]
  · rw [if_neg hp, if_neg (fun x => hp (h.2 x))]
theorem mRef2 {B : Nat} {i : Bool} {c : Int} {w : World} (h : UA B i c w) (hc : 0 ≤ c ∧ c ≤ 4611686018427387904) (f : Bool) {L : Nat} {R1 C1 R2 C2 : Int} {A1 A2 : Option Addr} {n1 d1 n2 d2 : Nat} (hL : L < w.heap.size)
    (h0 : w.cell? ⟨L, 0, none⟩ = some (.int .i64 R1)) (h1 : w.cell? ⟨L, 1, none⟩ = some (.int .i64 C1)) (h2 : w.cell? ⟨L, 2, none⟩ = some (.slice A1 n1 d1)) (h3 : w.cell? ⟨L, 3, none⟩ = some (.int .i64 R2)) (h4 : w.cell? ⟨L, 4, none⟩ = some (.int .i64 C2)) (h5 : w.cell? ⟨L, 5, none⟩ = some (.slice A2 n2 d2)) (x : Int) (hx : x = rfs f (chk R1 C1 n1 = 0 ∧ chk R2 C2 n2 = 0)) :
    Calls Try.prog 44 #[UP B, .bool f, .slice (some ⟨L, 0, none⟩) 2 2] w fun e w' => e = .returned (.int .i64 x) ∧ Below w.heap.size w w' := by
  have two : ∀ j, j < 2 → j = 0 ∨ j = 1 := by omega
  have := mRefuses h hc f (L := L) (k := 2) (by omega) (R := fun j => if j = 0 then R1 else R2) (C := fun j => if j = 0 then C1 else C2) (A := fun j => if j = 0 then A1 else A2) (n := fun j => if j = 0 then n1 else n2) (d := fun j => if j = 0 then d1 else d2)
    ⟨hL, fun j hj => by rcases two j hj with rfl | rfl <;> simpa, fun j hj => by rcases two j hj with rfl | rfl <;> simpa, fun j hj => by rcases two j hj with rfl | rfl <;> simpa⟩
  have e : rfs f (∀ j, j < 2 → chk (if j = 0 then R1 else R2) (if j = 0 then C1 else C2) (if j = 0 then n1 else n2) = 0) = x := by
    rw [hx]
    refine rfs_congr f ⟨fun h => ⟨by simpa using h 0 (by omega), by simpa using h 1 (by omega)⟩, fun h j hj => ?_⟩
    rcases two j hj with rfl | rfl
    · simpa using h.1
    · simpa using h.2
  rw [e] at this
  exact this
theorem mRef1 {B : Nat} {i : Bool} {c : Int} {w : World} (h : UA B i c w) (hc : 0 ≤ c ∧ c ≤ 4611686018427387904) (f : Bool) {L : Nat} {R1 C1 : Int} {A1 : Option Addr} {n1 d1 : Nat} (hL : L < w.heap.size)
    (h0 : w.cell? ⟨L, 0, none⟩ = some (.int .i64 R1)) (h1 : w.cell? ⟨L, 1, none⟩ = some (.int .i64 C1)) (h2 : w.cell? ⟨L, 2, none⟩ = some (.slice A1 n1 d1)) (x : Int) (hx : x = rfs f (chk R1 C1 n1 = 0)) :
    Calls Try.prog 44 #[UP B, .bool f, .slice (some ⟨L, 0, none⟩) 1 1] w fun e w' => e = .returned (.int .i64 x) ∧ Below w.heap.size w w' := by
  have one : ∀ j, j < 1 → j = 0 := by omega
  have := mRefuses h hc f (L := L) (k := 1) (by omega) (R := fun _ => R1) (C := fun _ => C1) (A := fun _ => A1) (n := fun _ => n1) (d := fun _ => d1)
    ⟨hL, fun j hj => by rw [one j hj]; simpa, fun j hj => by rw [one j hj]; simpa, fun j hj => by rw [one j hj]; simpa⟩
  have e : rfs f (∀ j, j < 1 → chk R1 C1 n1 = 0) = x := by
    rw [hx]
    exact rfs_congr f ⟨fun h => h 0 (by omega), fun h j hj => h⟩
  rw [e] at this
  exact this
theorem Blk.put {w : World} {g : Nat} {t : TypeId} {cs : Array Value} (h : Blk w g t cs) {B : Nat} (hg : g ≠ B) (j : Bool) (d : Int) : Blk (put B j d w) g t cs := (h.far hg _).far hg _
set_option maxHeartbeats 4000000 in
theorem mEach (fD : FuncId) (ba ca : Array Value) (hen : ∀ (args : Array Value) (w : World), (callFunc fD args).run Try.prog w = .ok (.enter fD args) w) (g : Bool → Int → Int → Int × Bool) (dk : Int) (hdk : 0 ≤ dk ∧ dk ≤ 2)
    {B R C : Nat} {i : Bool} {c : Int} {v1 v2 : Value} {a b : List Int} {w : World} (h : UA B i c w) (hc : 0 ≤ c ∧ c ≤ 4611686018427380000)
    (h1 : SL w B v1 a) (h2 : SL w B v2 b) (hR : 1 ≤ R ∧ R ≤ 12) (hC : 1 ≤ C ∧ C ≤ 12) (hza : a.length = R * C) (hzb : b.length = R * C) (hia : AllI a) (hib : AllI b)
    (hdoes : ∀ (W : World) (j : Bool) (d x y : Int), UA B j d W → InI x → InI y → 0 ≤ d ∧ d ≤ 4611686018427387000 → (∀ b o v, b ≠ B → w.cell? ⟨b, o, none⟩ = some v → W.cell? ⟨b, o, none⟩ = some v) →
      Calls Try.prog fD (ba ++ #[.int .i64 x, .int .i64 y] ++ ca) W fun e w' => e = .returned (.int .i64 (g j x y).1) ∧ Below (put B (g j x y).2 (d + dk) W).heap.size (put B (g j x y).2 (d + dk) W) w') :
    Calls Try.prog 53 #[UP B, .agg #[.int .i64 R, .int .i64 C, v1], .agg #[.int .i64 R, .int .i64 C, v2], .func (.func fD) ba ca] w fun e w' =>
      ∃ A cap, e = .returned (.tuple #[.agg #[.int .i64 R, .int .i64 C, .slice A (R * C) cap], .int .i64 0]) ∧ OwnI w w' (.slice A (R * C) cap) (mapG g i a b (R * C)).1 ∧ Below w.heap.size (put B (mapG g i a b (R * C)).2 (c + dk * (R * C : Nat)) w) w' := by
  have hck : chk R C (R * C) = 0 := by unfold chk; rw [if_pos ⟨by omega, by omega, by simp⟩]
  have hBl := h.lt
  have H := Lib.hid h
  have H1 := Lib.hid h1
  have H2 := Lib.hid h2
  have HC := Lib.hid hck
  obtain ⟨A1, c1, rfl, hl1, hr1⟩ := h1
  obtain ⟨A2, c2, rfl, hl2, hr2⟩ := h2
  have HDW := Lib.hid (show ∀ W0, Below w.heap.size w W0 → ∀ (W : World) (j : Bool) (d x y : Int), UA B j d W → InI x → InI y → 0 ≤ d ∧ d ≤ 4611686018427387000 → (∀ b o v, b ≠ B → W0.cell? ⟨b, o, none⟩ = some v → W.cell? ⟨b, o, none⟩ = some v) →
      Calls Try.prog fD (ba ++ #[.int .i64 x, .int .i64 y] ++ ca) W fun e w' => e = .returned (.int .i64 (g j x y).1) ∧ Below (put B (g j x y).2 (d + dk) W).heap.size (put B (g j x y).2 (d + dk) W) w' from
    fun W0 h0 W j d x y hU hx hy hd hk => hdoes W j d x y hU hx hy hd (fun b o v hb hv => hk b o v hb (cell_keep hv h0)))
  have HZA := Lib.hid hza
  have HZB := Lib.hid hzb
  have hcw : 0 ≤ c ∧ c ≤ 4611686018427387904 := ⟨hc.1, by omega⟩
  clear hdoes h hr1 hr2 hck hza hzb
  go_enter Try.func53, Try.ntmps53
  go_wp2_with (first | (go_at_call 44; refine (mRef2 (H.out.keep ?_) hcw true (R1 := R) (C1 := C) (A1 := A1) (n1 := a.length) (d1 := c1) (R2 := R) (C2 := C) (A2 := A2) (n2 := b.length) (d2 := c2) ?_ ?_ ?_ ?_ ?_ ?_ ?_ 0 ?_).mono ?_; (focus ((first | ((first | (simp [go_sem]; done) | (simp [go_sem, ↓IntWalk.iteOmega]; done)); done) | (simp only [World.size_alloc]; omega) | ((repeat (first | assumption | exact Below.refl _ _ | with_reducible refine past_t _ ?_ | with_reducible refine below_a _ ?_ | with_reducible refine Below.drew ?_ | with_reducible refine below_d _ ?_ | (with_reducible refine Below.setCell ?_ (by (show _ ≤ _; repeat (first | exact Nat.le_refl _ | assumption | (omega; done) | with_reducible exact le_past (Nat.le_refl _) | with_reducible refine le_past ?_ | with_reducible refine le_al ?_ | with_reducible refine le_set ?_ | with_reducible refine le_p1 ?_))) _))); done) | (unfold rfs; rw [HZA.out, HZB.out, if_pos ⟨HC.out, HC.out⟩]; rfl)); done)); (focus ((first | ((first | (simp [go_sem]; done) | (simp [go_sem, ↓IntWalk.iteOmega]; done)); done) | (simp only [World.size_alloc]; omega) | ((repeat (first | assumption | exact Below.refl _ _ | with_reducible refine past_t _ ?_ | with_reducible refine below_a _ ?_ | with_reducible refine Below.drew ?_ | with_reducible refine below_d _ ?_ | (with_reducible refine Below.setCell ?_ (by (show _ ≤ _; repeat (first | exact Nat.le_refl _ | assumption | (omega; done) | with_reducible exact le_past (Nat.le_refl _) | with_reducible refine le_past ?_ | with_reducible refine le_al ?_ | with_reducible refine le_set ?_ | with_reducible refine le_p1 ?_))) _))); done) | (unfold rfs; rw [HZA.out, HZB.out, if_pos ⟨HC.out, HC.out⟩]; rfl)); done)); (focus ((first | ((first | (simp [go_sem]; done) | (simp [go_sem, ↓IntWalk.iteOmega]; done)); done) | (simp only [World.size_alloc]; omega) | ((repeat (first | assumption | exact Below.refl _ _ | with_reducible refine past_t _ ?_ | with_reducible refine below_a _ ?_ | with_reducible refine Below.drew ?_ | with_reducible refine below_d _ ?_ | (with_reducible refine Below.setCell ?_ (by (show _ ≤ _; repeat (first | exact Nat.le_refl _ | assumption | (omega; done) | with_reducible exact le_past (Nat.le_refl _) | with_reducible refine le_past ?_ | with_reducible refine le_al ?_ | with_reducible refine le_set ?_ | with_reducible refine le_p1 ?_))) _))); done) | (unfold rfs; rw [HZA.out, HZB.out, if_pos ⟨HC.out, HC.out⟩]; rfl)); done)); (focus ((first | ((first | (simp [go_sem]; done) | (simp [go_sem, ↓IntWalk.iteOmega]; done)); done) | (simp only [World.size_alloc]; omega) | ((repeat (first | assumption | exact Below.refl _ _ | with_reducible refine past_t _ ?_ | with_reducible refine below_a _ ?_ | with_reducible refine Below.drew ?_ | with_reducible refine below_d _ ?_ | (with_reducible refine Below.setCell ?_ (by (show _ ≤ _; repeat (first | exact Nat.le_refl _ | assumption | (omega; done) | with_reducible exact le_past (Nat.le_refl _) | with_reducible refine le_past ?_ | with_reducible refine le_al ?_ | with_reducible refine le_set ?_ | with_reducible refine le_p1 ?_))) _))); done) | (unfold rfs; rw [HZA.out, HZB.out, if_pos ⟨HC.out, HC.out⟩]; rfl)); done)); (focus ((first | ((first | (simp [go_sem]; done) | (simp [go_sem, ↓IntWalk.iteOmega]; done)); done) | (simp only [World.size_alloc]; omega) | ((repeat (first | assumption | exact Below.refl _ _ | with_reducible refine past_t _ ?_ | with_reducible refine below_a _ ?_ | with_reducible refine Below.drew ?_ | with_reducible refine below_d _ ?_ | (with_reducible refine Below.setCell ?_ (by (show _ ≤ _; repeat (first | exact Nat.le_refl _ | assumption | (omega; done) | with_reducible exact le_past (Nat.le_refl _) | with_reducible refine le_past ?_ | with_reducible refine le_al ?_ | with_reducible refine le_set ?_ | with_reducible refine le_p1 ?_))) _))); done) | (unfold rfs; rw [HZA.out, HZB.out, if_pos ⟨HC.out, HC.out⟩]; rfl)); done)); (focus ((first | ((first | (simp [go_sem]; done) | (simp [go_sem, ↓IntWalk.iteOmega]; done)); done) | (simp only [World.size_alloc]; omega) | ((repeat (first | assumption | exact Below.refl _ _ | with_reducible refine past_t _ ?_ | with_reducible refine below_a _ ?_ | with_reducible refine Below.drew ?_ | with_reducible refine below_d _ ?_ | (with_reducible refine Below.setCell ?_ (by (show _ ≤ _; repeat (first | exact Nat.le_refl _ | assumption | (omega; done) | with_reducible exact le_past (Nat.le_refl _) | with_reducible refine le_past ?_ | with_reducible refine le_al ?_ | with_reducible refine le_set ?_ | with_reducible refine le_p1 ?_))) _))); done) | (unfold rfs; rw [HZA.out, HZB.out, if_pos ⟨HC.out, HC.out⟩]; rfl)); done)); (focus ((first | ((first | (simp [go_sem]; done) | (simp [go_sem, ↓IntWalk.iteOmega]; done)); done) | (simp only [World.size_alloc]; omega) | ((repeat (first | assumption | exact Below.refl _ _ | with_reducible refine past_t _ ?_ | with_reducible refine below_a _ ?_ | with_reducible refine Below.drew ?_ | with_reducible refine below_d _ ?_ | (with_reducible refine Below.setCell ?_ (by (show _ ≤ _; repeat (first | exact Nat.le_refl _ | assumption | (omega; done) | with_reducible exact le_past (Nat.le_refl _) | with_reducible refine le_past ?_ | with_reducible refine le_al ?_ | with_reducible refine le_set ?_ | with_reducible refine le_p1 ?_))) _))); done) | (unfold rfs; rw [HZA.out, HZB.out, if_pos ⟨HC.out, HC.out⟩]; rfl)); done)); (focus ((first | ((first | (simp [go_sem]; done) | (simp [go_sem, ↓IntWalk.iteOmega]; done)); done) | (simp only [World.size_alloc]; omega) | ((repeat (first | assumption | exact Below.refl _ _ | with_reducible refine past_t _ ?_ | with_reducible refine below_a _ ?_ | with_reducible refine Below.drew ?_ | with_reducible refine below_d _ ?_ | (with_reducible refine Below.setCell ?_ (by (show _ ≤ _; repeat (first | exact Nat.le_refl _ | assumption | (omega; done) | with_reducible exact le_past (Nat.le_refl _) | with_reducible refine le_past ?_ | with_reducible refine le_al ?_ | with_reducible refine le_set ?_ | with_reducible refine le_p1 ?_))) _))); done) | (unfold rfs; rw [HZA.out, HZB.out, if_pos ⟨HC.out, HC.out⟩]; rfl)); done)); (focus ((first | ((first | (simp [go_sem]; done) | (simp [go_sem, ↓IntWalk.iteOmega]; done)); done) | (simp only [World.size_alloc]; omega) | ((repeat (first | assumption | exact Below.refl _ _ | with_reducible refine past_t _ ?_ | with_reducible refine below_a _ ?_ | with_reducible refine Below.drew ?_ | with_reducible refine below_d _ ?_ | (with_reducible refine Below.setCell ?_ (by (show _ ≤ _; repeat (first | exact Nat.le_refl _ | assumption | (omega; done) | with_reducible exact le_past (Nat.le_refl _) | with_reducible refine le_past ?_ | with_reducible refine le_al ?_ | with_reducible refine le_set ?_ | with_reducible refine le_p1 ?_))) _))); done) | (unfold rfs; rw [HZA.out, HZB.out, if_pos ⟨HC.out, HC.out⟩]; rfl)); done)); rintro e w' ⟨rfl, hb⟩; obtain ⟨z, rfl⟩ := ex_past hb; clear hb) | (go_at_call 45; with_reducible refine (mMadeEach fD ba ca hen g dk hdk (H.out.keep ?_) hc (Bd := w.heap.size + 1 + 1) (Ba := w.heap.size) (Bb := w.heap.size + 1) (by omega) (by omega) (by omega) ?_ ?_ ?_ ?_ ?_ (H1.out.keep ?_) (H2.out.keep ?_) hR hC HZA.out HZB.out hia hib ?_).mono ?_; (focus ((first | ((first | (simp [go_sem]; done) | (simp [go_sem, ↓IntWalk.iteOmega]; done)); done) | (simp only [World.size_alloc]; omega) | ((repeat (first | assumption | exact Below.refl _ _ | with_reducible refine past_t _ ?_ | with_reducible refine below_a _ ?_ | with_reducible refine Below.drew ?_ | with_reducible refine below_d _ ?_ | (with_reducible refine Below.setCell ?_ (by (show _ ≤ _; repeat (first | exact Nat.le_refl _ | assumption | (omega; done) | with_reducible exact le_past (Nat.le_refl _) | with_reducible refine le_past ?_ | with_reducible refine le_al ?_ | with_reducible refine le_set ?_ | with_reducible refine le_p1 ?_))) _))); done) | (exact HDW.out _ (by (repeat (first | assumption | exact Below.refl _ _ | with_reducible refine past_t _ ?_ | with_reducible refine below_a _ ?_ | with_reducible refine Below.drew ?_ | with_reducible refine below_d _ ?_ | (with_reducible refine Below.setCell ?_ (by (show _ ≤ _; repeat (first | exact Nat.le_refl _ | assumption | (omega; done) | with_reducible exact le_past (Nat.le_refl _) | with_reducible refine le_past ?_ | with_reducible refine le_al ?_ | with_reducible refine le_set ?_ | with_reducible refine le_p1 ?_))) _)))))); done)); (focus ((first | ((first | (simp [go_sem]; done) | (simp [go_sem, ↓IntWalk.iteOmega]; done)); done) | (simp only [World.size_alloc]; omega) | ((repeat (first | assumption | exact Below.refl _ _ | with_reducible refine past_t _ ?_ | with_reducible refine below_a _ ?_ | with_reducible refine Below.drew ?_ | with_reducible refine below_d _ ?_ | (with_reducible refine Below.setCell ?_ (by (show _ ≤ _; repeat (first | exact Nat.le_refl _ | assumption | (omega; done) | with_reducible exact le_past (Nat.le_refl _) | with_reducible refine le_past ?_ | with_reducible refine le_al ?_ | with_reducible refine le_set ?_ | with_reducible refine le_p1 ?_))) _))); done) | (exact HDW.out _ (by (repeat (first | assumption | exact Below.refl _ _ | with_reducible refine past_t _ ?_ | with_reducible refine below_a _ ?_ | with_reducible refine Below.drew ?_ | with_reducible refine below_d _ ?_ | (with_reducible refine Below.setCell ?_ (by (show _ ≤ _; repeat (first | exact Nat.le_refl _ | assumption | (omega; done) | with_reducible exact le_past (Nat.le_refl _) | with_reducible refine le_past ?_ | with_reducible refine le_al ?_ | with_reducible refine le_set ?_ | with_reducible refine le_p1 ?_))) _)))))); done)); (focus ((first | ((first | (simp [go_sem]; done) | (simp [go_sem, ↓IntWalk.iteOmega]; done)); done) | (simp only [World.size_alloc]; omega) | ((repeat (first | assumption | exact Below.refl _ _ | with_reducible refine past_t _ ?_ | with_reducible refine below_a _ ?_ | with_reducible refine Below.drew ?_ | with_reducible refine below_d _ ?_ | (with_reducible refine Below.setCell ?_ (by (show _ ≤ _; repeat (first | exact Nat.le_refl _ | assumption | (omega; done) | with_reducible exact le_past (Nat.le_refl _) | with_reducible refine le_past ?_ | with_reducible refine le_al ?_ | with_reducible refine le_set ?_ | with_reducible refine le_p1 ?_))) _))); done) | (exact HDW.out _ (by (repeat (first | assumption | exact Below.refl _ _ | with_reducible refine past_t _ ?_ | with_reducible refine below_a _ ?_ | with_reducible refine Below.drew ?_ | with_reducible refine below_d _ ?_ | (with_reducible refine Below.setCell ?_ (by (show _ ≤ _; repeat (first | exact Nat.le_refl _ | assumption | (omega; done) | with_reducible exact le_past (Nat.le_refl _) | with_reducible refine le_past ?_ | with_reducible refine le_al ?_ | with_reducible refine le_set ?_ | with_reducible refine le_p1 ?_))) _)))))); done)); (focus ((first | ((first | (simp [go_sem]; done) | (simp [go_sem, ↓IntWalk.iteOmega]; done)); done) | (simp only [World.size_alloc]; omega) | ((repeat (first | assumption | exact Below.refl _ _ | with_reducible refine past_t _ ?_ | with_reducible refine below_a _ ?_ | with_reducible refine Below.drew ?_ | with_reducible refine below_d _ ?_ | (with_reducible refine Below.setCell ?_ (by (show _ ≤ _; repeat (first | exact Nat.le_refl _ | assumption | (omega; done) | with_reducible exact le_past (Nat.le_refl _) | with_reducible refine le_past ?_ | with_reducible refine le_al ?_ | with_reducible refine le_set ?_ | with_reducible refine le_p1 ?_))) _))); done) | (exact HDW.out _ (by (repeat (first | assumption | exact Below.refl _ _ | with_reducible refine past_t _ ?_ | with_reducible refine below_a _ ?_ | with_reducible refine Below.drew ?_ | with_reducible refine below_d _ ?_ | (with_reducible refine Below.setCell ?_ (by (show _ ≤ _; repeat (first | exact Nat.le_refl _ | assumption | (omega; done) | with_reducible exact le_past (Nat.le_refl _) | with_reducible refine le_past ?_ | with_reducible refine le_al ?_ | with_reducible refine le_set ?_ | with_reducible refine le_p1 ?_))) _)))))); done)); (focus ((first | ((first | (simp [go_sem]; done) | (simp [go_sem, ↓IntWalk.iteOmega]; done)); done) | (simp only [World.size_alloc]; omega) | ((repeat (first | assumption | exact Below.refl _ _ | with_reducible refine past_t _ ?_ | with_reducible refine below_a _ ?_ | with_reducible refine Below.drew ?_ | with_reducible refine below_d _ ?_ | (with_reducible refine Below.setCell ?_ (by (show _ ≤ _; repeat (first | exact Nat.le_refl _ | assumption | (omega; done) | with_reducible exact le_past (Nat.le_refl _) | with_reducible refine le_past ?_ | with_reducible refine le_al ?_ | with_reducible refine le_set ?_ | with_reducible refine le_p1 ?_))) _))); done) | (exact HDW.out _ (by (repeat (first | assumption | exact Below.refl _ _ | with_reducible refine past_t _ ?_ | with_reducible refine below_a _ ?_ | with_reducible refine Below.drew ?_ | with_reducible refine below_d _ ?_ | (with_reducible refine Below.setCell ?_ (by (show _ ≤ _; repeat (first | exact Nat.le_refl _ | assumption | (omega; done) | with_reducible exact le_past (Nat.le_refl _) | with_reducible refine le_past ?_ | with_reducible refine le_al ?_ | with_reducible refine le_set ?_ | with_reducible refine le_p1 ?_))) _)))))); done)); (focus ((first | ((first | (simp [go_sem]; done) | (simp [go_sem, ↓IntWalk.iteOmega]; done)); done) | (simp only [World.size_alloc]; omega) | ((repeat (first | assumption | exact Below.refl _ _ | with_reducible refine past_t _ ?_ | with_reducible refine below_a _ ?_ | with_reducible refine Below.drew ?_ | with_reducible refine below_d _ ?_ | (with_reducible refine Below.setCell ?_ (by (show _ ≤ _; repeat (first | exact Nat.le_refl _ | assumption | (omega; done) | with_reducible exact le_past (Nat.le_refl _) | with_reducible refine le_past ?_ | with_reducible refine le_al ?_ | with_reducible refine le_set ?_ | with_reducible refine le_p1 ?_))) _))); done) | (exact HDW.out _ (by (repeat (first | assumption | exact Below.refl _ _ | with_reducible refine past_t _ ?_ | with_reducible refine below_a _ ?_ | with_reducible refine Below.drew ?_ | with_reducible refine below_d _ ?_ | (with_reducible refine Below.setCell ?_ (by (show _ ≤ _; repeat (first | exact Nat.le_refl _ | assumption | (omega; done) | with_reducible exact le_past (Nat.le_refl _) | with_reducible refine le_past ?_ | with_reducible refine le_al ?_ | with_reducible refine le_set ?_ | with_reducible refine le_p1 ?_))) _)))))); done)); (focus ((first | ((first | (simp [go_sem]; done) | (simp [go_sem, ↓IntWalk.iteOmega]; done)); done) | (simp only [World.size_alloc]; omega) | ((repeat (first | assumption | exact Below.refl _ _ | with_reducible refine past_t _ ?_ | with_reducible refine below_a _ ?_ | with_reducible refine Below.drew ?_ | with_reducible refine below_d _ ?_ | (with_reducible refine Below.setCell ?_ (by (show _ ≤ _; repeat (first | exact Nat.le_refl _ | assumption | (omega; done) | with_reducible exact le_past (Nat.le_refl _) | with_reducible refine le_past ?_ | with_reducible refine le_al ?_ | with_reducible refine le_set ?_ | with_reducible refine le_p1 ?_))) _))); done) | (exact HDW.out _ (by (repeat (first | assumption | exact Below.refl _ _ | with_reducible refine past_t _ ?_ | with_reducible refine below_a _ ?_ | with_reducible refine Below.drew ?_ | with_reducible refine below_d _ ?_ | (with_reducible refine Below.setCell ?_ (by (show _ ≤ _; repeat (first | exact Nat.le_refl _ | assumption | (omega; done) | with_reducible exact le_past (Nat.le_refl _) | with_reducible refine le_past ?_ | with_reducible refine le_al ?_ | with_reducible refine le_set ?_ | with_reducible refine le_p1 ?_))) _)))))); done)); (focus ((first | ((first | (simp [go_sem]; done) | (simp [go_sem, ↓IntWalk.iteOmega]; done)); done) | (simp only [World.size_alloc]; omega) | ((repeat (first | assumption | exact Below.refl _ _ | with_reducible refine past_t _ ?_ | with_reducible refine below_a _ ?_ | with_reducible refine Below.drew ?_ | with_reducible refine below_d _ ?_ | (with_reducible refine Below.setCell ?_ (by (show _ ≤ _; repeat (first | exact Nat.le_refl _ | assumption | (omega; done) | with_reducible exact le_past (Nat.le_refl _) | with_reducible refine le_past ?_ | with_reducible refine le_al ?_ | with_reducible refine le_set ?_ | with_reducible refine le_p1 ?_))) _))); done) | (exact HDW.out _ (by (repeat (first | assumption | exact Below.refl _ _ | with_reducible refine past_t _ ?_ | with_reducible refine below_a _ ?_ | with_reducible refine Below.drew ?_ | with_reducible refine below_d _ ?_ | (with_reducible refine Below.setCell ?_ (by (show _ ≤ _; repeat (first | exact Nat.le_refl _ | assumption | (omega; done) | with_reducible exact le_past (Nat.le_refl _) | with_reducible refine le_past ?_ | with_reducible refine le_al ?_ | with_reducible refine le_set ?_ | with_reducible refine le_p1 ?_))) _)))))); done)); (focus ((first | ((first | (simp [go_sem]; done) | (simp [go_sem, ↓IntWalk.iteOmega]; done)); done) | (simp only [World.size_alloc]; omega) | ((repeat (first | assumption | exact Below.refl _ _ | with_reducible refine past_t _ ?_ | with_reducible refine below_a _ ?_ | with_reducible refine Below.drew ?_ | with_reducible refine below_d _ ?_ | (with_reducible refine Below.setCell ?_ (by (show _ ≤ _; repeat (first | exact Nat.le_refl _ | assumption | (omega; done) | with_reducible exact le_past (Nat.le_refl _) | with_reducible refine le_past ?_ | with_reducible refine le_al ?_ | with_reducible refine le_set ?_ | with_reducible refine le_p1 ?_))) _))); done) | (exact HDW.out _ (by (repeat (first | assumption | exact Below.refl _ _ | with_reducible refine past_t _ ?_ | with_reducible refine below_a _ ?_ | with_reducible refine Below.drew ?_ | with_reducible refine below_d _ ?_ | (with_reducible refine Below.setCell ?_ (by (show _ ≤ _; repeat (first | exact Nat.le_refl _ | assumption | (omega; done) | with_reducible exact le_past (Nat.le_refl _) | with_reducible refine le_past ?_ | with_reducible refine le_al ?_ | with_reducible refine le_set ?_ | with_reducible refine le_p1 ?_))) _)))))); done)); rintro e w' ⟨A, cap, rfl, ho, hb⟩; have hq := (((((Blk.new (((w.alloc _).alloc _).alloc _) 24 #[.int .i64 0, .int .i64 0, .slice none 0 0]).keep ((Below.refl _ _).alloc (Nat.le_refl _) _)).keep (past_below _ z)).put (B := B) (by simp only [World.size_alloc]; omega) _ _)).keep (by rw [put_size]; exact hb); simp only [World.size_alloc] at hq; have q0 := hq.cell 0; have q1 := hq.cell 1; have q2 := hq.cell 2; have q3 := hq.mark 0; have q4 := hq.mark 1; have q5 := hq.mark 2; have q6 := hq.lt; simp at q0 q1 q2))
  obtain ⟨V, hV, hVb, hb, ho⟩ : ∃ V, Below w.heap.size w V ∧ w.heap.size + 1 + 1 + 1 < V.heap.size ∧ Below V.heap.size (put B (mapG g i a b (R * C)).2 (c + dk * ((R * C : Nat) : Int)) V) w' ∧ OwnI V w' (.slice A (R * C) cap) (mapG g i a b (R * C)).1 :=
    ⟨_, by (repeat (first | assumption | exact Below.refl _ _ | with_reducible refine past_t _ ?_ | with_reducible refine below_a _ ?_ | with_reducible refine Below.drew ?_ | with_reducible refine below_d _ ?_ | (with_reducible refine Below.setCell ?_ (by (show _ ≤ _; repeat (first | exact Nat.le_refl _ | assumption | (omega; done) | with_reducible exact le_past (Nat.le_refl _) | with_reducible refine le_past ?_ | with_reducible refine le_al ?_ | with_reducible refine le_set ?_ | with_reducible refine le_p1 ?_))) _))), Nat.lt_of_lt_of_le (by simp only [World.size_alloc]; omega) (past_below _ z).size, hb, ho⟩
  have hT := (below_put hV B (mapG g i a b (R * C)).2 (c + dk * ((R * C : Nat) : Int))).trans (hb.mono hV.size)
  exact bodyPost_ret (results_bm rfl rfl hq) rfl ⟨_, _, rfl, (own_box ho hVb _ _ _).base (U := w) hV.size, below_box hT (by omega) _ _ _⟩
end Go.Proofs.Ytlhadociaekkhaa
