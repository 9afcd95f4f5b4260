/- Package vec: lists, number by number (printed by mk_vec1.py). -/
import Derived.Test.YtfhiodclbabdkaaLaw4
import Derived.Test.YtfhiodclbabdkaaMem
import Derived.Deep.RegionHeld3
namespace Go.Proofs.Ytfhiodclbabdkaa
set_option linter.unusedVariables false
set_option maxRecDepth 100000
open Go.RowKit
theorem ex_past {w w' : World} (h : Below w.heap.size w w') : ∃ z, w' = past w z := ⟨_, past_of h⟩
theorem wp_gen {P : Program} {c : Code} {Q : Exit → Act → World → Prop} {a : Act} {w : World} (h : ∀ W, W = w → c.wp P Q a W) : c.wp P Q a w := h w rfl
theorem Calls_to0 {P : Program} {f : FuncId} {args : Array Value} {w P0 : World} {v : Value} {K : Ending → World → Prop}
    (h : Calls P f args w fun e w' => e = .returned v ∧ Below P0.heap.size P0 w') (k : ∀ x, K (.returned v) (past P0 x)) : Calls P f args w K := Calls_to h k
theorem infoI : (Try.prog.info? 3).map (fun i => (i.zero, i.size, i.bytes)) = some (some (.int .i64 0), 1, 8) := by kernel_rfl
abbrev OwnI (V w : World) (v : Value) (zs : List Int) : Prop := OwnK V w 3 .i64 v zs
theorem append_i {ops : Array Oper} {rest : List Oper} {o : Oper} {a : Act} {Q : Exit → Act → World → Prop} (hgd : o.guard = none) (s x : Operand)
    (ho : o.op = .call { callee := .builtin .append, args := #[s, x], argTypes := #[22, 22] })
    (V : World) {W : World} {v : Value} {zs news : List Int} {A : Option Addr} {n c : Nat} (hs : a.eval s = v) (hx : a.eval x = .slice A n c) (hV : Below V.heap.size V W) (hown : OwnI V W v zs) (hr : RS .i64 W A n c news) (hn : zs.length + news.length ≤ 17592186044416)
    (h : ∀ A' c' z, OwnI V (past V z) (.slice A' (zs.length + news.length) c') (zs ++ news) → wpList Try.prog ops Q rest (a.put o.dst (.slice A' (zs.length + news.length) c')) (past V z)) : wpList Try.prog ops Q (o :: rest) a W :=
  append_rs hgd s x ho Try.underlying22 infoI (by omega) V hs hx hV hown hr hn h
theorem step_append_i {ops : Array Oper} {o : Oper} {a : Act} {K : Act → World → Prop} {Q : Exit → Act → World → Prop} {E : Prop} (hgd : o.guard = none) (s x : Operand)
    (ho : o.op = .call { callee := .builtin .append, args := #[s, x], argTypes := #[22, 22] })
    (V : World) {W : World} {v : Value} {zs news : List Int} {A : Option Addr} {n c : Nat} (hs : a.eval s = v) (hx : a.eval x = .slice A n c) (hV : Below V.heap.size V W) (hown : OwnI V W v zs) (hr : RS .i64 W A n c news) (hn : zs.length + news.length ≤ 17592186044416)
    (h : ∀ A' c' z, OwnI V (past V z) (.slice A' (zs.length + news.length) c') (zs ++ news) → K (a.put o.dst (.slice A' (zs.length + news.length) c')) (past V z)) :
    if Region.wanted o (yielded ops a.tmps) = true then Oper.wp Try.prog o a W K Q else E := by
  have hw : Region.wanted o (yielded ops a.tmps) = true := by simp [Region.wanted, hgd]
  rw [if_pos hw]
  obtain ⟨A', c', z, h1, h2⟩ := run_append_rs Try.prog Try.underlying22 infoI (by omega) V hV hown hr hn o.type
  unfold Oper.wp execOp
  simp only [ho, resolve, invoke, builtin, Sem.run_bind, Sem.run_pure, Result.andThen_ok, List.map_toArray, List.map_cons, List.map_nil, hs, hx, h1]
  exact h A' c' z h2
/-- What a list is before an operation is done with each of its numbers. -/
def mapG (g : Bool → Int → Int → Int × Bool) (i : Bool) (a b : List Int) : Nat → List Int × Bool
  | 0 => ([], i)
  | k + 1 => ((mapG g i a b k).1 ++ [(g (mapG g i a b k).2 (a.getD k 0) (b.getD k 0)).1], (g (mapG g i a b k).2 (a.getD k 0) (b.getD k 0)).2)
theorem mapG_len (g : Bool → Int → Int → Int × Bool) (i : Bool) (a b : List Int) (k : Nat) : (mapG g i a b k).1.length = k := by
  induction k with
  | zero => rfl
  | succ k ih => unfold mapG; rw [List.length_append, ih]; rfl
theorem mapG_all {g : Bool → Int → Int → Int × Bool} (hg : ∀ i x y, InI (g i x y).1) (i : Bool) (a b : List Int) (k : Nat) : AllI (mapG g i a b k).1 := by
  induction k with
  | zero => intro n hn; cases hn
  | succ k ih =>
    intro n hn
    unfold mapG at hn
    rcases List.mem_append.1 hn with hn | hn
    · exact ih n hn
    · simp only [List.mem_singleton] at hn
      rw [hn]; exact hg _ _ _
def gSum (i : Bool) (x y : Int) : Int × Bool := runL opAdd (0, i) [x, y]
def gScale (i : Bool) (x y : Int) : Int × Bool := runL opMul (4294967296, i) [x, y]
/-- A number, by s. -/
def gScaleS (s : Int) (i : Bool) (x y : Int) : Int × Bool := gScale i x s
def gLess (i : Bool) (x y : Int) : Int × Bool := ((opSub x y).1, i || (opSub x y).2)
theorem gSum_in (i : Bool) (x y : Int) : InI (gSum i x y).1 := opAdd_in _ _
theorem gScale_in (i : Bool) (x y : Int) : InI (gScale i x y).1 := opMul_in _ _
theorem gLess_in (i : Bool) (x y : Int) : InI (gLess i x y).1 := by have := fitV_bd (subW x y); unfold gLess opSub; exact ⟨by omega, by omega⟩
theorem gScaleS_in (s : Int) (i : Bool) (x y : Int) : InI (gScaleS s i x y).1 := gScale_in _ _ _
theorem all2 {x y : Int} (hx : InI x) (hy : InI y) : AllI [x, y] := by
  intro n hn
  simp only [List.mem_cons, List.not_mem_nil, or_false] at hn
  rcases hn with rfl | rfl
  · exact hx
  · exact hy
theorem uAdd2 {B : Nat} {i : Bool} {c : Int} {w : World} (h : UA B i c w) {v : Value} {x y : Int} (hx : InI x) (hy : InI y) (hv : SL w B v [x, y]) (hc : 0 ≤ c ∧ c + 2 ≤ 4611686018427387904) :
    Calls Try.prog 20 #[UP B, v] w fun e w' => e = .returned (.int .i64 (gSum i x y).1) ∧ Below (put B (gSum i x y).2 (c + 2) w).heap.size (put B (gSum i x y).2 (c + 2) w) w' :=
  uAdd h v [x, y] (all2 hx hy) hv hc
theorem uMul2 {B : Nat} {i : Bool} {c : Int} {w : World} (h : UA B i c w) {v : Value} {x y : Int} (hx : InI x) (hy : InI y) (hv : SL w B v [x, y]) (hc : 0 ≤ c ∧ c + 2 ≤ 4611686018427387904) :
    Calls Try.prog 69 #[UP B, v] w fun e w' => e = .returned (.int .i64 (gScale i x y).1) ∧ Below (put B (gScale i x y).2 (c + 2) w).heap.size (put B (gScale i x y).2 (c + 2) w) w' :=
  uMul h v [x, y] (all2 hx hy) hv hc
theorem uLess2 {B : Nat} {i : Bool} {c : Int} {w : World} (h : UA B i c w) {x y : Int} (hx : InI x) (hy : InI y) (hc : 0 ≤ c ∧ c + 1 ≤ 4611686018427387904) :
    Calls Try.prog 67 #[UP B, .int .i64 x, .int .i64 y] w fun e w' => e = .returned (.int .i64 (gLess i x y).1) ∧ Below (put B (gLess i x y).2 (c + 1) w).heap.size (put B (gLess i x y).2 (c + 1) w) w' :=
  uSub h ⟨hc.1, by omega⟩ x y hx hy
theorem next_put {B : Nat} {f j : Bool} {cc d : Int} {w W Y Z : World} (hz : Below (put B f cc w).heap.size (put B f cc w) W) (hy : Below W.heap.size W Y) (hb : Below (put B j d Y).heap.size (put B j d Y) Z) :
    Below (put B j d w).heap.size (put B j d w) Z := by
  have h1 := below_put hz B j d
  rw [put_put] at h1
  have h2 := below_put hy B j d
  have s1 := hz.size
  have s2 := hy.size
  simp only [put_size] at h1 h2 hb s1 ⊢
  exact h1.trans ((h2.mono s1).trans (hb.mono (Nat.le_trans s1 s2)))
theorem ownK_put {V w : World} {E : TypeId} {k : IntKind} {v : Value} {zs : List Int} (h : OwnK V w E k v zs) {B : Nat} (hB : B < V.heap.size) (i : Bool) (c : Int) : OwnK V (put B i c w) E k v zs := by
  obtain ⟨h0, h1 | ⟨g, cap, cur, h1, hg, hh, h3⟩⟩ := h
  · exact ⟨h0, .inl h1⟩
  · refine ⟨h0, .inr ⟨g, cap, cur, h1, hg, ?_, h3⟩⟩
    unfold put
    rw [Below.heap_setCell _ ⟨B, 1, none⟩ _ _ (by show g ≠ B; omega), Below.heap_setCell _ ⟨B, 0, none⟩ _ _ (by show g ≠ B; omega)]
    exact hh
theorem cell_via {wr W w' : World} {B b o : Nat} {j : Bool} {d : Int} {v : Value} (kp : Below wr.heap.size wr W) (h : Below (put B j d W).heap.size (put B j d W) w') (hb : b ≠ B) (hc : wr.cell? ⟨b, o, none⟩ = some v) : w'.cell? ⟨b, o, none⟩ = some v := by
  have h1 := World.block_lt_of_cell? wr _ hc
  have h2 : W.cell? ⟨b, o, none⟩ = some v := (kp.cell (p := ⟨b, o, none⟩) h1).trans hc
  have h3 : (put B j d W).cell? ⟨b, o, none⟩ = some v := (put_cell B j d W ⟨b, o, none⟩ hb).trans h2
  exact (h.cell (p := ⟨b, o, none⟩) (World.block_lt_of_cell? _ _ h3)).trans h3
theorem vMade {B : Nat} {i : Bool} {c : Int} {w : World} (h : UA B i c w) (hc : 0 ≤ c ∧ c ≤ 4611686018427387904) : Calls Try.prog 70 #[UP B] w fun e w' => e = .returned (.bool true) ∧ Below w.heap.size w w' := by
  have hd : Calls Try.prog 65 #[UP B, .slice none 0 0, .slice none 0 0] w fun e w' => e = .returned (.tuple #[.int .i64 0, .int .i64 0]) ∧ Below w.heap.size w w' := by
    have := uDot h _ _ [] [] (by intro n hn; cases hn) (by intro n hn; cases hn) (SL.nil w B) (SL.nil w B) rfl (by simp; omega)
    have e0 : runD (0, i) [] [] ([] : List Int).length = (0, i) := rfl
    rw [e0] at this
    simp only [List.length_nil, Int.natCast_zero, Int.mul_zero, Int.add_zero] at this
    rw [put_self h] at this
    exact this
  clear h
  go_enter Try.func70, Try.ntmps70
  go_wp2_with ((go_at_call 65; first | (with_reducible refine Calls_past2 (hd) (fun z => ?_)) | (with_reducible refine Calls_past (hd) (fun z => ?_))))
  go_ret
  exact ⟨rfl, past_below _ _⟩
set_option maxHeartbeats 2000000 in
theorem vSum1 {B : Nat} {i : Bool} {c : Int} {w : World} (h : UA B i c w) {C : Nat} (hC : w.cell? ⟨C, 0, none⟩ = some (UP B)) {x y : Int} (hx : InI x) (hy : InI y) (hc : 0 ≤ c ∧ c + 2 ≤ 4611686018427387904) :
    Calls Try.prog 64 #[.int .i64 x, .int .i64 y, .pointer (some ⟨C, 0, none⟩)] w fun e w' => e = .returned (.int .i64 (gSum i x y).1) ∧ Below (put B (gSum i x y).2 (c + 2) w).heap.size (put B (gSum i x y).2 (c + 2) w) w' := by
  have hlt := h.lt
  have H := Lib.hid h
  clear h
  go_enter Try.func64, Try.ntmps64
  go_wp2_with ((go_at_call 20; with_reducible refine Calls_to0 (uAdd2 (H.out.keep ?_) hx hy (SL2 ?_ ?_ ?_) hc) (fun z => ?_); (focus ((first | ((repeat (first | assumption | exact Below.refl _ _ | with_reducible refine past_t _ ?_ | with_reducible refine below_a _ ?_ | with_reducible refine Below.drew ?_ | with_reducible refine below_d _ ?_ | (with_reducible refine Below.setCell ?_ (by (show _ ≤ _; repeat (first | exact Nat.le_refl _ | assumption | (omega; done) | with_reducible exact le_past (Nat.le_refl _) | with_reducible refine le_past ?_ | with_reducible refine le_al ?_ | with_reducible refine le_set ?_ | with_reducible refine le_p1 ?_))) _))); done) | (with_reducible rfl; done) | omega | (rfl; done) | (simp; done) | (simp [go_sem]; done) | (simp; omega) | (simp [go_sem]; omega)); done)); (focus ((first | ((repeat (first | assumption | exact Below.refl _ _ | with_reducible refine past_t _ ?_ | with_reducible refine below_a _ ?_ | with_reducible refine Below.drew ?_ | with_reducible refine below_d _ ?_ | (with_reducible refine Below.setCell ?_ (by (show _ ≤ _; repeat (first | exact Nat.le_refl _ | assumption | (omega; done) | with_reducible exact le_past (Nat.le_refl _) | with_reducible refine le_past ?_ | with_reducible refine le_al ?_ | with_reducible refine le_set ?_ | with_reducible refine le_p1 ?_))) _))); done) | (with_reducible rfl; done) | omega | (rfl; done) | (simp; done) | (simp [go_sem]; done) | (simp; omega) | (simp [go_sem]; omega)); done)); (focus ((first | ((repeat (first | assumption | exact Below.refl _ _ | with_reducible refine past_t _ ?_ | with_reducible refine below_a _ ?_ | with_reducible refine Below.drew ?_ | with_reducible refine below_d _ ?_ | (with_reducible refine Below.setCell ?_ (by (show _ ≤ _; repeat (first | exact Nat.le_refl _ | assumption | (omega; done) | with_reducible exact le_past (Nat.le_refl _) | with_reducible refine le_past ?_ | with_reducible refine le_al ?_ | with_reducible refine le_set ?_ | with_reducible refine le_p1 ?_))) _))); done) | (with_reducible rfl; done) | omega | (rfl; done) | (simp; done) | (simp [go_sem]; done) | (simp; omega) | (simp [go_sem]; omega)); done)); (focus ((first | ((repeat (first | assumption | exact Below.refl _ _ | with_reducible refine past_t _ ?_ | with_reducible refine below_a _ ?_ | with_reducible refine Below.drew ?_ | with_reducible refine below_d _ ?_ | (with_reducible refine Below.setCell ?_ (by (show _ ≤ _; repeat (first | exact Nat.le_refl _ | assumption | (omega; done) | with_reducible exact le_past (Nat.le_refl _) | with_reducible refine le_past ?_ | with_reducible refine le_al ?_ | with_reducible refine le_set ?_ | with_reducible refine le_p1 ?_))) _))); done) | (with_reducible rfl; done) | omega | (rfl; done) | (simp; done) | (simp [go_sem]; done) | (simp; omega) | (simp [go_sem]; omega)); done))))
  go_ret
  exact ⟨rfl, by (repeat (first | assumption | exact Below.refl _ _ | with_reducible refine past_t _ ?_ | with_reducible refine below_a _ ?_ | with_reducible refine Below.drew ?_ | with_reducible refine below_d _ ?_ | (with_reducible refine Below.setCell ?_ (by (show _ ≤ _; repeat (first | exact Nat.le_refl _ | assumption | (omega; done) | with_reducible exact le_past (Nat.le_refl _) | with_reducible refine le_past ?_ | with_reducible refine le_al ?_ | with_reducible refine le_set ?_ | with_reducible refine le_p1 ?_))) _)))⟩
set_option maxHeartbeats 2000000 in
theorem vScale1 {B : Nat} {i : Bool} {c : Int} {w : World} (h : UA B i c w) {C D : Nat} (hC : w.cell? ⟨C, 0, none⟩ = some (UP B)) {x y s : Int} (hD : w.cell? ⟨D, 0, none⟩ = some (.int .i64 s)) (hx : InI x) (hs : InI s) (hc : 0 ≤ c ∧ c + 2 ≤ 4611686018427387904) :
    Calls Try.prog 68 #[.int .i64 x, .int .i64 y, .pointer (some ⟨C, 0, none⟩), .pointer (some ⟨D, 0, none⟩)] w fun e w' => e = .returned (.int .i64 (gScaleS s i x y).1) ∧ Below (put B (gScaleS s i x y).2 (c + 2) w).heap.size (put B (gScaleS s i x y).2 (c + 2) w) w' := by
  have hlt := h.lt
  have H := Lib.hid h
  unfold gScaleS
  clear h
  go_enter Try.func68, Try.ntmps68
  go_wp2_with ((go_at_call 69; with_reducible refine Calls_to0 (uMul2 (H.out.keep ?_) hx hs (SL2 ?_ ?_ ?_) hc) (fun z => ?_); (focus ((first | ((repeat (first | assumption | exact Below.refl _ _ | with_reducible refine past_t _ ?_ | with_reducible refine below_a _ ?_ | with_reducible refine Below.drew ?_ | with_reducible refine below_d _ ?_ | (with_reducible refine Below.setCell ?_ (by (show _ ≤ _; repeat (first | exact Nat.le_refl _ | assumption | (omega; done) | with_reducible exact le_past (Nat.le_refl _) | with_reducible refine le_past ?_ | with_reducible refine le_al ?_ | with_reducible refine le_set ?_ | with_reducible refine le_p1 ?_))) _))); done) | (with_reducible rfl; done) | omega | (rfl; done) | (simp; done) | (simp [go_sem]; done) | (simp; omega) | (simp [go_sem]; omega)); done)); (focus ((first | ((repeat (first | assumption | exact Below.refl _ _ | with_reducible refine past_t _ ?_ | with_reducible refine below_a _ ?_ | with_reducible refine Below.drew ?_ | with_reducible refine below_d _ ?_ | (with_reducible refine Below.setCell ?_ (by (show _ ≤ _; repeat (first | exact Nat.le_refl _ | assumption | (omega; done) | with_reducible exact le_past (Nat.le_refl _) | with_reducible refine le_past ?_ | with_reducible refine le_al ?_ | with_reducible refine le_set ?_ | with_reducible refine le_p1 ?_))) _))); done) | (with_reducible rfl; done) | omega | (rfl; done) | (simp; done) | (simp [go_sem]; done) | (simp; omega) | (simp [go_sem]; omega)); done)); (focus ((first | ((repeat (first | assumption | exact Below.refl _ _ | with_reducible refine past_t _ ?_ | with_reducible refine below_a _ ?_ | with_reducible refine Below.drew ?_ | with_reducible refine below_d _ ?_ | (with_reducible refine Below.setCell ?_ (by (show _ ≤ _; repeat (first | exact Nat.le_refl _ | assumption | (omega; done) | with_reducible exact le_past (Nat.le_refl _) | with_reducible refine le_past ?_ | with_reducible refine le_al ?_ | with_reducible refine le_set ?_ | with_reducible refine le_p1 ?_))) _))); done) | (with_reducible rfl; done) | omega | (rfl; done) | (simp; done) | (simp [go_sem]; done) | (simp; omega) | (simp [go_sem]; omega)); done)); (focus ((first | ((repeat (first | assumption | exact Below.refl _ _ | with_reducible refine past_t _ ?_ | with_reducible refine below_a _ ?_ | with_reducible refine Below.drew ?_ | with_reducible refine below_d _ ?_ | (with_reducible refine Below.setCell ?_ (by (show _ ≤ _; repeat (first | exact Nat.le_refl _ | assumption | (omega; done) | with_reducible exact le_past (Nat.le_refl _) | with_reducible refine le_past ?_ | with_reducible refine le_al ?_ | with_reducible refine le_set ?_ | with_reducible refine le_p1 ?_))) _))); done) | (with_reducible rfl; done) | omega | (rfl; done) | (simp; done) | (simp [go_sem]; done) | (simp; omega) | (simp [go_sem]; omega)); done))))
  go_ret
  exact ⟨rfl, by (repeat (first | assumption | exact Below.refl _ _ | with_reducible refine past_t _ ?_ | with_reducible refine below_a _ ?_ | with_reducible refine Below.drew ?_ | with_reducible refine below_d _ ?_ | (with_reducible refine Below.setCell ?_ (by (show _ ≤ _; repeat (first | exact Nat.le_refl _ | assumption | (omega; done) | with_reducible exact le_past (Nat.le_refl _) | with_reducible refine le_past ?_ | with_reducible refine le_al ?_ | with_reducible refine le_set ?_ | with_reducible refine le_p1 ?_))) _)))⟩
set_option maxHeartbeats 4000000 in
theorem vBothSum {B : Nat} {i : Bool} {c : Int} {w : World} (h : UA B i c w) {C : Nat} (hC : w.cell? ⟨C, 0, none⟩ = some (UP B)) (hCB : C ≠ B) (v1 v2 : Value) (a b : List Int) (ha : AllI a) (hb : AllI b) (h1 : SL w B v1 a) (h2 : SL w B v2 b) (hlen : a.length = b.length) (hc : 0 ≤ c ∧ c + 2 * a.length ≤ 4611686018427387904) (hl : a.length ≤ 1000000) :
    Calls Try.prog 99 #[v1, v2, .func (.func 64) #[] #[.pointer (some ⟨C, 0, none⟩)]] w fun e w' => ∃ A' c', e = .returned (.slice A' a.length c') ∧ OwnI w w' (.slice A' a.length c') (mapG gSum i a b a.length).1 ∧
      Below (put B (mapG gSum i a b a.length).2 (c + 2 * a.length) w).heap.size (put B (mapG gSum i a b a.length).2 (c + 2 * a.length) w) w' := by
  obtain ⟨A1, cp1, rfl, hl1, hr1⟩ := h1
  obtain ⟨A2, cp2, rfl, hl2, hr2⟩ := h2
  rw [← hlen] at hl2 hr2 ⊢
  by_cases hz0 : a.length = 0
  · rw [hz0]
    have e0 : mapG gSum i a b 0 = ([], i) := rfl
    rw [e0]
    simp only [Int.natCast_zero, Int.mul_zero, Int.add_zero]
    rw [put_self h]
    clear h hC e0 ha hb hr1 hr2 hz0 hlen hl1 hl2 hc hl
    go_enter Try.func99, Try.ntmps99
    go_wp2_with fail
    go_loopg [7, 11] 1 (fun g s7 s11 wr => s7 = .slice none 0 0 ∧ s11 = .int .i64 0 ∧ wr = w)
    case atStart => exact ⟨rfl, rfl, rfl⟩
    case round =>
      obtain ⟨rfl, rfl, rfl⟩ := hrel
      go_wp2_with fail
      go_ret
      exact ⟨none, 0, rfl, OwnK.nil _ _ _ _, Below.refl _ _⟩
  have hp0 : 0 < a.length := by omega
  obtain ⟨b1, o1, rfl, hb1, hw1, hc1⟩ := hr1 hp0
  obtain ⟨b2, o2, rfl, hb2, hw2, hc2⟩ := hr2 hp0
  have hBw := h.lt
  have H := Lib.hid h
  have HR1 := Lib.hid hc1
  have HR2 := Lib.hid hc2
  have HL := Lib.hid hlen
  have HA := Lib.hid ha
  have HB := Lib.hid hb
  have HC := Lib.hid hc
  have HCA := Lib.hid hC
  have hpl := put_self h
  have HPL := Lib.hid hpl
  clear h hc1 hc2 hr1 hr2 hlen ha hb hc hpl hC
  go_enter Try.func99, Try.ntmps99
  go_wp2_with fail
  go_loopg [7, 11] a.length (fun gg s7 s11 wr => ∃ (k : Nat) (A : Option Addr) (cp : Nat), k ≤ a.length ∧ a.length ≤ gg + k ∧ s11 = .int .i64 k ∧ s7 = .slice A k cp ∧ OwnI w wr (.slice A k cp) (mapG gSum i a b k).1 ∧
    Below (put B (mapG gSum i a b k).2 (c + 2 * k) w).heap.size (put B (mapG gSum i a b k).2 (c + 2 * k) w) wr)
  case atStart =>
    refine ⟨0, none, 0, by omega, by omega, rfl, rfl, OwnK.nil _ _ _ _, ?_⟩
    have e0 : mapG gSum i a b 0 = ([], i) := rfl
    rw [e0]
    simp only [Int.natCast_zero, Int.mul_zero, Int.add_zero]
    rw [HPL.out]
    exact Below.refl _ _
  case round =>
    obtain ⟨k, A, cp, hk, hg, rfl, rfl, hown, hbel⟩ := hrel
    have hml := mapG_len gSum i a b k
    obtain ⟨P, hP⟩ : ∃ P, mapG gSum i a b k = P := ⟨_, rfl⟩
    have hnx : mapG gSum i a b (k + 1) = ((mapG gSum i a b k).1 ++ [(gSum (mapG gSum i a b k).2 (a.getD k 0) (b.getD k 0)).1], (gSum (mapG gSum i a b k).2 (a.getD k 0) (b.getD k 0)).2) := rfl
    rw [hP] at hown hbel hnx hml
    obtain ⟨R, f⟩ := P
    simp only at hown hbel hnx hml
    obtain ⟨cc, hcc⟩ : ∃ cc : Int, c + 2 * (k : Int) = cc := ⟨_, rfl⟩
    rw [hcc] at hbel
    by_cases hlt : k < a.length
    · have hkb : k < b.length := by have := HL.out; omega
      have hx := HA.out.get hlt
      have hy := HB.out.get hkb
      have hcx := HR1.out k hlt
      have hcy := HR2.out k hkb
      have hx0 := hcx
      have hy0 := hcy
      rw [← put_cell B f cc w _ hb1] at hcx
      rw [← put_cell B f cc w _ hb2] at hcy
      have hwx : b1 < (put B f cc w).heap.size := by rw [put_size]; exact hw1
      have hwy : b2 < (put B f cc w).heap.size := by rw [put_size]; exact hw2
      have hcx := (hbel.cell (p := ⟨b1, o1 + k, none⟩) hwx).trans hcx
      have hcy := (hbel.cell (p := ⟨b2, o2 + k, none⟩) hwy).trans hcy
      have hua := (H.out.put f cc).keep hbel
      have hcw : w.cell? ⟨C, 0, none⟩ = some (UP B) := HCA.out
      have hcl := World.block_lt_of_cell? w _ hcw
      have hcf : (put B f cc w).cell? ⟨C, 0, none⟩ = some (UP B) := by rw [put_cell B f cc w _ hCB]; exact hcw
      have hcf := (hbel.cell (p := ⟨C, 0, none⟩) (by rw [put_size]; exact hcl)).trans hcf
      have hclW : C < wr.heap.size := World.block_lt_of_cell? wr _ hcf
      obtain ⟨x, hxx⟩ : ∃ x, a.getD k 0 = x := ⟨_, rfl⟩
      obtain ⟨y, hyy⟩ : ∃ y, b.getD k 0 = y := ⟨_, rfl⟩
      rw [hxx] at hx hcx hx0 hnx
      rw [hyy] at hy hcy hy0 hnx
      have hcb : 0 ≤ cc ∧ cc + 2 ≤ 4611686018427387904 := by have := HC.out; omega
      have hst := fun (W : World) (kp : Below wr.heap.size wr W) => vSum1 (hua.keep (kp)) (((kp).cell (p := ⟨C, 0, none⟩) hclW).trans hcf) hx hy hcb
      obtain ⟨q, hq⟩ : ∃ q, gSum f x y = q := ⟨_, rfl⟩
      rw [hq] at hnx
      simp only [hq] at hst
      obtain ⟨q1, q2⟩ := q
      simp only at hnx hst
      have hst2 : ∀ (W : World), Below wr.heap.size wr W → Calls Try.prog 64 #[.int .i64 x, .int .i64 y, .pointer (some ⟨C, 0, none⟩)] W fun e w' => e = .returned (.int .i64 q1) ∧ OwnI w w' (.slice A k cp) R ∧ Below (put B q2 (cc + 2) w).heap.size (put B q2 (cc + 2) w) w' ∧ w'.cell? ⟨b1, o1 + k, none⟩ = some (.int .i64 x) ∧ w'.cell? ⟨b2, o2 + k, none⟩ = some (.int .i64 y) :=
        fun W kp => (hst W kp).mono fun e w' h => ⟨h.1, (ownK_put (hown.keep kp) hBw _ _).keep h.2, next_put hbel kp h.2, cell_via kp h.2 hb1 hcx, cell_via kp h.2 hb2 hcy⟩
      clear hst
      have HO := Lib.hid hown
      have HE := Lib.hid hbel
      have HX := Lib.hid hnx
      have HCC := Lib.hid hcc
      have HML := Lib.hid hml
      have hRl : R.length ≤ 1000000 := by omega
      clear hown hbel hnx hP hxx hyy hq hua hcc hml hcw hcf
      go_wp2_with fail
      go_region_held3 (fun w' => w'.cell? ⟨b1, o1 + k, none⟩ = some (.int .i64 x) ∧ w'.cell? ⟨b2, o2 + k, none⟩ = some (.int .i64 y)) ((go_split_ands; refine ⟨?_, ?_⟩ <;> (first | assumption | (simp [go_sem, *]; done)))) ((first | (go_at_call 64; with_reducible refine Calls.mono (hst2 _ ?_) ?_; (focus ((repeat (first | assumption | exact Below.refl _ _ | with_reducible refine past_t _ ?_ | with_reducible refine below_a _ ?_ | with_reducible refine Below.drew ?_ | with_reducible refine below_d _ ?_ | (with_reducible refine Below.setCell ?_ (by (show _ ≤ _; repeat (first | exact Nat.le_refl _ | assumption | (omega; done) | with_reducible exact le_past (Nat.le_refl _) | with_reducible refine le_past ?_ | with_reducible refine le_al ?_ | with_reducible refine le_set ?_ | with_reducible refine le_p1 ?_))) _))); done)); rintro _ w2 ⟨rfl, ho2, hb4, hcx2, hcy2⟩) | (refine step_append_i (by rfl) _ _ (by rfl) (put B q2 (cc + 2) w) (by rfl) (by rfl) ?_ ((ho2.base (by rw [put_size]; exact Nat.le_refl _)).keep ?_) (RS.lit .i64 _ [q1] _ _ ?_ 1 ?_ ?_ 1 ?_ _ ?_) ?_ ?_; (focus ((first | ((repeat (first | assumption | exact Below.refl _ _ | with_reducible refine past_t _ ?_ | with_reducible refine below_a _ ?_ | with_reducible refine Below.drew ?_ | with_reducible refine below_d _ ?_ | (with_reducible refine Below.setCell ?_ (by (show _ ≤ _; repeat (first | exact Nat.le_refl _ | assumption | (omega; done) | with_reducible exact le_past (Nat.le_refl _) | with_reducible refine le_past ?_ | with_reducible refine le_al ?_ | with_reducible refine le_set ?_ | with_reducible refine le_p1 ?_))) _))); done) | omega | (simp; done) | (simp [go_sem]; done) | (simp; omega)); done)); (focus ((first | ((repeat (first | assumption | exact Below.refl _ _ | with_reducible refine past_t _ ?_ | with_reducible refine below_a _ ?_ | with_reducible refine Below.drew ?_ | with_reducible refine below_d _ ?_ | (with_reducible refine Below.setCell ?_ (by (show _ ≤ _; repeat (first | exact Nat.le_refl _ | assumption | (omega; done) | with_reducible exact le_past (Nat.le_refl _) | with_reducible refine le_past ?_ | with_reducible refine le_al ?_ | with_reducible refine le_set ?_ | with_reducible refine le_p1 ?_))) _))); done) | omega | (simp; done) | (simp [go_sem]; done) | (simp; omega)); done)); (focus ((first | ((repeat (first | assumption | exact Below.refl _ _ | with_reducible refine past_t _ ?_ | with_reducible refine below_a _ ?_ | with_reducible refine Below.drew ?_ | with_reducible refine below_d _ ?_ | (with_reducible refine Below.setCell ?_ (by (show _ ≤ _; repeat (first | exact Nat.le_refl _ | assumption | (omega; done) | with_reducible exact le_past (Nat.le_refl _) | with_reducible refine le_past ?_ | with_reducible refine le_al ?_ | with_reducible refine le_set ?_ | with_reducible refine le_p1 ?_))) _))); done) | omega | (simp; done) | (simp [go_sem]; done) | (simp; omega)); done)); (focus ((first | ((repeat (first | assumption | exact Below.refl _ _ | with_reducible refine past_t _ ?_ | with_reducible refine below_a _ ?_ | with_reducible refine Below.drew ?_ | with_reducible refine below_d _ ?_ | (with_reducible refine Below.setCell ?_ (by (show _ ≤ _; repeat (first | exact Nat.le_refl _ | assumption | (omega; done) | with_reducible exact le_past (Nat.le_refl _) | with_reducible refine le_past ?_ | with_reducible refine le_al ?_ | with_reducible refine le_set ?_ | with_reducible refine le_p1 ?_))) _))); done) | omega | (simp; done) | (simp [go_sem]; done) | (simp; omega)); done)); (focus ((first | ((repeat (first | assumption | exact Below.refl _ _ | with_reducible refine past_t _ ?_ | with_reducible refine below_a _ ?_ | with_reducible refine Below.drew ?_ | with_reducible refine below_d _ ?_ | (with_reducible refine Below.setCell ?_ (by (show _ ≤ _; repeat (first | exact Nat.le_refl _ | assumption | (omega; done) | with_reducible exact le_past (Nat.le_refl _) | with_reducible refine le_past ?_ | with_reducible refine le_al ?_ | with_reducible refine le_set ?_ | with_reducible refine le_p1 ?_))) _))); done) | omega | (simp; done) | (simp [go_sem]; done) | (simp; omega)); done)); (focus ((first | ((repeat (first | assumption | exact Below.refl _ _ | with_reducible refine past_t _ ?_ | with_reducible refine below_a _ ?_ | with_reducible refine Below.drew ?_ | with_reducible refine below_d _ ?_ | (with_reducible refine Below.setCell ?_ (by (show _ ≤ _; repeat (first | exact Nat.le_refl _ | assumption | (omega; done) | with_reducible exact le_past (Nat.le_refl _) | with_reducible refine le_past ?_ | with_reducible refine le_al ?_ | with_reducible refine le_set ?_ | with_reducible refine le_p1 ?_))) _))); done) | omega | (simp; done) | (simp [go_sem]; done) | (simp; omega)); done)); (focus ((first | ((repeat (first | assumption | exact Below.refl _ _ | with_reducible refine past_t _ ?_ | with_reducible refine below_a _ ?_ | with_reducible refine Below.drew ?_ | with_reducible refine below_d _ ?_ | (with_reducible refine Below.setCell ?_ (by (show _ ≤ _; repeat (first | exact Nat.le_refl _ | assumption | (omega; done) | with_reducible exact le_past (Nat.le_refl _) | with_reducible refine le_past ?_ | with_reducible refine le_al ?_ | with_reducible refine le_set ?_ | with_reducible refine le_p1 ?_))) _))); done) | omega | (simp; done) | (simp [go_sem]; done) | (simp; omega)); done)); (focus ((first | ((repeat (first | assumption | exact Below.refl _ _ | with_reducible refine past_t _ ?_ | with_reducible refine below_a _ ?_ | with_reducible refine Below.drew ?_ | with_reducible refine below_d _ ?_ | (with_reducible refine Below.setCell ?_ (by (show _ ≤ _; repeat (first | exact Nat.le_refl _ | assumption | (omega; done) | with_reducible exact le_past (Nat.le_refl _) | with_reducible refine le_past ?_ | with_reducible refine le_al ?_ | with_reducible refine le_set ?_ | with_reducible refine le_p1 ?_))) _))); done) | omega | (simp; done) | (simp [go_sem]; done) | (simp; omega)); done)); intro A3 c3 z3 ho3)))
      go_wp2_with fail
      go_roundg (a.length - (k + 1))
      case measure => omega
      case rel =>
        have hml := HML.out
        have hc2 : c + 2 * ((k + 1 : Nat) : Int) = cc + 2 := by have := HCC.out; omega
        refine ⟨k + 1, A3, c3, by omega, by omega, by go_num, by rw [hml], ?_, ?_⟩
        · rw [HX.out]
          have := ho3.base (U := w) (by rw [put_size]; exact Nat.le_refl _)
          rw [hml] at this
          exact this
        · rw [HX.out, hc2]
          exact past_below _ _
    · obtain rfl : k = a.length := by omega
      have HP := Lib.hid hP
      have HO := Lib.hid hown
      have HE := Lib.hid hbel
      have HCC := Lib.hid hcc
      clear hP hown hbel hcc hnx hml
      go_wp2_with fail
      go_ret
      refine ⟨A, cp, rfl, ?_, ?_⟩
      · rw [HP.out]; exact HO.out
      · rw [HP.out, HCC.out]; exact HE.out
set_option maxHeartbeats 2000000 in
theorem vPairsSum {B : Nat} {i : Bool} {c : Int} {w : World} (h : UA B i c w) {C : Nat} (hC : w.cell? ⟨C, 0, none⟩ = some (UP B)) (hCB : C ≠ B) (v1 v2 : Value) (a b : List Int) (ha : AllI a) (hb : AllI b) (h1 : SL w B v1 a) (h2 : SL w B v2 b) (hlen : a.length = b.length) (hc : 0 ≤ c ∧ c + 2 * a.length ≤ 4611686018427387904) (hl : a.length ≤ 1000000) :
    Calls Try.prog 63 #[UP B, .func (.func 64) #[] #[.pointer (some ⟨C, 0, none⟩)], v1, v2] w fun e w' => ∃ A' c', e = .returned (.tuple #[.slice A' a.length c', .int .i64 0]) ∧ OwnI w w' (.slice A' a.length c') (mapG gSum i a b a.length).1 ∧
      Below (put B (mapG gSum i a b a.length).2 (c + 2 * a.length) w).heap.size (put B (mapG gSum i a b a.length).2 (c + 2 * a.length) w) w' := by
  have hm := vMade h (by omega)
  have hboth := fun (z : World) => vBothSum (h.keep (past_below w z)) (((past_below w z).cell (p := ⟨C, 0, none⟩) (World.block_lt_of_cell? w _ hC)).trans hC) hCB v1 v2 a b ha hb (h1.keep (past_below w z)) (h2.keep (past_below w z)) hlen hc hl
  obtain ⟨P, hP⟩ : ∃ P, mapG gSum i a b a.length = P := ⟨_, rfl⟩
  obtain ⟨cc, hcc⟩ : ∃ cc : Int, c + 2 * (a.length : Int) = cc := ⟨_, rfl⟩
  simp only [hP, hcc] at hboth ⊢
  obtain ⟨R, f⟩ := P
  simp only at hboth ⊢
  obtain ⟨A1, cp1, rfl, hl1, hr1⟩ := h1
  obtain ⟨A2, cp2, rfl, hl2, hr2⟩ := h2
  rw [← hlen] at hboth ⊢
  have d1 : (((a.length : Nat) : Int) != ((a.length : Nat) : Int)) = false := by simp
  clear h hC hr1 hr2 hP hcc ha hb hlen hl1 hl2
  go_enter Try.func63, Try.ntmps63
  go_wp2_with (first | (go_at_call 70; first | (with_reducible refine Calls_past2 (hm) (fun z => ?_)) | (with_reducible refine Calls_past (hm) (fun z => ?_))) | (go_at_call 99; with_reducible refine Calls.mono (hboth _) ?_; rintro _ w2 ⟨A3, c3, rfl, ho2, hb2⟩))
  go_ret2
  exact ⟨A3, c3, rfl, ho2.base (past_size _ _), lift_put (past_below _ _) hb2⟩
theorem vPairsNoSum {B : Nat} {i : Bool} {c : Int} {w : World} (h : UA B i c w) (hc : 0 ≤ c ∧ c ≤ 4611686018427387904) (C : Nat) (A1 A2 : Option Addr) (n m c1 c2 : Nat) (hne : n ≠ m) (h1 : n ≤ 4611686018427387904) (h2 : m ≤ 4611686018427387904) :
    Calls Try.prog 63 #[UP B, .func (.func 64) #[] #[.pointer (some ⟨C, 0, none⟩)], .slice A1 n c1, .slice A2 m c2] w fun e w' => e = .returned (.tuple #[.slice none 0 0, .int .i64 3]) ∧ Below w.heap.size w w' := by
  have hm := vMade h hc
  have d1 : (((n : Nat) : Int) != ((m : Nat) : Int)) = true := by simp; omega
  clear h hc
  go_enter Try.func63, Try.ntmps63
  go_wp2_with ((go_at_call 70; first | (with_reducible refine Calls_past2 (hm) (fun z => ?_)) | (with_reducible refine Calls_past (hm) (fun z => ?_))))
  go_ret2
  exact ⟨rfl, past_below _ _⟩
set_option maxHeartbeats 2000000 in
theorem vSum {B : Nat} {i : Bool} {c : Int} {w : World} (h : UA B i c w) (v1 v2 : Value) (a b : List Int) (ha : AllI a) (hb : AllI b) (h1 : SL w B v1 a) (h2 : SL w B v2 b) (hlen : a.length = b.length) (hc : 0 ≤ c ∧ c + 2 * a.length ≤ 4611686018427387904) (hl : a.length ≤ 1000000) :
    Calls Try.prog 18 #[UP B, v1, v2] w fun e w' => ∃ A' c', e = .returned (.tuple #[.slice A' a.length c', .int .i64 0]) ∧ OwnI w w' (.slice A' a.length c') (mapG gSum i a b a.length).1 ∧
      Below (put B (mapG gSum i a b a.length).2 (c + 2 * a.length) w).heap.size (put B (mapG gSum i a b a.length).2 (c + 2 * a.length) w) w' := by
  have hlt := h.lt
  have hp := fun (W : World) (k : Below w.heap.size w W) (q1 : W.cell? ⟨w.heap.size, 0, none⟩ = some (UP B)) (q2 : w.heap.size ≠ B) => vPairsSum (h.keep k) q1 q2 v1 v2 a b ha hb (h1.keep k) (h2.keep k) hlen hc hl
  obtain ⟨P, hP⟩ : ∃ P, mapG gSum i a b a.length = P := ⟨_, rfl⟩
  obtain ⟨cc, hcc⟩ : ∃ cc : Int, c + 2 * (a.length : Int) = cc := ⟨_, rfl⟩
  simp only [hP, hcc] at hp ⊢
  obtain ⟨R, f⟩ := P
  simp only at hp ⊢
  obtain ⟨A1, cp1, rfl, hl1, hr1⟩ := h1
  obtain ⟨A2, cp2, rfl, hl2, hr2⟩ := h2
  rw [← hlen] at hp ⊢
  clear h hr1 hr2 hP hcc ha hb hlen hl1 hl2
  go_enter Try.func18, Try.ntmps18
  go_wp2_with (go_at_call 63; with_reducible refine Calls.mono (hp _ ?_ ?_ ?_) ?_; (focus ((first | ((repeat (first | assumption | exact Below.refl _ _ | with_reducible refine past_t _ ?_ | with_reducible refine below_a _ ?_ | with_reducible refine Below.drew ?_ | with_reducible refine below_d _ ?_ | (with_reducible refine Below.setCell ?_ (by (show _ ≤ _; repeat (first | exact Nat.le_refl _ | assumption | (omega; done) | with_reducible exact le_past (Nat.le_refl _) | with_reducible refine le_past ?_ | with_reducible refine le_al ?_ | with_reducible refine le_set ?_ | with_reducible refine le_p1 ?_))) _))); done) | omega | (simp; done) | (simp [go_sem]; done) | (simp; omega)); done)); (focus ((first | ((repeat (first | assumption | exact Below.refl _ _ | with_reducible refine past_t _ ?_ | with_reducible refine below_a _ ?_ | with_reducible refine Below.drew ?_ | with_reducible refine below_d _ ?_ | (with_reducible refine Below.setCell ?_ (by (show _ ≤ _; repeat (first | exact Nat.le_refl _ | assumption | (omega; done) | with_reducible exact le_past (Nat.le_refl _) | with_reducible refine le_past ?_ | with_reducible refine le_al ?_ | with_reducible refine le_set ?_ | with_reducible refine le_p1 ?_))) _))); done) | omega | (simp; done) | (simp [go_sem]; done) | (simp; omega)); done)); (focus ((first | ((repeat (first | assumption | exact Below.refl _ _ | with_reducible refine past_t _ ?_ | with_reducible refine below_a _ ?_ | with_reducible refine Below.drew ?_ | with_reducible refine below_d _ ?_ | (with_reducible refine Below.setCell ?_ (by (show _ ≤ _; repeat (first | exact Nat.le_refl _ | assumption | (omega; done) | with_reducible exact le_past (Nat.le_refl _) | with_reducible refine le_past ?_ | with_reducible refine le_al ?_ | with_reducible refine le_set ?_ | with_reducible refine le_p1 ?_))) _))); done) | omega | (simp; done) | (simp [go_sem]; done) | (simp; omega)); done)); rintro _ w2 ⟨A3, c3, rfl, ho2, hb2⟩)
  go_ret2
  exact ⟨A3, c3, rfl, ho2.base (by simp), lift_put (by (repeat (first | assumption | exact Below.refl _ _ | with_reducible refine past_t _ ?_ | with_reducible refine below_a _ ?_ | with_reducible refine Below.drew ?_ | with_reducible refine below_d _ ?_ | (with_reducible refine Below.setCell ?_ (by (show _ ≤ _; repeat (first | exact Nat.le_refl _ | assumption | (omega; done) | with_reducible exact le_past (Nat.le_refl _) | with_reducible refine le_past ?_ | with_reducible refine le_al ?_ | with_reducible refine le_set ?_ | with_reducible refine le_p1 ?_))) _)))) hb2⟩
set_option maxHeartbeats 4000000 in
theorem vBothLess {B : Nat} {i : Bool} {c : Int} {w : World} (h : UA B i c w) (v1 v2 : Value) (a b : List Int) (ha : AllI a) (hb : AllI b) (h1 : SL w B v1 a) (h2 : SL w B v2 b) (hlen : a.length = b.length) (hc : 0 ≤ c ∧ c + 1 * a.length ≤ 4611686018427387904) (hl : a.length ≤ 1000000) :
    Calls Try.prog 99 #[v1, v2, .func (.func 67) #[UP B] #[]] w fun e w' => ∃ A' c', e = .returned (.slice A' a.length c') ∧ OwnI w w' (.slice A' a.length c') (mapG gLess i a b a.length).1 ∧
      Below (put B (mapG gLess i a b a.length).2 (c + 1 * a.length) w).heap.size (put B (mapG gLess i a b a.length).2 (c + 1 * a.length) w) w' := by
  obtain ⟨A1, cp1, rfl, hl1, hr1⟩ := h1
  obtain ⟨A2, cp2, rfl, hl2, hr2⟩ := h2
  rw [← hlen] at hl2 hr2 ⊢
  by_cases hz0 : a.length = 0
  · rw [hz0]
    have e0 : mapG gLess i a b 0 = ([], i) := rfl
    rw [e0]
    simp only [Int.natCast_zero, Int.mul_zero, Int.add_zero]
    rw [put_self h]
    clear h  e0 ha hb hr1 hr2 hz0 hlen hl1 hl2 hc hl
    go_enter Try.func99, Try.ntmps99
    go_wp2_with fail
    go_loopg [7, 11] 1 (fun g s7 s11 wr => s7 = .slice none 0 0 ∧ s11 = .int .i64 0 ∧ wr = w)
    case atStart => exact ⟨rfl, rfl, rfl⟩
    case round =>
      obtain ⟨rfl, rfl, rfl⟩ := hrel
      go_wp2_with fail
      go_ret
      exact ⟨none, 0, rfl, OwnK.nil _ _ _ _, Below.refl _ _⟩
  have hp0 : 0 < a.length := by omega
  obtain ⟨b1, o1, rfl, hb1, hw1, hc1⟩ := hr1 hp0
  obtain ⟨b2, o2, rfl, hb2, hw2, hc2⟩ := hr2 hp0
  have hBw := h.lt
  have H := Lib.hid h
  have HR1 := Lib.hid hc1
  have HR2 := Lib.hid hc2
  have HL := Lib.hid hlen
  have HA := Lib.hid ha
  have HB := Lib.hid hb
  have HC := Lib.hid hc
  have hpl := put_self h
  have HPL := Lib.hid hpl
  clear h hc1 hc2 hr1 hr2 hlen ha hb hc hpl 
  go_enter Try.func99, Try.ntmps99
  go_wp2_with fail
  go_loopg [7, 11] a.length (fun gg s7 s11 wr => ∃ (k : Nat) (A : Option Addr) (cp : Nat), k ≤ a.length ∧ a.length ≤ gg + k ∧ s11 = .int .i64 k ∧ s7 = .slice A k cp ∧ OwnI w wr (.slice A k cp) (mapG gLess i a b k).1 ∧
    Below (put B (mapG gLess i a b k).2 (c + 1 * k) w).heap.size (put B (mapG gLess i a b k).2 (c + 1 * k) w) wr)
  case atStart =>
    refine ⟨0, none, 0, by omega, by omega, rfl, rfl, OwnK.nil _ _ _ _, ?_⟩
    have e0 : mapG gLess i a b 0 = ([], i) := rfl
    rw [e0]
    simp only [Int.natCast_zero, Int.mul_zero, Int.add_zero]
    rw [HPL.out]
    exact Below.refl _ _
  case round =>
    obtain ⟨k, A, cp, hk, hg, rfl, rfl, hown, hbel⟩ := hrel
    have hml := mapG_len gLess i a b k
    obtain ⟨P, hP⟩ : ∃ P, mapG gLess i a b k = P := ⟨_, rfl⟩
    have hnx : mapG gLess i a b (k + 1) = ((mapG gLess i a b k).1 ++ [(gLess (mapG gLess i a b k).2 (a.getD k 0) (b.getD k 0)).1], (gLess (mapG gLess i a b k).2 (a.getD k 0) (b.getD k 0)).2) := rfl
    rw [hP] at hown hbel hnx hml
    obtain ⟨R, f⟩ := P
    simp only at hown hbel hnx hml
    obtain ⟨cc, hcc⟩ : ∃ cc : Int, c + 1 * (k : Int) = cc := ⟨_, rfl⟩
    rw [hcc] at hbel
    by_cases hlt : k < a.length
    · have hkb : k < b.length := by have := HL.out; omega
      have hx := HA.out.get hlt
      have hy := HB.out.get hkb
      have hcx := HR1.out k hlt
      have hcy := HR2.out k hkb
      have hx0 := hcx
      have hy0 := hcy
      rw [← put_cell B f cc w _ hb1] at hcx
      rw [← put_cell B f cc w _ hb2] at hcy
      have hwx : b1 < (put B f cc w).heap.size := by rw [put_size]; exact hw1
      have hwy : b2 < (put B f cc w).heap.size := by rw [put_size]; exact hw2
      have hcx := (hbel.cell (p := ⟨b1, o1 + k, none⟩) hwx).trans hcx
      have hcy := (hbel.cell (p := ⟨b2, o2 + k, none⟩) hwy).trans hcy
      have hua := (H.out.put f cc).keep hbel
      obtain ⟨x, hxx⟩ : ∃ x, a.getD k 0 = x := ⟨_, rfl⟩
      obtain ⟨y, hyy⟩ : ∃ y, b.getD k 0 = y := ⟨_, rfl⟩
      rw [hxx] at hx hcx hx0 hnx
      rw [hyy] at hy hcy hy0 hnx
      have hcb : 0 ≤ cc ∧ cc + 1 ≤ 4611686018427387904 := by have := HC.out; omega
      have hst := fun (W : World) (kp : Below wr.heap.size wr W) => uLess2 (hua.keep kp) hx hy hcb
      obtain ⟨q, hq⟩ : ∃ q, gLess f x y = q := ⟨_, rfl⟩
      rw [hq] at hnx
      simp only [hq] at hst
      obtain ⟨q1, q2⟩ := q
      simp only at hnx hst
      have hst2 : ∀ (W : World), Below wr.heap.size wr W → Calls Try.prog 67 #[UP B, .int .i64 x, .int .i64 y] W fun e w' => e = .returned (.int .i64 q1) ∧ OwnI w w' (.slice A k cp) R ∧ Below (put B q2 (cc + 1) w).heap.size (put B q2 (cc + 1) w) w' ∧ w'.cell? ⟨b1, o1 + k, none⟩ = some (.int .i64 x) ∧ w'.cell? ⟨b2, o2 + k, none⟩ = some (.int .i64 y) :=
        fun W kp => (hst W kp).mono fun e w' h => ⟨h.1, (ownK_put (hown.keep kp) hBw _ _).keep h.2, next_put hbel kp h.2, cell_via kp h.2 hb1 hcx, cell_via kp h.2 hb2 hcy⟩
      clear hst
      have HO := Lib.hid hown
      have HE := Lib.hid hbel
      have HX := Lib.hid hnx
      have HCC := Lib.hid hcc
      have HML := Lib.hid hml
      have hRl : R.length ≤ 1000000 := by omega
      clear hown hbel hnx hP hxx hyy hq hua hcc hml 
      go_wp2_with fail
      go_region_held3 (fun w' => w'.cell? ⟨b1, o1 + k, none⟩ = some (.int .i64 x) ∧ w'.cell? ⟨b2, o2 + k, none⟩ = some (.int .i64 y)) ((go_split_ands; refine ⟨?_, ?_⟩ <;> (first | assumption | (simp [go_sem, *]; done)))) ((first | (go_at_call 67; with_reducible refine Calls.mono (hst2 _ ?_) ?_; (focus ((repeat (first | assumption | exact Below.refl _ _ | with_reducible refine past_t _ ?_ | with_reducible refine below_a _ ?_ | with_reducible refine Below.drew ?_ | with_reducible refine below_d _ ?_ | (with_reducible refine Below.setCell ?_ (by (show _ ≤ _; repeat (first | exact Nat.le_refl _ | assumption | (omega; done) | with_reducible exact le_past (Nat.le_refl _) | with_reducible refine le_past ?_ | with_reducible refine le_al ?_ | with_reducible refine le_set ?_ | with_reducible refine le_p1 ?_))) _))); done)); rintro _ w2 ⟨rfl, ho2, hb4, hcx2, hcy2⟩) | (refine step_append_i (by rfl) _ _ (by rfl) (put B q2 (cc + 1) w) (by rfl) (by rfl) ?_ ((ho2.base (by rw [put_size]; exact Nat.le_refl _)).keep ?_) (RS.lit .i64 _ [q1] _ _ ?_ 1 ?_ ?_ 1 ?_ _ ?_) ?_ ?_; (focus ((first | ((repeat (first | assumption | exact Below.refl _ _ | with_reducible refine past_t _ ?_ | with_reducible refine below_a _ ?_ | with_reducible refine Below.drew ?_ | with_reducible refine below_d _ ?_ | (with_reducible refine Below.setCell ?_ (by (show _ ≤ _; repeat (first | exact Nat.le_refl _ | assumption | (omega; done) | with_reducible exact le_past (Nat.le_refl _) | with_reducible refine le_past ?_ | with_reducible refine le_al ?_ | with_reducible refine le_set ?_ | with_reducible refine le_p1 ?_))) _))); done) | omega | (simp; done) | (simp [go_sem]; done) | (simp; omega)); done)); (focus ((first | ((repeat (first | assumption | exact Below.refl _ _ | with_reducible refine past_t _ ?_ | with_reducible refine below_a _ ?_ | with_reducible refine Below.drew ?_ | with_reducible refine below_d _ ?_ | (with_reducible refine Below.setCell ?_ (by (show _ ≤ _; repeat (first | exact Nat.le_refl _ | assumption | (omega; done) | with_reducible exact le_past (Nat.le_refl _) | with_reducible refine le_past ?_ | with_reducible refine le_al ?_ | with_reducible refine le_set ?_ | with_reducible refine le_p1 ?_))) _))); done) | omega | (simp; done) | (simp [go_sem]; done) | (simp; omega)); done)); (focus ((first | ((repeat (first | assumption | exact Below.refl _ _ | with_reducible refine past_t _ ?_ | with_reducible refine below_a _ ?_ | with_reducible refine Below.drew ?_ | with_reducible refine below_d _ ?_ | (with_reducible refine Below.setCell ?_ (by (show _ ≤ _; repeat (first | exact Nat.le_refl _ | assumption | (omega; done) | with_reducible exact le_past (Nat.le_refl _) | with_reducible refine le_past ?_ | with_reducible refine le_al ?_ | with_reducible refine le_set ?_ | with_reducible refine le_p1 ?_))) _))); done) | omega | (simp; done) | (simp [go_sem]; done) | (simp; omega)); done)); (focus ((first | ((repeat (first | assumption | exact Below.refl _ _ | with_reducible refine past_t _ ?_ | with_reducible refine below_a _ ?_ | with_reducible refine Below.drew ?_ | with_reducible refine below_d _ ?_ | (with_reducible refine Below.setCell ?_ (by (show _ ≤ _; repeat (first | exact Nat.le_refl _ | assumption | (omega; done) | with_reducible exact le_past (Nat.le_refl _) | with_reducible refine le_past ?_ | with_reducible refine le_al ?_ | with_reducible refine le_set ?_ | with_reducible refine le_p1 ?_))) _))); done) | omega | (simp; done) | (simp [go_sem]; done) | (simp; omega)); done)); (focus ((first | ((repeat (first | assumption | exact Below.refl _ _ | with_reducible refine past_t _ ?_ | with_reducible refine below_a _ ?_ | with_reducible refine Below.drew ?_ | with_reducible refine below_d _ ?_ | (with_reducible refine Below.setCell ?_ (by (show _ ≤ _; repeat (first | exact Nat.le_refl _ | assumption | (omega; done) | with_reducible exact le_past (Nat.le_refl _) | with_reducible refine le_past ?_ | with_reducible refine le_al ?_ | with_reducible refine le_set ?_ | with_reducible refine le_p1 ?_))) _))); done) | omega | (simp; done) | (simp [go_sem]; done) | (simp; omega)); done)); (focus ((first | ((repeat (first | assumption | exact Below.refl _ _ | with_reducible refine past_t _ ?_ | with_reducible refine below_a _ ?_ | with_reducible refine Below.drew ?_ | with_reducible refine below_d _ ?_ | (with_reducible refine Below.setCell ?_ (by (show _ ≤ _; repeat (first | exact Nat.le_refl _ | assumption | (omega; done) | with_reducible exact le_past (Nat.le_refl _) | with_reducible refine le_past ?_ | with_reducible refine le_al ?_ | with_reducible refine le_set ?_ | with_reducible refine le_p1 ?_))) _))); done) | omega | (simp; done) | (simp [go_sem]; done) | (simp; omega)); done)); (focus ((first | ((repeat (first | assumption | exact Below.refl _ _ | with_reducible refine past_t _ ?_ | with_reducible refine below_a _ ?_ | with_reducible refine Below.drew ?_ | with_reducible refine below_d _ ?_ | (with_reducible refine Below.setCell ?_ (by (show _ ≤ _; repeat (first | exact Nat.le_refl _ | assumption | (omega; done) | with_reducible exact le_past (Nat.le_refl _) | with_reducible refine le_past ?_ | with_reducible refine le_al ?_ | with_reducible refine le_set ?_ | with_reducible refine le_p1 ?_))) _))); done) | omega | (simp; done) | (simp [go_sem]; done) | (simp; omega)); done)); (focus ((first | ((repeat (first | assumption | exact Below.refl _ _ | with_reducible refine past_t _ ?_ | with_reducible refine below_a _ ?_ | with_reducible refine Below.drew ?_ | with_reducible refine below_d _ ?_ | (with_reducible refine Below.setCell ?_ (by (show _ ≤ _; repeat (first | exact Nat.le_refl _ | assumption | (omega; done) | with_reducible exact le_past (Nat.le_refl _) | with_reducible refine le_past ?_ | with_reducible refine le_al ?_ | with_reducible refine le_set ?_ | with_reducible refine le_p1 ?_))) _))); done) | omega | (simp; done) | (simp [go_sem]; done) | (simp; omega)); done)); intro A3 c3 z3 ho3)))
      go_wp2_with fail
      go_roundg (a.length - (k + 1))
      case measure => omega
      case rel =>
        have hml := HML.out
        have hc2 : c + 1 * ((k + 1 : Nat) : Int) = cc + 1 := by have := HCC.out; omega
        refine ⟨k + 1, A3, c3, by omega, by omega, by go_num, by rw [hml], ?_, ?_⟩
        · rw [HX.out]
          have := ho3.base (U := w) (by rw [put_size]; exact Nat.le_refl _)
          rw [hml] at this
          exact this
        · rw [HX.out, hc2]
          exact past_below _ _
    · obtain rfl : k = a.length := by omega
      have HP := Lib.hid hP
      have HO := Lib.hid hown
      have HE := Lib.hid hbel
      have HCC := Lib.hid hcc
      clear hP hown hbel hcc hnx hml
      go_wp2_with fail
      go_ret
      refine ⟨A, cp, rfl, ?_, ?_⟩
      · rw [HP.out]; exact HO.out
      · rw [HP.out, HCC.out]; exact HE.out
set_option maxHeartbeats 2000000 in
theorem vPairsLess {B : Nat} {i : Bool} {c : Int} {w : World} (h : UA B i c w) (v1 v2 : Value) (a b : List Int) (ha : AllI a) (hb : AllI b) (h1 : SL w B v1 a) (h2 : SL w B v2 b) (hlen : a.length = b.length) (hc : 0 ≤ c ∧ c + 1 * a.length ≤ 4611686018427387904) (hl : a.length ≤ 1000000) :
    Calls Try.prog 63 #[UP B, .func (.func 67) #[UP B] #[], v1, v2] w fun e w' => ∃ A' c', e = .returned (.tuple #[.slice A' a.length c', .int .i64 0]) ∧ OwnI w w' (.slice A' a.length c') (mapG gLess i a b a.length).1 ∧
      Below (put B (mapG gLess i a b a.length).2 (c + 1 * a.length) w).heap.size (put B (mapG gLess i a b a.length).2 (c + 1 * a.length) w) w' := by
  have hm := vMade h (by omega)
  have hboth := fun (z : World) => vBothLess (h.keep (past_below w z)) v1 v2 a b ha hb (h1.keep (past_below w z)) (h2.keep (past_below w z)) hlen hc hl
  obtain ⟨P, hP⟩ : ∃ P, mapG gLess i a b a.length = P := ⟨_, rfl⟩
  obtain ⟨cc, hcc⟩ : ∃ cc : Int, c + 1 * (a.length : Int) = cc := ⟨_, rfl⟩
  simp only [hP, hcc] at hboth ⊢
  obtain ⟨R, f⟩ := P
  simp only at hboth ⊢
  obtain ⟨A1, cp1, rfl, hl1, hr1⟩ := h1
  obtain ⟨A2, cp2, rfl, hl2, hr2⟩ := h2
  rw [← hlen] at hboth ⊢
  have d1 : (((a.length : Nat) : Int) != ((a.length : Nat) : Int)) = false := by simp
  clear h  hr1 hr2 hP hcc ha hb hlen hl1 hl2
  go_enter Try.func63, Try.ntmps63
  go_wp2_with (first | (go_at_call 70; first | (with_reducible refine Calls_past2 (hm) (fun z => ?_)) | (with_reducible refine Calls_past (hm) (fun z => ?_))) | (go_at_call 99; with_reducible refine Calls.mono (hboth _) ?_; rintro _ w2 ⟨A3, c3, rfl, ho2, hb2⟩))
  go_ret2
  exact ⟨A3, c3, rfl, ho2.base (past_size _ _), lift_put (past_below _ _) hb2⟩
theorem vPairsNoLess {B : Nat} {i : Bool} {c : Int} {w : World} (h : UA B i c w) (hc : 0 ≤ c ∧ c ≤ 4611686018427387904) (A1 A2 : Option Addr) (n m c1 c2 : Nat) (hne : n ≠ m) (h1 : n ≤ 4611686018427387904) (h2 : m ≤ 4611686018427387904) :
    Calls Try.prog 63 #[UP B, .func (.func 67) #[UP B] #[], .slice A1 n c1, .slice A2 m c2] w fun e w' => e = .returned (.tuple #[.slice none 0 0, .int .i64 3]) ∧ Below w.heap.size w w' := by
  have hm := vMade h hc
  have d1 : (((n : Nat) : Int) != ((m : Nat) : Int)) = true := by simp; omega
  clear h hc
  go_enter Try.func63, Try.ntmps63
  go_wp2_with ((go_at_call 70; first | (with_reducible refine Calls_past2 (hm) (fun z => ?_)) | (with_reducible refine Calls_past (hm) (fun z => ?_))))
  go_ret2
  exact ⟨rfl, past_below _ _⟩
set_option maxHeartbeats 2000000 in
theorem vLess {B : Nat} {i : Bool} {c : Int} {w : World} (h : UA B i c w) (v1 v2 : Value) (a b : List Int) (ha : AllI a) (hb : AllI b) (h1 : SL w B v1 a) (h2 : SL w B v2 b) (hlen : a.length = b.length) (hc : 0 ≤ c ∧ c + 1 * a.length ≤ 4611686018427387904) (hl : a.length ≤ 1000000) :
    Calls Try.prog 23 #[UP B, v1, v2] w fun e w' => ∃ A' c', e = .returned (.tuple #[.slice A' a.length c', .int .i64 0]) ∧ OwnI w w' (.slice A' a.length c') (mapG gLess i a b a.length).1 ∧
      Below (put B (mapG gLess i a b a.length).2 (c + 1 * a.length) w).heap.size (put B (mapG gLess i a b a.length).2 (c + 1 * a.length) w) w' := by
  have hlt := h.lt
  have hp := fun (W : World) (k : Below w.heap.size w W) => vPairsLess (h.keep k)  v1 v2 a b ha hb (h1.keep k) (h2.keep k) hlen hc hl
  obtain ⟨P, hP⟩ : ∃ P, mapG gLess i a b a.length = P := ⟨_, rfl⟩
  obtain ⟨cc, hcc⟩ : ∃ cc : Int, c + 1 * (a.length : Int) = cc := ⟨_, rfl⟩
  simp only [hP, hcc] at hp ⊢
  obtain ⟨R, f⟩ := P
  simp only at hp ⊢
  obtain ⟨A1, cp1, rfl, hl1, hr1⟩ := h1
  obtain ⟨A2, cp2, rfl, hl2, hr2⟩ := h2
  rw [← hlen] at hp ⊢
  clear h hr1 hr2 hP hcc ha hb hlen hl1 hl2
  go_enter Try.func23, Try.ntmps23
  go_wp2_with (go_at_call 63; with_reducible refine Calls.mono (hp _ ?_ ) ?_; (focus ((first | ((repeat (first | assumption | exact Below.refl _ _ | with_reducible refine past_t _ ?_ | with_reducible refine below_a _ ?_ | with_reducible refine Below.drew ?_ | with_reducible refine below_d _ ?_ | (with_reducible refine Below.setCell ?_ (by (show _ ≤ _; repeat (first | exact Nat.le_refl _ | assumption | (omega; done) | with_reducible exact le_past (Nat.le_refl _) | with_reducible refine le_past ?_ | with_reducible refine le_al ?_ | with_reducible refine le_set ?_ | with_reducible refine le_p1 ?_))) _))); done) | omega | (simp; done) | (simp [go_sem]; done) | (simp; omega)); done)); rintro _ w2 ⟨A3, c3, rfl, ho2, hb2⟩)
  go_ret2
  exact ⟨A3, c3, rfl, ho2.base (by simp), lift_put (by (repeat (first | assumption | exact Below.refl _ _ | with_reducible refine past_t _ ?_ | with_reducible refine below_a _ ?_ | with_reducible refine Below.drew ?_ | with_reducible refine below_d _ ?_ | (with_reducible refine Below.setCell ?_ (by (show _ ≤ _; repeat (first | exact Nat.le_refl _ | assumption | (omega; done) | with_reducible exact le_past (Nat.le_refl _) | with_reducible refine le_past ?_ | with_reducible refine le_al ?_ | with_reducible refine le_set ?_ | with_reducible refine le_p1 ?_))) _)))) hb2⟩
set_option maxHeartbeats 4000000 in
theorem vBothScale {B : Nat} {i : Bool} {c : Int} {w : World} (h : UA B i c w) {C D : Nat} (hC : w.cell? ⟨C, 0, none⟩ = some (UP B)) (hCB : C ≠ B) {s : Int} (hs : InI s) (hD : w.cell? ⟨D, 0, none⟩ = some (.int .i64 s)) (hDB : D ≠ B) (v1 v2 : Value) (a b : List Int) (ha : AllI a) (hb : AllI b) (h1 : SL w B v1 a) (h2 : SL w B v2 b) (hlen : a.length = b.length) (hc : 0 ≤ c ∧ c + 2 * a.length ≤ 4611686018427387904) (hl : a.length ≤ 1000000) :
    Calls Try.prog 99 #[v1, v2, .func (.func 68) #[] #[.pointer (some ⟨C, 0, none⟩), .pointer (some ⟨D, 0, none⟩)]] w fun e w' => ∃ A' c', e = .returned (.slice A' a.length c') ∧ OwnI w w' (.slice A' a.length c') (mapG (gScaleS s) i a b a.length).1 ∧
      Below (put B (mapG (gScaleS s) i a b a.length).2 (c + 2 * a.length) w).heap.size (put B (mapG (gScaleS s) i a b a.length).2 (c + 2 * a.length) w) w' := by
  obtain ⟨A1, cp1, rfl, hl1, hr1⟩ := h1
  obtain ⟨A2, cp2, rfl, hl2, hr2⟩ := h2
  rw [← hlen] at hl2 hr2 ⊢
  by_cases hz0 : a.length = 0
  · rw [hz0]
    have e0 : mapG (gScaleS s) i a b 0 = ([], i) := rfl
    rw [e0]
    simp only [Int.natCast_zero, Int.mul_zero, Int.add_zero]
    rw [put_self h]
    clear h hC hD e0 ha hb hr1 hr2 hz0 hlen hl1 hl2 hc hl
    go_enter Try.func99, Try.ntmps99
    go_wp2_with fail
    go_loopg [7, 11] 1 (fun g s7 s11 wr => s7 = .slice none 0 0 ∧ s11 = .int .i64 0 ∧ wr = w)
    case atStart => exact ⟨rfl, rfl, rfl⟩
    case round =>
      obtain ⟨rfl, rfl, rfl⟩ := hrel
      go_wp2_with fail
      go_ret
      exact ⟨none, 0, rfl, OwnK.nil _ _ _ _, Below.refl _ _⟩
  have hp0 : 0 < a.length := by omega
  obtain ⟨b1, o1, rfl, hb1, hw1, hc1⟩ := hr1 hp0
  obtain ⟨b2, o2, rfl, hb2, hw2, hc2⟩ := hr2 hp0
  have hBw := h.lt
  have H := Lib.hid h
  have HR1 := Lib.hid hc1
  have HR2 := Lib.hid hc2
  have HL := Lib.hid hlen
  have HA := Lib.hid ha
  have HB := Lib.hid hb
  have HC := Lib.hid hc
  have HCA := Lib.hid hC
  have HDA := Lib.hid hD
  have hpl := put_self h
  have HPL := Lib.hid hpl
  clear h hc1 hc2 hr1 hr2 hlen ha hb hc hpl hC hD
  go_enter Try.func99, Try.ntmps99
  go_wp2_with fail
  go_loopg [7, 11] a.length (fun gg s7 s11 wr => ∃ (k : Nat) (A : Option Addr) (cp : Nat), k ≤ a.length ∧ a.length ≤ gg + k ∧ s11 = .int .i64 k ∧ s7 = .slice A k cp ∧ OwnI w wr (.slice A k cp) (mapG (gScaleS s) i a b k).1 ∧
    Below (put B (mapG (gScaleS s) i a b k).2 (c + 2 * k) w).heap.size (put B (mapG (gScaleS s) i a b k).2 (c + 2 * k) w) wr)
  case atStart =>
    refine ⟨0, none, 0, by omega, by omega, rfl, rfl, OwnK.nil _ _ _ _, ?_⟩
    have e0 : mapG (gScaleS s) i a b 0 = ([], i) := rfl
    rw [e0]
    simp only [Int.natCast_zero, Int.mul_zero, Int.add_zero]
    rw [HPL.out]
    exact Below.refl _ _
  case round =>
    obtain ⟨k, A, cp, hk, hg, rfl, rfl, hown, hbel⟩ := hrel
    have hml := mapG_len (gScaleS s) i a b k
    obtain ⟨P, hP⟩ : ∃ P, mapG (gScaleS s) i a b k = P := ⟨_, rfl⟩
    have hnx : mapG (gScaleS s) i a b (k + 1) = ((mapG (gScaleS s) i a b k).1 ++ [((gScaleS s) (mapG (gScaleS s) i a b k).2 (a.getD k 0) (b.getD k 0)).1], ((gScaleS s) (mapG (gScaleS s) i a b k).2 (a.getD k 0) (b.getD k 0)).2) := rfl
    rw [hP] at hown hbel hnx hml
    obtain ⟨R, f⟩ := P
    simp only at hown hbel hnx hml
    obtain ⟨cc, hcc⟩ : ∃ cc : Int, c + 2 * (k : Int) = cc := ⟨_, rfl⟩
    rw [hcc] at hbel
    by_cases hlt : k < a.length
    · have hkb : k < b.length := by have := HL.out; omega
      have hx := HA.out.get hlt
      have hy := HB.out.get hkb
      have hcx := HR1.out k hlt
      have hcy := HR2.out k hkb
      have hx0 := hcx
      have hy0 := hcy
      rw [← put_cell B f cc w _ hb1] at hcx
      rw [← put_cell B f cc w _ hb2] at hcy
      have hwx : b1 < (put B f cc w).heap.size := by rw [put_size]; exact hw1
      have hwy : b2 < (put B f cc w).heap.size := by rw [put_size]; exact hw2
      have hcx := (hbel.cell (p := ⟨b1, o1 + k, none⟩) hwx).trans hcx
      have hcy := (hbel.cell (p := ⟨b2, o2 + k, none⟩) hwy).trans hcy
      have hua := (H.out.put f cc).keep hbel
      have hcw : w.cell? ⟨C, 0, none⟩ = some (UP B) := HCA.out
      have hcl := World.block_lt_of_cell? w _ hcw
      have hcf : (put B f cc w).cell? ⟨C, 0, none⟩ = some (UP B) := by rw [put_cell B f cc w _ hCB]; exact hcw
      have hcf := (hbel.cell (p := ⟨C, 0, none⟩) (by rw [put_size]; exact hcl)).trans hcf
      have hclW : C < wr.heap.size := World.block_lt_of_cell? wr _ hcf
      have hdw : w.cell? ⟨D, 0, none⟩ = some (.int .i64 s) := HDA.out
      have hdl := World.block_lt_of_cell? w _ hdw
      have hdf : (put B f cc w).cell? ⟨D, 0, none⟩ = some (.int .i64 s) := by rw [put_cell B f cc w _ hDB]; exact hdw
      have hdf := (hbel.cell (p := ⟨D, 0, none⟩) (by rw [put_size]; exact hdl)).trans hdf
      have hdlW : D < wr.heap.size := World.block_lt_of_cell? wr _ hdf
      obtain ⟨x, hxx⟩ : ∃ x, a.getD k 0 = x := ⟨_, rfl⟩
      obtain ⟨y, hyy⟩ : ∃ y, b.getD k 0 = y := ⟨_, rfl⟩
      rw [hxx] at hx hcx hx0 hnx
      rw [hyy] at hy hcy hy0 hnx
      have hcb : 0 ≤ cc ∧ cc + 2 ≤ 4611686018427387904 := by have := HC.out; omega
      have hst := fun (W : World) (kp : Below wr.heap.size wr W) => vScale1 (y := y) (hua.keep (kp)) (((kp).cell (p := ⟨C, 0, none⟩) hclW).trans hcf) ((kp.cell (p := ⟨D, 0, none⟩) hdlW).trans hdf) hx hs hcb
      obtain ⟨q, hq⟩ : ∃ q, (gScaleS s) f x y = q := ⟨_, rfl⟩
      rw [hq] at hnx
      simp only [hq] at hst
      obtain ⟨q1, q2⟩ := q
      simp only at hnx hst
      have hst2 : ∀ (W : World), Below wr.heap.size wr W → Calls Try.prog 68 #[.int .i64 x, .int .i64 y, .pointer (some ⟨C, 0, none⟩), .pointer (some ⟨D, 0, none⟩)] W fun e w' => e = .returned (.int .i64 q1) ∧ OwnI w w' (.slice A k cp) R ∧ Below (put B q2 (cc + 2) w).heap.size (put B q2 (cc + 2) w) w' ∧ w'.cell? ⟨b1, o1 + k, none⟩ = some (.int .i64 x) ∧ w'.cell? ⟨b2, o2 + k, none⟩ = some (.int .i64 y) :=
        fun W kp => (hst W kp).mono fun e w' h => ⟨h.1, (ownK_put (hown.keep kp) hBw _ _).keep h.2, next_put hbel kp h.2, cell_via kp h.2 hb1 hcx, cell_via kp h.2 hb2 hcy⟩
      clear hst
      have HO := Lib.hid hown
      have HE := Lib.hid hbel
      have HX := Lib.hid hnx
      have HCC := Lib.hid hcc
      have HML := Lib.hid hml
      have hRl : R.length ≤ 1000000 := by omega
      clear hown hbel hnx hP hxx hyy hq hua hcc hml hcw hcf hdw hdf
      go_wp2_with fail
      go_region_held3 (fun w' => w'.cell? ⟨b1, o1 + k, none⟩ = some (.int .i64 x) ∧ w'.cell? ⟨b2, o2 + k, none⟩ = some (.int .i64 y)) ((go_split_ands; refine ⟨?_, ?_⟩ <;> (first | assumption | (simp [go_sem, *]; done)))) ((first | (go_at_call 68; with_reducible refine Calls.mono (hst2 _ ?_) ?_; (focus ((repeat (first | assumption | exact Below.refl _ _ | with_reducible refine past_t _ ?_ | with_reducible refine below_a _ ?_ | with_reducible refine Below.drew ?_ | with_reducible refine below_d _ ?_ | (with_reducible refine Below.setCell ?_ (by (show _ ≤ _; repeat (first | exact Nat.le_refl _ | assumption | (omega; done) | with_reducible exact le_past (Nat.le_refl _) | with_reducible refine le_past ?_ | with_reducible refine le_al ?_ | with_reducible refine le_set ?_ | with_reducible refine le_p1 ?_))) _))); done)); rintro _ w2 ⟨rfl, ho2, hb4, hcx2, hcy2⟩) | (refine step_append_i (by rfl) _ _ (by rfl) (put B q2 (cc + 2) w) (by rfl) (by rfl) ?_ ((ho2.base (by rw [put_size]; exact Nat.le_refl _)).keep ?_) (RS.lit .i64 _ [q1] _ _ ?_ 1 ?_ ?_ 1 ?_ _ ?_) ?_ ?_; (focus ((first | ((repeat (first | assumption | exact Below.refl _ _ | with_reducible refine past_t _ ?_ | with_reducible refine below_a _ ?_ | with_reducible refine Below.drew ?_ | with_reducible refine below_d _ ?_ | (with_reducible refine Below.setCell ?_ (by (show _ ≤ _; repeat (first | exact Nat.le_refl _ | assumption | (omega; done) | with_reducible exact le_past (Nat.le_refl _) | with_reducible refine le_past ?_ | with_reducible refine le_al ?_ | with_reducible refine le_set ?_ | with_reducible refine le_p1 ?_))) _))); done) | omega | (simp; done) | (simp [go_sem]; done) | (simp; omega)); done)); (focus ((first | ((repeat (first | assumption | exact Below.refl _ _ | with_reducible refine past_t _ ?_ | with_reducible refine below_a _ ?_ | with_reducible refine Below.drew ?_ | with_reducible refine below_d _ ?_ | (with_reducible refine Below.setCell ?_ (by (show _ ≤ _; repeat (first | exact Nat.le_refl _ | assumption | (omega; done) | with_reducible exact le_past (Nat.le_refl _) | with_reducible refine le_past ?_ | with_reducible refine le_al ?_ | with_reducible refine le_set ?_ | with_reducible refine le_p1 ?_))) _))); done) | omega | (simp; done) | (simp [go_sem]; done) | (simp; omega)); done)); (focus ((first | ((repeat (first | assumption | exact Below.refl _ _ | with_reducible refine past_t _ ?_ | with_reducible refine below_a _ ?_ | with_reducible refine Below.drew ?_ | with_reducible refine below_d _ ?_ | (with_reducible refine Below.setCell ?_ (by (show _ ≤ _; repeat (first | exact Nat.le_refl _ | assumption | (omega; done) | with_reducible exact le_past (Nat.le_refl _) | with_reducible refine le_past ?_ | with_reducible refine le_al ?_ | with_reducible refine le_set ?_ | with_reducible refine le_p1 ?_))) _))); done) | omega | (simp; done) | (simp [go_sem]; done) | (simp; omega)); done)); (focus ((first | ((repeat (first | assumption | exact Below.refl _ _ | with_reducible refine past_t _ ?_ | with_reducible refine below_a _ ?_ | with_reducible refine Below.drew ?_ | with_reducible refine below_d _ ?_ | (with_reducible refine Below.setCell ?_ (by (show _ ≤ _; repeat (first | exact Nat.le_refl _ | assumption | (omega; done) | with_reducible exact le_past (Nat.le_refl _) | with_reducible refine le_past ?_ | with_reducible refine le_al ?_ | with_reducible refine le_set ?_ | with_reducible refine le_p1 ?_))) _))); done) | omega | (simp; done) | (simp [go_sem]; done) | (simp; omega)); done)); (focus ((first | ((repeat (first | assumption | exact Below.refl _ _ | with_reducible refine past_t _ ?_ | with_reducible refine below_a _ ?_ | with_reducible refine Below.drew ?_ | with_reducible refine below_d _ ?_ | (with_reducible refine Below.setCell ?_ (by (show _ ≤ _; repeat (first | exact Nat.le_refl _ | assumption | (omega; done) | with_reducible exact le_past (Nat.le_refl _) | with_reducible refine le_past ?_ | with_reducible refine le_al ?_ | with_reducible refine le_set ?_ | with_reducible refine le_p1 ?_))) _))); done) | omega | (simp; done) | (simp [go_sem]; done) | (simp; omega)); done)); (focus ((first | ((repeat (first | assumption | exact Below.refl _ _ | with_reducible refine past_t _ ?_ | with_reducible refine below_a _ ?_ | with_reducible refine Below.drew ?_ | with_reducible refine below_d _ ?_ | (with_reducible refine Below.setCell ?_ (by (show _ ≤ _; repeat (first | exact Nat.le_refl _ | assumption | (omega; done) | with_reducible exact le_past (Nat.le_refl _) | with_reducible refine le_past ?_ | with_reducible refine le_al ?_ | with_reducible refine le_set ?_ | with_reducible refine le_p1 ?_))) _))); done) | omega | (simp; done) | (simp [go_sem]; done) | (simp; omega)); done)); (focus ((first | ((repeat (first | assumption | exact Below.refl _ _ | with_reducible refine past_t _ ?_ | with_reducible refine below_a _ ?_ | with_reducible refine Below.drew ?_ | with_reducible refine below_d _ ?_ | (with_reducible refine Below.setCell ?_ (by (show _ ≤ _; repeat (first | exact Nat.le_refl _ | assumption | (omega; done) | with_reducible exact le_past (Nat.le_refl _) | with_reducible refine le_past ?_ | with_reducible refine le_al ?_ | with_reducible refine le_set ?_ | with_reducible refine le_p1 ?_))) _))); done) | omega | (simp; done) | (simp [go_sem]; done) | (simp; omega)); done)); (focus ((first | ((repeat (first | assumption | exact Below.refl _ _ | with_reducible refine past_t _ ?_ | with_reducible refine below_a _ ?_ | with_reducible refine Below.drew ?_ | with_reducible refine below_d _ ?_ | (with_reducible refine Below.setCell ?_ (by (show _ ≤ _; repeat (first | exact Nat.le_refl _ | assumption | (omega; done) | with_reducible exact le_past (Nat.le_refl _) | with_reducible refine le_past ?_ | with_reducible refine le_al ?_ | with_reducible refine le_set ?_ | with_reducible refine le_p1 ?_))) _))); done) | omega | (simp; done) | (simp [go_sem]; done) | (simp; omega)); done)); intro A3 c3 z3 ho3)))
      go_wp2_with fail
      go_roundg (a.length - (k + 1))
      case measure => omega
      case rel =>
        have hml := HML.out
        have hc2 : c + 2 * ((k + 1 : Nat) : Int) = cc + 2 := by have := HCC.out; omega
        refine ⟨k + 1, A3, c3, by omega, by omega, by go_num, by rw [hml], ?_, ?_⟩
        · rw [HX.out]
          have := ho3.base (U := w) (by rw [put_size]; exact Nat.le_refl _)
          rw [hml] at this
          exact this
        · rw [HX.out, hc2]
          exact past_below _ _
    · obtain rfl : k = a.length := by omega
      have HP := Lib.hid hP
      have HO := Lib.hid hown
      have HE := Lib.hid hbel
      have HCC := Lib.hid hcc
      clear hP hown hbel hcc hnx hml
      go_wp2_with fail
      go_ret
      refine ⟨A, cp, rfl, ?_, ?_⟩
      · rw [HP.out]; exact HO.out
      · rw [HP.out, HCC.out]; exact HE.out
set_option maxHeartbeats 2000000 in
theorem vPairsScale {B : Nat} {i : Bool} {c : Int} {w : World} (h : UA B i c w) {C D : Nat} (hC : w.cell? ⟨C, 0, none⟩ = some (UP B)) (hCB : C ≠ B) {s : Int} (hs : InI s) (hD : w.cell? ⟨D, 0, none⟩ = some (.int .i64 s)) (hDB : D ≠ B) (v1 v2 : Value) (a b : List Int) (ha : AllI a) (hb : AllI b) (h1 : SL w B v1 a) (h2 : SL w B v2 b) (hlen : a.length = b.length) (hc : 0 ≤ c ∧ c + 2 * a.length ≤ 4611686018427387904) (hl : a.length ≤ 1000000) :
    Calls Try.prog 63 #[UP B, .func (.func 68) #[] #[.pointer (some ⟨C, 0, none⟩), .pointer (some ⟨D, 0, none⟩)], v1, v2] w fun e w' => ∃ A' c', e = .returned (.tuple #[.slice A' a.length c', .int .i64 0]) ∧ OwnI w w' (.slice A' a.length c') (mapG (gScaleS s) i a b a.length).1 ∧
      Below (put B (mapG (gScaleS s) i a b a.length).2 (c + 2 * a.length) w).heap.size (put B (mapG (gScaleS s) i a b a.length).2 (c + 2 * a.length) w) w' := by
  have hm := vMade h (by omega)
  have hboth := fun (z : World) => vBothScale (h.keep (past_below w z)) (((past_below w z).cell (p := ⟨C, 0, none⟩) (World.block_lt_of_cell? w _ hC)).trans hC) hCB hs (((past_below w z).cell (p := ⟨D, 0, none⟩) (World.block_lt_of_cell? w _ hD)).trans hD) hDB v1 v2 a b ha hb (h1.keep (past_below w z)) (h2.keep (past_below w z)) hlen hc hl
  obtain ⟨P, hP⟩ : ∃ P, mapG (gScaleS s) i a b a.length = P := ⟨_, rfl⟩
  obtain ⟨cc, hcc⟩ : ∃ cc : Int, c + 2 * (a.length : Int) = cc := ⟨_, rfl⟩
  simp only [hP, hcc] at hboth ⊢
  obtain ⟨R, f⟩ := P
  simp only at hboth ⊢
  obtain ⟨A1, cp1, rfl, hl1, hr1⟩ := h1
  obtain ⟨A2, cp2, rfl, hl2, hr2⟩ := h2
  rw [← hlen] at hboth ⊢
  have d1 : (((a.length : Nat) : Int) != ((a.length : Nat) : Int)) = false := by simp
  clear h hC hD hr1 hr2 hP hcc ha hb hlen hl1 hl2
  go_enter Try.func63, Try.ntmps63
  go_wp2_with (first | (go_at_call 70; first | (with_reducible refine Calls_past2 (hm) (fun z => ?_)) | (with_reducible refine Calls_past (hm) (fun z => ?_))) | (go_at_call 99; with_reducible refine Calls.mono (hboth _) ?_; rintro _ w2 ⟨A3, c3, rfl, ho2, hb2⟩))
  go_ret2
  exact ⟨A3, c3, rfl, ho2.base (past_size _ _), lift_put (past_below _ _) hb2⟩
theorem vPairsNoScale {B : Nat} {i : Bool} {c : Int} {w : World} (h : UA B i c w) (hc : 0 ≤ c ∧ c ≤ 4611686018427387904) (C D : Nat) (A1 A2 : Option Addr) (n m c1 c2 : Nat) (hne : n ≠ m) (h1 : n ≤ 4611686018427387904) (h2 : m ≤ 4611686018427387904) :
    Calls Try.prog 63 #[UP B, .func (.func 68) #[] #[.pointer (some ⟨C, 0, none⟩), .pointer (some ⟨D, 0, none⟩)], .slice A1 n c1, .slice A2 m c2] w fun e w' => e = .returned (.tuple #[.slice none 0 0, .int .i64 3]) ∧ Below w.heap.size w w' := by
  have hm := vMade h hc
  have d1 : (((n : Nat) : Int) != ((m : Nat) : Int)) = true := by simp; omega
  clear h hc
  go_enter Try.func63, Try.ntmps63
  go_wp2_with ((go_at_call 70; first | (with_reducible refine Calls_past2 (hm) (fun z => ?_)) | (with_reducible refine Calls_past (hm) (fun z => ?_))))
  go_ret2
  exact ⟨rfl, past_below _ _⟩
end Go.Proofs.Ytfhiodclbabdkaa
