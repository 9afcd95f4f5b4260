/- Package vec: lists, number by number (printed by mk_vec1.py). -/
import Derived.Test.YtlhadociaekkhaaQLaw4
import Derived.Test.YtlhadociaekkhaaQMem
import Derived.Deep.RegionHeld3
namespace Go.Proofs.Ytlhadociaekkhaa
set_option linter.unusedVariables false
set_option maxRecDepth 100000
open Go.RowKit
theorem ex_past {w w' : World} (h : Below w.heap.size w w') : ∃ z, w' = past w z := ⟨_, past_of h⟩
theorem wp_gen {P : Program} {c : Code} {Q : Exit → Act → World → Prop} {a : Act} {w : World} (h : ∀ W, W = w → c.wp P Q a W) : c.wp P Q a w := h w rfl
theorem Calls_to0 {P : Program} {f : FuncId} {args : Array Value} {w P0 : World} {v : Value} {K : Ending → World → Prop}
    (h : Calls P f args w fun e w' => e = .returned v ∧ Below P0.heap.size P0 w') (k : ∀ x, K (.returned v) (past P0 x)) : Calls P f args w K := Calls_to h k
theorem infoI : (Try.prog.info? 3).map (fun i => (i.zero, i.size, i.bytes)) = some (some (.int .i64 0), 1, 8) := by kernel_rfl
abbrev OwnI (V w : World) (v : Value) (zs : List Int) : Prop := OwnK V w 3 .i64 v zs
theorem append_i {ops : Array Oper} {rest : List Oper} {o : Oper} {a : Act} {Q : Exit → Act → World → Prop} (hgd : o.guard = none) (s x : Operand)
    (ho : o.op = .call { callee := .builtin .append, args := #[s, x], argTypes := #[22, 22] })
    (V : World) {W : World} {v : Value} {zs news : List Int} {A : Option Addr} {n c : Nat} (hs : a.eval s = v) (hx : a.eval x = .slice A n c) (hV : Below V.heap.size V W) (hown : OwnI V W v zs) (hr : RS .i64 W A n c news) (hn : zs.length + news.length ≤ 17592186044416)
    (h : ∀ A' c' z, OwnI V (past V z) (.slice A' (zs.length + news.length) c') (zs ++ news) → wpList Try.prog ops Q rest (a.put o.dst (.slice A' (zs.length + news.length) c')) (past V z)) : wpList Try.prog ops Q (o :: rest) a W :=
  append_rs hgd s x ho Try.underlying22 infoI (by omega) V hs hx hV hown hr hn h
theorem step_append_i {ops : Array Oper} {o : Oper} {a : Act} {K : Act → World → Prop} {Q : Exit → Act → World → Prop} {E : Prop} (hgd : o.guard = none) (s x : Operand)
    (ho : o.op = .call { callee := .builtin .append, args := #[s, x], argTypes := #[22, 22] })
    (V : World) {W : World} {v : Value} {zs news : List Int} {A : Option Addr} {n c : Nat} (hs : a.eval s = v) (hx : a.eval x = .slice A n c) (hV : Below V.heap.size V W) (hown : OwnI V W v zs) (hr : RS .i64 W A n c news) (hn : zs.length + news.length ≤ 17592186044416)
    (h : ∀ A' c' z, OwnI V (past V z) (.slice A' (zs.length + news.length) c') (zs ++ news) → K (a.put o.dst (.slice A' (zs.length + news.length) c')) (past V z)) :
    if Region.wanted o (yielded ops a.tmps) = true then Oper.wp Try.prog o a W K Q else E := by
  have hw : Region.wanted o (yielded ops a.tmps) = true := by simp [Region.wanted, hgd]
  rw [if_pos hw]
  obtain ⟨A', c', z, h1, h2⟩ := run_append_rs Try.prog Try.underlying22 infoI (by omega) V hV hown hr hn o.type
  unfold Oper.wp execOp
  simp only [ho, resolve, invoke, builtin, Sem.run_bind, Sem.run_pure, Result.andThen_ok, List.map_toArray, List.map_cons, List.map_nil, hs, hx, h1]
  exact h A' c' z h2
/-- What a list is before an operation is done with each of its numbers. -/
def mapG (g : Bool → Int → Int → Int × Bool) (i : Bool) (a b : List Int) : Nat → List Int × Bool
  | 0 => ([], i)
  | k + 1 => ((mapG g i a b k).1 ++ [(g (mapG g i a b k).2 (a.getD k 0) (b.getD k 0)).1], (g (mapG g i a b k).2 (a.getD k 0) (b.getD k 0)).2)
theorem mapG_len (g : Bool → Int → Int → Int × Bool) (i : Bool) (a b : List Int) (k : Nat) : (mapG g i a b k).1.length = k := by
  induction k with
  | zero => rfl
  | succ k ih => unfold mapG; rw [List.length_append, ih]; rfl
theorem mapG_all {g : Bool → Int → Int → Int × Bool} (hg : ∀ i x y, InI (g i x y).1) (i : Bool) (a b : List Int) (k : Nat) : AllI (mapG g i a b k).1 := by
  induction k with
  | zero => intro n hn; cases hn
  | succ k ih =>
    intro n hn
    unfold mapG at hn
    rcases List.mem_append.1 hn with hn | hn
    · exact ih n hn
    · simp only [List.mem_singleton] at hn
      rw [hn]; exact hg _ _ _
def gSum (i : Bool) (x y : Int) : Int × Bool := runL opAdd (0, i) [x, y]
def gScale (i : Bool) (x y : Int) : Int × Bool := runL opMul (4294967296, i) [x, y]
/-- A number, by s. -/
def gScaleS (s : Int) (i : Bool) (x y : Int) : Int × Bool := gScale i x s
def gLess (i : Bool) (x y : Int) : Int × Bool := ((opSub x y).1, i || (opSub x y).2)
theorem gSum_in (i : Bool) (x y : Int) : InI (gSum i x y).1 := opAdd_in _ _
theorem gScale_in (i : Bool) (x y : Int) : InI (gScale i x y).1 := opMul_in _ _
theorem gLess_in (i : Bool) (x y : Int) : InI (gLess i x y).1 := by have := fitV_bd (subW x y); unfold gLess opSub; exact ⟨by omega, by omega⟩
theorem gScaleS_in (s : Int) (i : Bool) (x y : Int) : InI (gScaleS s i x y).1 := gScale_in _ _ _
theorem all2 {x y : Int} (hx : InI x) (hy : InI y) : AllI [x, y] := by
  intro n hn
  simp only [List.mem_cons, List.not_mem_nil, or_false] at hn
  rcases hn with rfl | rfl
  · exact hx
  · exact hy
theorem uAdd2 {B : Nat} {i : Bool} {c : Int} {w : World} (h : UA B i c w) {v : Value} {x y : Int} (hx : InI x) (hy : InI y) (hv : SL w B v [x, y]) (hc : 0 ≤ c ∧ c + 2 ≤ 4611686018427387904) :
    Calls Try.prog 55 #[UP B, v] w fun e w' => e = .returned (.int .i64 (gSum i x y).1) ∧ Below (put B (gSum i x y).2 (c + 2) w).heap.size (put B (gSum i x y).2 (c + 2) w) w' :=
  uAdd h v [x, y] (all2 hx hy) hv hc
theorem uMul2 {B : Nat} {i : Bool} {c : Int} {w : World} (h : UA B i c w) {v : Value} {x y : Int} (hx : InI x) (hy : InI y) (hv : SL w B v [x, y]) (hc : 0 ≤ c ∧ c + 2 ≤ 4611686018427387904) :
    Calls Try.prog 61 #[UP B, v] w fun e w' => e = .returned (.int .i64 (gScale i x y).1) ∧ Below (put B (gScale i x y).2 (c + 2) w).heap.size (put B (gScale i x y).2 (c + 2) w) w' :=
  uMul h v [x, y] (all2 hx hy) hv hc
theorem uLess2 {B : Nat} {i : Bool} {c : Int} {w : World} (h : UA B i c w) {x y : Int} (hx : InI x) (hy : InI y) (hc : 0 ≤ c ∧ c + 1 ≤ 4611686018427387904) :
    Calls Try.prog 58 #[UP B, .int .i64 x, .int .i64 y] w fun e w' => e = .returned (.int .i64 (gLess i x y).1) ∧ Below (put B (gLess i x y).2 (c + 1) w).heap.size (put B (gLess i x y).2 (c + 1) w) w' :=
  uSub h ⟨hc.1, by omega⟩ x y hx hy
theorem next_put {B : Nat} {f j : Bool} {cc d : Int} {w W Y Z : World} (hz : Below (put B f cc w).heap.size (put B f cc w) W) (hy : Below W.heap.size W Y) (hb : Below (put B j d Y).heap.size (put B j d Y) Z) :
    Below (put B j d w).heap.size (put B j d w) Z := by
  have h1 := below_put hz B j d
  rw [put_put] at h1
  have h2 := below_put hy B j d
  have s1 := hz.size
  have s2 := hy.size
  simp only [put_size] at h1 h2 hb s1 ⊢
  exact h1.trans ((h2.mono s1).trans (hb.mono (Nat.le_trans s1 s2)))
theorem ownK_put {V w : World} {E : TypeId} {k : IntKind} {v : Value} {zs : List Int} (h : OwnK V w E k v zs) {B : Nat} (hB : B < V.heap.size) (i : Bool) (c : Int) : OwnK V (put B i c w) E k v zs := by
  obtain ⟨h0, h1 | ⟨g, cap, cur, h1, hg, hh, h3⟩⟩ := h
  · exact ⟨h0, .inl h1⟩
  · refine ⟨h0, .inr ⟨g, cap, cur, h1, hg, ?_, h3⟩⟩
    unfold put
    rw [Below.heap_setCell _ ⟨B, 1, none⟩ _ _ (by show g ≠ B; omega), Below.heap_setCell _ ⟨B, 0, none⟩ _ _ (by show g ≠ B; omega)]
    exact hh
theorem cell_via {wr W w' : World} {B b o : Nat} {j : Bool} {d : Int} {v : Value} (kp : Below wr.heap.size wr W) (h : Below (put B j d W).heap.size (put B j d W) w') (hb : b ≠ B) (hc : wr.cell? ⟨b, o, none⟩ = some v) : w'.cell? ⟨b, o, none⟩ = some v := by
  have h1 := World.block_lt_of_cell? wr _ hc
  have h2 : W.cell? ⟨b, o, none⟩ = some v := (kp.cell (p := ⟨b, o, none⟩) h1).trans hc
  have h3 : (put B j d W).cell? ⟨b, o, none⟩ = some v := (put_cell B j d W ⟨b, o, none⟩ hb).trans h2
  exact (h.cell (p := ⟨b, o, none⟩) (World.block_lt_of_cell? _ _ h3)).trans h3
end Go.Proofs.Ytlhadociaekkhaa
