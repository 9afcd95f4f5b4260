/- Package mat: a matrix made of what each place has, whatever the function. -/
import Derived.Test.YtlhadociaekkhaaQMat1
import Derived.Laws.MakeOwn
import Derived.ArgAppend
namespace Go.Proofs.Ytlhadociaekkhaa
set_option linter.unusedVariables false
set_option maxRecDepth 100000
open Go.RowKit Go.Shelf
attribute [local go_sem] Oper.semAt_some
/-- In a round every operation that is no defer statement is carried out as outside. -/
theorem wpIn_round {F : Fence} {n : Nat} {P : Program} {o : Oper} {a : Act} {w : World} {K : Act → World → Prop} {Q : Exit → Act → World → Prop} (l : Nat) (hro : F.round = none) (hnd : ∀ c, o.op ≠ .defer c) (h : o.wpIn F n P a w K Q) : o.wpIn (F.inRound l) n P a w K Q := by
  unfold Oper.wpIn at h ⊢
  rw [hro, Oper.semAt_none] at h
  rw [Fence.inRound_round, Oper.semAt_some _ _ _ hnd]
  refine ⟨h.1, ?_⟩
  have h2 := h.2
  revert h2
  generalize (execOp a.eval o).run P w = r
  intro h2
  exact h2
theorem wpAnyIn_round {F : Fence} {n : Nat} {P : Program} {md : Region.Mode} {ops : Array Oper} {Q : Exit → Act → World → Prop} (l : Nat) (hro : F.round = none) (hnd : (ops.all fun o => match o.op with | .defer _ => false | _ => true) = true) (fuel : Nat) :
    ∀ (listed : Array Bool) (a : Act) (w : World), wpAnyIn F n P md ops Q fuel listed a w → wpAnyIn (F.inRound l) n P md ops Q fuel listed a w := by
  induction fuel with
  | zero => intro s a w h; exact h
  | succ f ih =>
    intro s a w h
    refine ⟨h.1, fun i hi => ?_⟩
    have h1 := wpOpIn_mono (fun a' w' h' => ih _ a' w' h') (h.2 i hi)
    unfold wpOpIn at h1 ⊢
    cases ho : ops[i]? with
    | none => rw [ho] at h1; exact h1
    | some o =>
      rw [ho] at h1
      dsimp only at h1 ⊢
      split
      · rename_i hw
        rw [if_pos hw] at h1
        refine wpIn_round l hro (fun c e => ?_) h1
        obtain ⟨hi', rfl⟩ := Array.getElem?_eq_some_iff.1 ho
        have := (Array.all_eq_true.1 hnd) i hi'
        rw [e] at this
        cases this
      · rename_i hw
        rw [if_neg hw] at h1
        exact h1
theorem mPlaces (r c : Int) (w : World) : Calls Try.prog 64 #[.int .i64 r, .int .i64 c] w fun e w' => e = .returned (.func (.func 76) #[] #[.pointer (some ⟨w.heap.size, 0, none⟩), .pointer (some ⟨w.heap.size + 1, 0, none⟩)]) ∧
    w' = (w.alloc (.cells #[.int .i64 r] 3)).alloc (.cells #[.int .i64 c] 3) := by
  go_enter Try.func64, Try.ntmps64
  go_wp2_with fail
  go_ret
  exact ⟨rfl, rfl⟩
theorem placesS (F : Fence) (n : Nat) (hF : F.fn 76) (hro : F.round = none) (hn : 1 ≤ n) (Br Bc r c N : Nat) (hr : 1 ≤ r ∧ r ≤ 12) (hc : 1 ≤ c ∧ c ≤ 12) (hN : r * c = N) (w : World)
    (hBr : w.cell? ⟨Br, 0, none⟩ = some (.int .i64 r)) (hBc : w.cell? ⟨Bc, 0, none⟩ = some (.int .i64 c)) :
    SeqStopsK F n Try.prog 76 #[.pointer (some ⟨Br, 0, none⟩), .pointer (some ⟨Bc, 0, none⟩)] (encP c (N := N)) (KpP Br Bc) (fun xs => xs.map (·.1) = List.range N) (fun _ => True) N w :=
  fun l J Jx W hW hJ hJx hY h0 => places1 F n hF hro hn l Br Bc r c N hr hc hN J Jx hY W hJ (cell_keep hBr hW) (cell_keep hBc hW) h0
theorem run_app1 {W : World} {b k N bx : Nat} {x : Int} (ty : TypeId) (hk : k < N) (hc : (W.cell? ⟨b, k, none⟩).isSome = true) (hf : W.frozen? ⟨b, k, none⟩ = false) (hx : W.cell? ⟨bx, 0, none⟩ = some (.int .i64 x)) :
    (Builtin.append_ #[22, 22] ty #[.slice (some ⟨b, 0, none⟩) k N, .slice (some ⟨bx, 0, none⟩) 1 1]).run Try.prog W = .ok (.slice (some ⟨b, 0, none⟩) (k + 1) N) (W.setCell ⟨b, k, none⟩ (.int .i64 x)) := by
  obtain ⟨i0, hi, hz0, hz1, hz2⟩ := info_parts infoI
  have := run_append_room_cells (P := Try.prog) W 22 ty 3 i0 Try.underlying22 hi b 0 k N ⟨bx, 0, none⟩ 1 1 [.int .i64 x] (by rw [hz1]; rfl) (by
    intro j u hj
    match j, hj with
    | 0, hj => simp at hj; subst hj; simpa [Addr.add] using hx) (by intro u hu; simp at hu; subst hu; rfl) (by omega) (by
    intro j hj
    have : j = 0 := by simpa using hj
    subst this; rw [hz1]; simpa using hc) (by
    intro j hj
    have : j = 0 := by simpa using hj
    subst this; rw [hz1]; simpa using hf)
  rw [this, hz1]
  simp [World.setCells]
theorem blk_kept {W W' : World} {row : Option Nat} {g : Nat} {t : TypeId} {cs : Array Value} (h : Blk W g t cs) (hg : W.grownBy W' row) (hr : ∀ r, row = some r → ∃ o : Obj, W.heap[r]? = some o ∧ o.isCells = false) : Blk W' g t cs := by
  refine (hg.block g h.lt (fun e => ?_)).trans h
  obtain ⟨o, ho, hc⟩ := hr g e.symm
  unfold Blk at h
  rw [h] at ho
  cases ho
  cases hc
/-- What the places come to, one behind the other: the numbers, and what is carried on. -/
def madeF {σ : Type} (v : σ → Nat → Int) (nx : σ → Nat → σ) (s0 : σ) (l : List Nat) : List Int × σ := l.foldl (fun p x => (p.1 ++ [v p.2 x], nx p.2 x)) ([], s0)
/-- What holds between the rounds. -/
structure MI {σ : Type} (s0 : σ) (base : σ → World) (v : σ → Nat → Int) (nx : σ → Nat → σ) (fv : Value) (r c N b : Nat) (pre : List (Pl N)) (W : World) : Prop where
  below : Below b (base (madeF v nx s0 (pre.map (·.1))).2) W
  size : b + 6 ≤ W.heap.size
  f : Blk W b 60 #[fv]
  res : Blk W (b + 1) 24 #[.int .i64 0, .int .i64 0, .slice none 0 0]
  mkd : ∃ cur : Array Value, cur.size = N ∧ cur.toList.take pre.length = (madeF v nx s0 (pre.map (·.1))).1.map (.int .i64) ∧ Blk W (b + 1 + 1) 3 cur
  m : Blk W (b + 1 + 1 + 1) 24 #[.int .i64 r, .int .i64 c, .slice (some ⟨b + 1 + 1, 0, none⟩) pre.length N]
  rb : Blk W (b + 1 + 1 + 1 + 1) 3 #[.int .i64 r]
  cb : Blk W (b + 1 + 1 + 1 + 1 + 1) 3 #[.int .i64 c]
theorem MI_from {σ : Type} {s0 : σ} {base : σ → World} {v : σ → Nat → Int} {nx : σ → Nat → σ} {fv : Value} {r c N b : Nat} (hb : ∀ s, (base s).heap.size = b) {B : Nat} (hB : b ≤ B) : OwnFrom B (MI s0 base v nx fv r c N b) := by
  intro s W W' row hs hg hr
  have hr2 : ∀ r, row = some r → ∃ o : Obj, W.heap[r]? = some o ∧ o.isCells = false := fun r e => (hr r e).2
  obtain ⟨h1, h2, h3, h4, ⟨cur, h5, h6, h7⟩, h8, h9, h10⟩ := hs
  exact ⟨h1.grown hg (Nat.le_trans (Nat.le_of_eq (hb _).symm) h1.size) (fun k e => Nat.le_trans hB (hr k e).1), Nat.le_trans h2 hg.size, blk_kept h3 hg hr2, blk_kept h4 hg hr2, ⟨cur, h5, h6, blk_kept h7 hg hr2⟩, blk_kept h8 hg hr2, blk_kept h9 hg hr2, blk_kept h10 hg hr2⟩
theorem madeF_snoc {σ : Type} (v : σ → Nat → Int) (nx : σ → Nat → σ) (s0 : σ) (l : List Nat) (x : Nat) : madeF v nx s0 (l ++ [x]) = ((madeF v nx s0 l).1 ++ [v (madeF v nx s0 l).2 x], nx (madeF v nx s0 l).2 x) := by
  unfold madeF; rw [List.foldl_append]; rfl
theorem madeF_len {σ : Type} (v : σ → Nat → Int) (nx : σ → Nat → σ) (s0 : σ) (l : List Nat) : (madeF v nx s0 l).1.length = l.length := by
  have : ∀ (l : List Nat) (p : List Int × σ), (l.foldl (fun p x => (p.1 ++ [v p.2 x], nx p.2 x)) p).1.length = p.1.length + l.length := by
    intro l
    induction l with
    | nil => intro p; rfl
    | cons a l ih => intro p; rw [List.foldl_cons, ih]; simp; omega
  unfold madeF; rw [this]; simp
theorem madeF_ok {σ : Type} (ok : Nat → σ → Prop) (v : σ → Nat → Int) (nx : σ → Nat → σ) (s0 : σ) (ok0 : ok 0 s0) (ok1 : ∀ k s x, ok k s → ok (k + 1) (nx s x)) (l : List Nat) : ok l.length (madeF v nx s0 l).2 := by
  have : ∀ (l : List Nat) (p : List Int × σ) (k : Nat), ok k p.2 → ok (k + l.length) (l.foldl (fun p x => (p.1 ++ [v p.2 x], nx p.2 x)) p).2 := by
    intro l
    induction l with
    | nil => intro p k h; exact h
    | cons a l ih =>
      intro p k h
      rw [List.foldl_cons, List.length_cons, show k + (l.length + 1) = k + 1 + l.length by omega]
      exact ih _ _ (ok1 _ _ _ h)
  have := this l ([], s0) 0 ok0
  rwa [Nat.zero_add] at this
theorem MI_next {σ : Type} {s0 : σ} {base : σ → World} {v : σ → Nat → Int} {nx : σ → Nat → σ} {fv : Value} {r c N b : Nat} (hb : ∀ s, (base s).heap.size = b) (hko : ∀ s s', KeepsOthers (base s) (base s')) {pre : List (Pl N)} {W : World}
    (h : MI s0 base v nx fv r c N b pre W) (x : Pl N) (hl : pre.length < N) {W' : World} (j1 : Below b (base (nx (madeF v nx s0 (pre.map (·.1))).2 x.1)) W') (j2 : W.heap.size ≤ W'.heap.size) (j5 : ∀ k, b ≤ k → k < W.heap.size → W'.heap[k]? = W.heap[k]?)
    {y : Int} (hy : y = v (madeF v nx s0 (pre.map (·.1))).2 x.1) (o : Obj) (Wf : World) (hWf : Wf = (((W'.setCell ⟨b + 1 + 1, pre.length, none⟩ (.int .i64 y)).setCell ⟨b + 1 + 1 + 1, 2, none⟩ (.slice (some ⟨b + 1 + 1, 0, none⟩) (pre.length + 1) N)).alloc o)) :
    KeepsOthers W Wf ∧ KpP (b + 1 + 1 + 1 + 1) (b + 1 + 1 + 1 + 1 + 1) W Wf ∧ MI s0 base v nx fv r c N b (pre ++ [x]) Wf := by
  obtain ⟨i1, i2, i3, i4, ⟨cur, i5, i6, i7⟩, i8, i9, i10⟩ := h
  have k3 : Blk W' b 60 #[fv] := (j5 _ (by omega) (by omega)).trans i3
  have k4 : Blk W' (b + 1) 24 _ := (j5 _ (by omega) (by omega)).trans i4
  have k7 : Blk W' (b + 1 + 1) 3 cur := (j5 _ (by omega) (by omega)).trans i7
  have k8 : Blk W' (b + 1 + 1 + 1) 24 _ := (j5 _ (by omega) (by omega)).trans i8
  have k9 : Blk W' (b + 1 + 1 + 1 + 1) 3 _ := (j5 _ (by omega) (by omega)).trans i9
  have k10 : Blk W' (b + 1 + 1 + 1 + 1 + 1) 3 _ := (j5 _ (by omega) (by omega)).trans i10
  have al : ∀ {g : Nat} {t : TypeId} {cs : Array Value}, g ≠ b + 1 + 1 → g ≠ b + 1 + 1 + 1 → Blk W' g t cs → Blk Wf g t cs := by
    intro g t cs h1 h2 hg
    rw [hWf]
    exact ((hg.far h1 _).far h2 _).keep ((Below.refl _ _).alloc (Nat.le_refl _) _)
  have m7 : Blk Wf (b + 1 + 1) 3 (cur.setIfInBounds pre.length (.int .i64 y)) := by
    rw [hWf]
    exact ((k7.set _ _).far (by omega) _).keep ((Below.refl _ _).alloc (Nat.le_refl _) _)
  have m8 : Blk Wf (b + 1 + 1 + 1) 24 #[.int .i64 r, .int .i64 c, .slice (some ⟨b + 1 + 1, 0, none⟩) (pre.length + 1) N] := by
    rw [hWf]
    exact ((k8.far (by omega) _).set 2 _).keep ((Below.refl _ _).alloc (Nat.le_refl _) _)
  have n9 := al (by omega) (by omega) k9
  have n10 := al (by omega) (by omega) k10
  have hsz : W'.heap.size + 1 = Wf.heap.size := by rw [hWf]; simp [World.setCell]
  have kw : KeepsOthers W W' := by
    refine ⟨j2, fun k o hk ho => ?_⟩
    by_cases hkb : k < b
    · have e1 := i1.block k hkb
      rw [hk] at e1
      have e2 := (hko _ (nx (madeF v nx s0 (pre.map (·.1))).2 x.1)).same k o e1.symm ho
      exact (j1.block k hkb).trans e2
    · exact (j5 k (by omega) (Array.getElem?_eq_some_iff.1 hk).1).trans hk
  refine ⟨?_, ⟨by omega, (n9.cell 0).trans (i9.cell 0).symm, (n10.cell 0).trans (i10.cell 0).symm⟩, ?_⟩
  · rw [hWf]
    exact ((kw.trans (KeepsOthers.setCell _ _ _)).trans (KeepsOthers.setCell _ _ _)).trans (KeepsOthers.alloc _ _)
  · refine ⟨?_, by omega, al (by omega) (by omega) k3, al (by omega) (by omega) k4, ⟨_, ?_, ?_, m7⟩, ?_, n9, n10⟩
    · rw [List.map_append, List.map_cons, List.map_nil, madeF_snoc, hWf]
      exact ((j1.setCell (by show b ≤ b + 1 + 1; omega) _).setCell (by show b ≤ b + 1 + 1 + 1; omega) _).alloc (by simp [World.setCell]; omega) _
    · simp [i5]
    · rw [List.map_append, List.map_cons, List.map_nil, madeF_snoc]
      rw [List.length_append, List.length_singleton, List.map_append, List.map_cons, List.map_nil, ← i6, ← hy]
      rw [Array.toList_setIfInBounds]
      have hlc : pre.length < cur.toList.length := by simpa [i5] using hl
      rw [List.take_succ_eq_append_getElem (by simpa using hlc)]
      congr 1
      · rw [List.take_set_of_le (Nat.le_refl _)]
      · simp
    · rw [List.length_append, List.length_singleton]; exact m8
set_option maxHeartbeats 4000000 in
theorem madeG (fK : FuncId) (caps : Array Value) (hen : ∀ (args : Array Value) (w : World), (callFunc fK args).run Try.prog w = .ok (.enter fK args) w) {σ : Type} (s0 : σ) (base : σ → World) (v : σ → Nat → Int) (nx : σ → Nat → σ)
    (r c N : Nat) (hr : 1 ≤ r ∧ r ≤ 12) (hc : 1 ≤ c ∧ c ≤ 12) (hN : r * c = N) (w : World) (hbase : ∀ s, (base s).heap.size = w.heap.size) (hko : ∀ s s', KeepsOthers (base s) (base s')) (h0 : base s0 = w)
    (ok : Nat → σ → Prop) (ok0 : ok 0 s0) (ok1 : ∀ k s x, ok k s → ok (k + 1) (nx s x))
    (hat : ∀ (k : Nat) (s : σ) (x : Pl N) (W : World), k < N → ok k s → Below w.heap.size (base s) W → Calls Try.prog fK (#[.int .i64 ((x.1 / c : Nat) : Int), .int .i64 ((x.1 % c : Nat) : Int)] ++ caps) W fun e W' =>
      e = .returned (.int .i64 (v s x.1)) ∧ Below w.heap.size (base (nx s x.1)) W' ∧ W.heap.size ≤ W'.heap.size ∧ ∀ k, w.heap.size ≤ k → k < W.heap.size → W'.heap[k]? = W.heap[k]?) :
    Calls Try.prog 45 #[.int .i64 r, .int .i64 c, .func (.func fK) #[] caps] w fun e w' => ∃ A cap, e = .returned (.agg #[.int .i64 r, .int .i64 c, .slice A N cap]) ∧ OwnI w w' (.slice A N cap) (madeF v nx s0 (List.range N)).1 ∧
      Below w.heap.size (base (madeF v nx s0 (List.range N)).2) w' := by
  have hmul : (r : Int) * (c : Int) = (N : Int) := by rw [← hN]; simp
  have hN1 : N ≤ 144 := by
    have := Nat.mul_le_mul hr.2 hc.2
    omega
  obtain ⟨MK, hMK, hmk⟩ : ∃ MK : Array Value, MK.size = N * 1 ∧ ∀ w : World, (Instr.makeSlice 22 (.int .i64 0) (.int .i64 N)).run Try.prog w = .ok (.slice (some ⟨w.heap.size, 0, none⟩) 0 N) (w.alloc (.cells MK 3)) := by
    obtain ⟨i0, hi, hz0, hz1, hz2⟩ := info_parts infoI
    refine ⟨_, ?_, fun w => by have := run_make (P := Try.prog) w 22 3 i0 _ Try.underlying22 hi hz0 .i64 .i64 0 N (by omega) (by omega) (by rw [hz2]; omega) (by omega); simpa using this⟩
    rw [size_madeCells, hz1]
  refine (callsIn_wide (n := 6)).1 ?_
  refine callsIn_of_wp_marks Try.func45 rfl trivial ?_ rfl
  simp only [Try.ntmps45, List.size_toArray, List.length_cons, List.length_nil, Nat.reduceAdd, Nat.reduceSub, Array.replicate_succ, Array.replicate_zero, List.push_toArray, List.append_toArray, List.nil_append, List.cons_append]
  gi_wp2_with (refine ⟨trivial, ?_⟩; gi_at_call 64; refine (callsIn_wide.2 (mPlaces _ _ _)).mono ?_; rintro e w' ⟨rfl, rfl⟩)
  obtain ⟨b, hb⟩ : ∃ b, b = w.heap.size := ⟨_, rfl⟩
  have hB0 : ∀ W, MI s0 base v nx (.func (.func fK) #[] caps) r c N b [] W → True := fun _ _ => trivial
  refine wpIn_rangeFunc_ownF rfl (by omega) (gf := 76) (lb := #[.pointer (some ⟨w.heap.size + 1 + 1 + 1 + 1, 0, none⟩), .pointer (some ⟨w.heap.size + 1 + 1 + 1 + 1 + 1, 0, none⟩)]) rfl trivial (enters_of Try.func76 (by kernel_rfl) rfl)
    (placesS Fence.wide 5 trivial rfl (by omega) (w.heap.size + 1 + 1 + 1 + 1) (w.heap.size + 1 + 1 + 1 + 1 + 1) r c N hr hc hN _ ?cr ?cc) ?kt ?kb (Below.refl _ _) (fun _ => rfl)
    (MI s0 base v nx (.func (.func fK) #[] caps) r c N w.heap.size) (fun _ _ _ => False) (MI_from hbase (by simp only [World.size_alloc]; omega)) (fun _ _ _ _ _ hs _ _ => hs) ?start
    (fun x => { tmps := #[.int .i64 r, .int .i64 c, .func (.func fK) #[] caps, undef, undef, .pointer (some ⟨w.heap.size, 0, none⟩), .pointer (some ⟨w.heap.size + 1, 0, none⟩), .pointer (some ⟨w.heap.size + 1 + 1 + 1, 0, none⟩), .int .i64 ((x.1 / c : Nat) : Int), .int .i64 ((x.1 % c : Nat) : Int), .int .i64 r, .int .i64 c, .int .i64 r, .int .i64 c, .int .i64 N,
      .slice (some ⟨w.heap.size + 1 + 1, 0, none⟩) 0 N, .agg #[.int .i64 r, .int .i64 c, .slice (some ⟨w.heap.size + 1 + 1, 0, none⟩) 0 N], .int .i64 r, .int .i64 c, .func (.func 76) #[] #[.pointer (some ⟨w.heap.size + 1 + 1 + 1 + 1, 0, none⟩), .pointer (some ⟨w.heap.size + 1 + 1 + 1 + 1 + 1, 0, none⟩)],
      .int .i64 ((x.1 / c : Nat) : Int), .int .i64 ((x.1 % c : Nat) : Int), undef, undef, undef, undef, undef, undef, undef, undef, undef, undef], defers := [] }) ?assign ?body ?done ?stop
  case cr => simp [go_sem]
  case cc => simp [go_sem]
  case kt => intro A B C h k; exact ⟨Nat.le_trans h.1 k.1, k.2.1.trans h.2.1, k.2.2.trans h.2.2⟩
  case kb =>
    intro W l o o' hl ho h1 h2
    simp only [World.size_alloc] at hl
    refine ⟨by simp [World.putObj], ?_, ?_⟩
    · unfold World.cell?; rw [World.putObj_heap_other (show w.heap.size + 1 + 1 + 1 + 1 ≠ l by omega)]
    · unfold World.cell?; rw [World.putObj_heap_other (show w.heap.size + 1 + 1 + 1 + 1 + 1 ≠ l by omega)]
  case start =>
    have be : ∀ (V : World) (o : Obj), Below V.heap.size V (V.alloc o) := fun V o => (Below.refl _ _).alloc (Nat.le_refl _) _
    have a1 : Blk (w.alloc (.cells #[.func (.func fK) #[] caps] 60)) w.heap.size 60 _ := Blk.new _ _ _
    generalize hw1 : w.alloc (.cells #[.func (.func fK) #[] caps] 60) = w1 at *
    have e1 : w1.heap.size = w.heap.size + 1 := by rw [← hw1]; simp
    have b1 : Below w.heap.size w w1 := by rw [← hw1]; exact be _ _
    have a2 := Blk.new w1 24 #[.int .i64 0, .int .i64 0, .slice none 0 0]
    have a1 := a1.keep (be w1 (.cells #[.int .i64 0, .int .i64 0, .slice none 0 0] 24))
    generalize hw2 : w1.alloc (.cells #[.int .i64 0, .int .i64 0, .slice none 0 0] 24) = w2 at *
    have e2 : w2.heap.size = w.heap.size + 1 + 1 := by rw [← hw2]; simp [e1]
    have b2 : Below w.heap.size w w2 := by rw [← hw2]; exact b1.alloc (by omega) _
    have a3 := Blk.new w2 3 MK
    have a1 := a1.keep (be w2 (.cells MK 3))
    have a2 := a2.keep (be w2 (.cells MK 3))
    generalize hw3 : w2.alloc (.cells MK 3) = w3 at *
    have e3 : w3.heap.size = w.heap.size + 1 + 1 + 1 := by rw [← hw3]; simp [e2]
    have b3 : Below w.heap.size w w3 := by rw [← hw3]; exact b2.alloc (by omega) _
    have a4 := Blk.new w3 24 #[.int .i64 r, .int .i64 c, .slice (some ⟨w.heap.size + 1 + 1, 0, none⟩) 0 N]
    have a1 := a1.keep (be w3 (.cells #[.int .i64 r, .int .i64 c, .slice (some ⟨w.heap.size + 1 + 1, 0, none⟩) 0 N] 24))
    have a2 := a2.keep (be w3 (.cells #[.int .i64 r, .int .i64 c, .slice (some ⟨w.heap.size + 1 + 1, 0, none⟩) 0 N] 24))
    have a3 := a3.keep (be w3 (.cells #[.int .i64 r, .int .i64 c, .slice (some ⟨w.heap.size + 1 + 1, 0, none⟩) 0 N] 24))
    generalize hw4 : w3.alloc (.cells #[.int .i64 r, .int .i64 c, .slice (some ⟨w.heap.size + 1 + 1, 0, none⟩) 0 N] 24) = w4 at *
    have e4 : w4.heap.size = w.heap.size + 1 + 1 + 1 + 1 := by rw [← hw4]; simp [e3]
    have b4 : Below w.heap.size w w4 := by rw [← hw4]; exact b3.alloc (by omega) _
    have a5 := Blk.new w4 3 #[.int .i64 r]
    have a1 := a1.keep (be w4 (.cells #[.int .i64 r] 3))
    have a2 := a2.keep (be w4 (.cells #[.int .i64 r] 3))
    have a3 := a3.keep (be w4 (.cells #[.int .i64 r] 3))
    have a4 := a4.keep (be w4 (.cells #[.int .i64 r] 3))
    generalize hw5 : w4.alloc (.cells #[.int .i64 r] 3) = w5 at *
    have e5 : w5.heap.size = w.heap.size + 1 + 1 + 1 + 1 + 1 := by rw [← hw5]; simp [e4]
    have b5 : Below w.heap.size w w5 := by rw [← hw5]; exact b4.alloc (by omega) _
    have a6 := Blk.new w5 3 #[.int .i64 c]
    have a1 := a1.keep (be w5 (.cells #[.int .i64 c] 3))
    have a2 := a2.keep (be w5 (.cells #[.int .i64 c] 3))
    have a3 := a3.keep (be w5 (.cells #[.int .i64 c] 3))
    have a4 := a4.keep (be w5 (.cells #[.int .i64 c] 3))
    have a5 := a5.keep (be w5 (.cells #[.int .i64 c] 3))
    rw [e1] at a2; rw [e2] at a3; rw [e3] at a4; rw [e4] at a5; rw [e5] at a6
    exact ⟨by show Below _ (base s0) _; rw [h0]; exact b5.alloc (by omega) _, by simp [e5], a1, a2, ⟨MK, by omega, rfl, a3⟩, a4, a5, a6⟩
  case assign =>
    intro l x W K hK
    gi_wp2
    exact hK
  case stop =>
    rintro D c pre W _ _ h _
    exact h.elim
  case done =>
    rintro D xs W hD hxs hI hK
    have r0 : W.cell? ⟨w.heap.size + 1 + 1 + 1, 0, none⟩ = some (.int .i64 r) := hI.m.cell 0
    have r1 : W.cell? ⟨w.heap.size + 1 + 1 + 1, 1, none⟩ = some (.int .i64 c) := hI.m.cell 1
    have r2 : W.cell? ⟨w.heap.size + 1 + 1 + 1, 2, none⟩ = some (.slice (some ⟨w.heap.size + 1 + 1, 0, none⟩) xs.length N) := hI.m.cell 2
    have q0 : W.frozen? ⟨w.heap.size + 1, 0, none⟩ = false := hI.res.mark 0
    have q1 : W.frozen? ⟨w.heap.size + 1, 1, none⟩ = false := hI.res.mark 1
    have q2 : W.frozen? ⟨w.heap.size + 1, 2, none⟩ = false := hI.res.mark 2
    have p0 : W.cell? ⟨w.heap.size + 1, 0, none⟩ = some (.int .i64 0) := hI.res.cell 0
    have p1 : W.cell? ⟨w.heap.size + 1, 1, none⟩ = some (.int .i64 0) := hI.res.cell 1
    have p2 : W.cell? ⟨w.heap.size + 1, 2, none⟩ = some (.slice none 0 0) := hI.res.cell 2
    have hlen : xs.length = N := by have := congrArg List.length hxs; simpa using this
    have hxs2 := Lib.hid hxs
    have HI := Lib.hid hI
    have hD := hD
    clear hI hxs hat hmk ok0 ok1 h0 hko hbase
    gi_wp2
    obtain ⟨WW, hWW⟩ : ∃ WW, WW = ((W.setCell ⟨w.heap.size + 1, 0, none⟩ (.int .i64 r)).setCell ⟨w.heap.size + 1, 1, none⟩ (.int .i64 c)).setCell ⟨w.heap.size + 1, 2, none⟩ (.slice (some ⟨w.heap.size + 1 + 1, 0, none⟩) N N) := ⟨_, rfl⟩
    have hK' : WW.heap[D]? = some (.deferred (some [])) := by
      rw [hWW]
      exact (((KeepsOthers.setCell W ⟨w.heap.size + 1, 0, none⟩ (.int .i64 r)).trans (KeepsOthers.setCell _ ⟨w.heap.size + 1, 1, none⟩ (.int .i64 c))).trans (KeepsOthers.setCell _ ⟨w.heap.size + 1, 2, none⟩ (.slice (some ⟨w.heap.size + 1 + 1, 0, none⟩) N N))).same D _ hK rfl
    have B1 : Blk WW (w.heap.size + 1) 24 #[.int .i64 r, .int .i64 c, .slice (some ⟨w.heap.size + 1 + 1, 0, none⟩) N N] := by
      rw [hWW]
      exact ((HI.out.res.set 0 _).set 1 _).set 2 _
    obtain ⟨cur, s1, s2, s3⟩ := HI.out.mkd
    have B3 : Blk WW (w.heap.size + 1 + 1) 3 cur := by
      rw [hWW]
      exact ((s3.far (by omega) _).far (by omega) _).far (by omega) _
    have L1 : Below w.heap.size (base (madeF v nx s0 (xs.map (·.1))).2) WW := by
      rw [hWW]
      exact ((HI.out.below.setCell (by show w.heap.size ≤ w.heap.size + 1; omega) _).setCell (by show w.heap.size ≤ w.heap.size + 1; omega) _).setCell (by show w.heap.size ≤ w.heap.size + 1; omega) _
    rw [← hWW]
    clear hWW
    refine ⟨by simp, .inl ⟨_, _, rfl, run_takeDeferred hK', ?_⟩⟩
    have hrow : ∀ r : Nat, some D = some r → ∃ o : Obj, WW.heap[r]? = some o ∧ o.isCells = false := fun r e => by cases e; exact ⟨_, hK', rfl⟩
    have B2 := blk_kept B1 (grownBy_putObj' WW D (.deferred none)) hrow
    have B4 := blk_kept B3 (grownBy_putObj' WW D (.deferred none)) hrow
    have L2 := L1.grown (grownBy_putObj' WW D (.deferred none)) (by have := B1.lt; omega) (fun k e => by cases e; simp only [World.size_alloc] at hD; omega)
    have c0 := B2.cell 0
    have c1 := B2.cell 1
    have c2 := B2.cell 2
    rw [hxs2.out] at L2 s2
    rw [hlen] at s2
    refine ⟨.agg #[.int .i64 r, .int .i64 c, .slice (some ⟨w.heap.size + 1 + 1, 0, none⟩) N N], ?_, _, _, rfl, ⟨by rw [List.length_map, Nat.mul_one], .inr ⟨w.heap.size + 1 + 1, N, cur, ?_, by omega, B4, ?_, ?_, by omega, ?_⟩⟩, L2⟩
    · simp at c0 c1 c2
      simp [results, Try.f45, go_sem, c0, c1, c2]
    · rw [madeF_len, List.length_range]
    · rw [madeF_len, List.length_range]; exact Nat.le_refl _
    · unfold maxLen; omega
    · rw [madeF_len, List.length_range, Nat.mul_one]; exact s2
  case body =>
    rintro l pre x W hI hlen
    have HH := Lib.hid hI
    have HOK := madeF_ok ok v nx s0 ok0 ok1 (pre.map (·.1))
    rw [List.length_map] at HOK
    have hmx : Try.prog.follows .mixedOrders = true := by kernel_rfl
    obtain ⟨i1, i2, i3, i4, ⟨cur, i5, i6, i7⟩, i8, i9, i10⟩ := hI
    have f0 : W.cell? ⟨w.heap.size, 0, none⟩ = some (.func (.func fK) #[] caps) := i3.cell 0
    have m2 : W.cell? ⟨w.heap.size + 1 + 1 + 1, 2, none⟩ = some (.slice (some ⟨w.heap.size + 1 + 1, 0, none⟩) pre.length N) := i8.cell 2
    have g2 : W.frozen? ⟨w.heap.size + 1 + 1 + 1, 2, none⟩ = false := i8.mark 2
    obtain ⟨y, hy⟩ : ∃ y, y = v (madeF v nx s0 (pre.map (·.1))).2 x.1 := ⟨_, rfl⟩
    obtain ⟨u0, hu0⟩ : ∃ u0, cur[pre.length]? = some u0 := ⟨_, Array.getElem?_eq_getElem (by omega)⟩
    have HAT : CallsIn Fence.wide 3 Try.prog fK (#[.int .i64 ((x.1 : Int) / (c : Int)), .int .i64 ((x.1 : Int) % (c : Int))] ++ caps) W.drew fun e W' =>
        e = .returned (.int .i64 y) ∧ Below w.heap.size (base (nx (madeF v nx s0 (pre.map (·.1))).2 x.1)) W' ∧ W.heap.size ≤ W'.heap.size ∧
        W'.cell? ⟨w.heap.size + 1 + 1 + 1, 2, none⟩ = some (.slice (some ⟨w.heap.size + 1 + 1, 0, none⟩) pre.length N) ∧ W'.frozen? ⟨w.heap.size + 1 + 1 + 1, 2, none⟩ = false ∧ (∀ k, w.heap.size ≤ k → k < W.heap.size → W'.heap[k]? = W.heap[k]?) ∧
        W'.cell? ⟨w.heap.size + 1 + 1, pre.length, none⟩ = some u0 ∧ W'.frozen? ⟨w.heap.size + 1 + 1, pre.length, none⟩ = false ∧ w.heap.size + 1 + 1 < W'.heap.size ∧ w.heap.size + 1 + 1 + 1 < W'.heap.size := by
      have e0 : ((x.1 / c : Nat) : Int) = (x.1 : Int) / (c : Int) := by simp
      have e1 : ((x.1 % c : Nat) : Int) = (x.1 : Int) % (c : Int) := by simp
      rw [← e0, ← e1]
      refine ((callsIn_wide.2 (hat _ _ x _ hlen HOK (i1.grown (grownBy_drew W) (by have := i1.size; rw [hbase] at this; exact this) (fun k e => by cases e))))).mono ?_
      rintro e W' ⟨h1, h2, h3, h4⟩
      have h8 : Blk W' (w.heap.size + 1 + 1 + 1) 24 _ := (h4 _ (by omega) (by show _ < W.heap.size; omega)).trans i8
      have h7 : Blk W' (w.heap.size + 1 + 1) 3 cur := (h4 _ (by omega) (by show _ < W.heap.size; omega)).trans i7
      exact ⟨by rw [hy]; exact h1, h2, h3, h8.cell 2, h8.mark 2, h4, (h7.cell _).trans hu0, h7.mark _, h7.lt, h8.lt⟩
    have hroom : pre.length + 1 ≤ N := hlen
    have HY := Lib.hid hy
    clear hy hat hmk HOK ok0 ok1 i1 i2 i3 i4 i6 i8 i9 i10 h0 hmul hMK MK hu0 i7 i5
    gi_wp2
    refine wpIn_region_any hmx ?_
    try (change wpAnyIn _ _ _ _ _ _ _ _ _ (World.drew _))
    refine wpAnyIn_round (F := Fence.wide) l rfl (by kernel_rfl) _ _ _ _ ?_
    refine wpAnyIn_take (i := 0) (v := ?_) rfl rfl (by kernel_rfl) (by kernel_rfl) (by kernel_rfl) (fun _ _ _ h => h) ⟨Or.inl ⟨by rfl, ?_⟩, fun _ => rfl⟩ ?_; rotate_left 1
    · intro w; go_simp <;> with_reducible rfl
    refine wpAnyIn_take (i := 3) (v := ?_) rfl rfl (by kernel_rfl) (by kernel_rfl) (by kernel_rfl) (fun _ _ _ h => h) ⟨Or.inl ⟨by rfl, ?_⟩, fun _ => rfl⟩ ?_; rotate_left 1
    · intro w; go_simp <;> with_reducible rfl
    refine wpAnyIn_take (i := 4) (v := ?_) rfl rfl (by kernel_rfl) (by kernel_rfl) (by kernel_rfl) (fun _ _ _ h => h) ⟨Or.inl ⟨by rfl, ?_⟩, fun _ => rfl⟩ ?_; rotate_left 1
    · intro w; go_simp <;> with_reducible rfl
    refine wpAnyIn_ready (rs := [1, 2]) (by kernel_rfl) (by simp) ?_
    refine AllReadyIn.cons rfl (fun K hK => ?_) ?_
    · go_simp
      refine hK _ _ ?_; clear hK K
      refine wpAnyIn_ready (rs := [2]) (by kernel_rfl) (by simp) ?_
      refine AllReadyIn.cons rfl (fun K hK => ?_) ?_
      · go_simp
        refine hK _ _ ?_; clear hK K
        refine wpAnyIn_ready (rs := [5]) (by kernel_rfl) (by simp) ?_
        refine AllReadyIn.cons rfl (fun K hK => ?_) ?_
        · go_simp
          gi_wp2_with (refine ⟨trivial, ?_⟩; refine HAT.mono ?_; rintro e W' ⟨rfl, j1, j2, j3, j4, j5, j6, j7, j8, j9⟩)
          refine wpAnyIn_ready (rs := [6]) (by kernel_rfl) (by simp) ?_
          refine AllReadyIn.cons rfl (fun K hK => ?_) ?_
          · go_simp
            refine hK _ _ ?_; clear hK K
            refine wpAnyIn_ready (rs := [7]) (by kernel_rfl) (by simp) ?_
            refine AllReadyIn.cons rfl (fun K hK => ?_) ?_
            · go_simp
              refine hK _ _ ?_; clear hK K
              refine wpAnyIn_take (i := 8) (v := ?_) rfl rfl (by kernel_rfl) (by kernel_rfl) (by kernel_rfl) (fun _ _ _ h => h) ⟨Or.inl ⟨by rfl, ?_⟩, fun _ => rfl⟩ ?_; rotate_left 1
              · intro w; go_simp <;> with_reducible rfl
              refine wpAnyIn_ready (rs := [9]) (by kernel_rfl) (by simp) ?_
              refine AllReadyIn.cons rfl (fun K hK => ?_) ?_
              · go_simp
                refine hK _ _ ?_; clear hK K
                refine wpAnyIn_done (by kernel_rfl) ?_ _
                exact MI_next hbase hko HH.out x hlen j1 j2 j5 HY.out _ _ rfl
              exact AllReadyIn.nil
            exact AllReadyIn.nil
          exact AllReadyIn.nil
        exact AllReadyIn.nil
      exact AllReadyIn.nil
    refine AllReadyIn.cons rfl (fun K hK => ?_) ?_
    · go_simp
      refine hK _ _ ?_; clear hK K
      refine wpAnyIn_ready (rs := [1, 5]) (by kernel_rfl) (by simp) ?_
      refine AllReadyIn.cons rfl (fun K hK => ?_) ?_
      · go_simp
        refine hK _ _ ?_; clear hK K
        refine wpAnyIn_ready (rs := [5]) (by kernel_rfl) (by simp) ?_
        refine AllReadyIn.cons rfl (fun K hK => ?_) ?_
        · go_simp
          gi_wp2_with (refine ⟨trivial, ?_⟩; refine HAT.mono ?_; rintro e W' ⟨rfl, j1, j2, j3, j4, j5, j6, j7, j8, j9⟩)
          refine wpAnyIn_ready (rs := [6]) (by kernel_rfl) (by simp) ?_
          refine AllReadyIn.cons rfl (fun K hK => ?_) ?_
          · go_simp
            refine hK _ _ ?_; clear hK K
            refine wpAnyIn_ready (rs := [7]) (by kernel_rfl) (by simp) ?_
            refine AllReadyIn.cons rfl (fun K hK => ?_) ?_
            · go_simp
              refine hK _ _ ?_; clear hK K
              refine wpAnyIn_take (i := 8) (v := ?_) rfl rfl (by kernel_rfl) (by kernel_rfl) (by kernel_rfl) (fun _ _ _ h => h) ⟨Or.inl ⟨by rfl, ?_⟩, fun _ => rfl⟩ ?_; rotate_left 1
              · intro w; go_simp <;> with_reducible rfl
              refine wpAnyIn_ready (rs := [9]) (by kernel_rfl) (by simp) ?_
              refine AllReadyIn.cons rfl (fun K hK => ?_) ?_
              · go_simp
                refine hK _ _ ?_; clear hK K
                refine wpAnyIn_done (by kernel_rfl) ?_ _
                exact MI_next hbase hko HH.out x hlen j1 j2 j5 HY.out _ _ rfl
              exact AllReadyIn.nil
            exact AllReadyIn.nil
          exact AllReadyIn.nil
        exact AllReadyIn.nil
      refine AllReadyIn.cons rfl (fun K hK => ?_) ?_
      · go_simp
        gi_wp2_with (refine ⟨trivial, ?_⟩; refine HAT.mono ?_; rintro e W' ⟨rfl, j1, j2, j3, j4, j5, j6, j7, j8, j9⟩)
        refine wpAnyIn_ready (rs := [1, 6]) (by kernel_rfl) (by simp) ?_
        refine AllReadyIn.cons rfl (fun K hK => ?_) ?_
        · go_simp
          refine hK _ _ ?_; clear hK K
          refine wpAnyIn_ready (rs := [6]) (by kernel_rfl) (by simp) ?_
          refine AllReadyIn.cons rfl (fun K hK => ?_) ?_
          · go_simp
            refine hK _ _ ?_; clear hK K
            refine wpAnyIn_ready (rs := [7]) (by kernel_rfl) (by simp) ?_
            refine AllReadyIn.cons rfl (fun K hK => ?_) ?_
            · go_simp
              refine hK _ _ ?_; clear hK K
              refine wpAnyIn_take (i := 8) (v := ?_) rfl rfl (by kernel_rfl) (by kernel_rfl) (by kernel_rfl) (fun _ _ _ h => h) ⟨Or.inl ⟨by rfl, ?_⟩, fun _ => rfl⟩ ?_; rotate_left 1
              · intro w; go_simp <;> with_reducible rfl
              refine wpAnyIn_ready (rs := [9]) (by kernel_rfl) (by simp) ?_
              refine AllReadyIn.cons rfl (fun K hK => ?_) ?_
              · go_simp
                refine hK _ _ ?_; clear hK K
                refine wpAnyIn_done (by kernel_rfl) ?_ _
                exact MI_next hbase hko HH.out x hlen j1 j2 j5 HY.out _ _ rfl
              exact AllReadyIn.nil
            exact AllReadyIn.nil
          exact AllReadyIn.nil
        refine AllReadyIn.cons rfl (fun K hK => ?_) ?_
        · go_simp
          refine hK _ _ ?_; clear hK K
          refine wpAnyIn_ready (rs := [1]) (by kernel_rfl) (by simp) ?_
          refine AllReadyIn.cons rfl (fun K hK => ?_) ?_
          · go_simp
            refine hK _ _ ?_; clear hK K
            refine wpAnyIn_ready (rs := [7]) (by kernel_rfl) (by simp) ?_
            refine AllReadyIn.cons rfl (fun K hK => ?_) ?_
            · go_simp
              refine hK _ _ ?_; clear hK K
              refine wpAnyIn_take (i := 8) (v := ?_) rfl rfl (by kernel_rfl) (by kernel_rfl) (by kernel_rfl) (fun _ _ _ h => h) ⟨Or.inl ⟨by rfl, ?_⟩, fun _ => rfl⟩ ?_; rotate_left 1
              · intro w; go_simp <;> with_reducible rfl
              refine wpAnyIn_ready (rs := [9]) (by kernel_rfl) (by simp) ?_
              refine AllReadyIn.cons rfl (fun K hK => ?_) ?_
              · go_simp
                refine hK _ _ ?_; clear hK K
                refine wpAnyIn_done (by kernel_rfl) ?_ _
                exact MI_next hbase hko HH.out x hlen j1 j2 j5 HY.out _ _ rfl
              exact AllReadyIn.nil
            exact AllReadyIn.nil
          exact AllReadyIn.nil
        exact AllReadyIn.nil
      exact AllReadyIn.nil
    exact AllReadyIn.nil
end Go.Proofs.Ytlhadociaekkhaa
